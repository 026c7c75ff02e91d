/-
  CONTRACTS: the name of a code.
-/
import Derived.Test.YtlebkjkiikehhaaDoorNum
import Derived.Test.YtlebkjkiikehhaaDoorSlice
import Derived.Stop.LaidErr
import Derived.OpenShut
import Derived.Lib.LaidTab
namespace Go.Proofs.YtlebkjkiikehhaaDoor
open Go.RowKit

def cnames : List ByteArray := [⟨#[111, 107]⟩, ⟨#[105, 110, 118, 97, 108, 105, 100]⟩, ⟨#[114, 97, 110, 103, 101]⟩, ⟨#[110, 111, 116, 45, 102, 111, 117, 110, 100]⟩, ⟨#[101, 120, 105, 115, 116, 115]⟩, ⟨#[102, 117, 108, 108]⟩, ⟨#[115, 116, 97, 116, 101]⟩, ⟨#[115, 121, 110, 116, 97, 120]⟩, ⟨#[102, 111, 114, 109, 97, 116]⟩, ⟨#[99, 108, 97, 115, 104]⟩, ⟨#[115, 116, 117, 99, 107]⟩]
def nameOf (d : Int) : ByteArray := if 0 ≤ d then cnames.getD d.toNat ByteArray.empty else ByteArray.empty
theorem nameOf_lo {d : Int} (h : d < 0) : nameOf d = ByteArray.empty := by unfold nameOf; rw [if_neg (by omega)]
theorem nameOf_hi {d : Int} (h : 10 < d) : nameOf d = ByteArray.empty := by
  unfold nameOf
  rw [if_pos (by omega)]
  rw [List.getD_eq_getElem?_getD, List.getElem?_eq_none (show 11 ≤ d.toNat by omega)]
  rfl
theorem strs_of_trod {H : Type} {enc : TypeId × Value → H} {P : Program} {w : World} {base : Nat} {sp : Nat → Bool} {held : Bool} {fuel : Nat} {t e : TypeId} {n : Nat} {cs : List Value} {ss : List ByteArray} {p : List MemPlace}
    (ht : P.underlying t = some (.array n e)) (he : P.underlying e = some .string) (hce : P.cellsOf e = 1) (hct : P.cellsOf t = n)
    (h : DataW.trod enc P w base sp held fuel t cs = some (.agg (ss.map fun s => .lit (.string s.data.toList)), p)) : cs = ss.map Value.string := by
  obtain ⟨xs, m, rfl, hx, hl, hn, hel⟩ := DataW.trod_array ht h
  simp only [Prod.mk.injEq, DataW.agg.injEq] at hx
  have hsl : ss.length = n := by
    have := congrArg List.length hx.1
    simp at this
    omega
  apply List.ext_getElem?
  intro i
  by_cases hi : i < n
  · have h1 := hel i hi
    rw [hce, Nat.mul_one] at h1
    obtain ⟨b, hb⟩ : ∃ b, xs[i]? = some b := ⟨xs[i], List.getElem?_eq_getElem (by omega)⟩
    rw [hb] at h1
    obtain ⟨s, e1, e2, _⟩ := DataW.trod_string he h1
    have h2 : (xs.map (·.1))[i]? = some b.1 := by simp [hb]
    rw [← hx.1, e2] at h2
    simp only [List.getElem?_map, Option.map_eq_some_iff] at h2
    obtain ⟨s', hs', e3⟩ := h2
    injection e3 with e3
    injection e3 with e3
    obtain rfl : s' = s := ByteArray.ext (Array.toList_inj.1 e3)
    have h3 : cs[i]? = some (.string s') := by
      have := congrArg (·[0]?) e1
      simpa [List.getElem?_take, List.getElem?_drop] using this
    simp [h3, hs']
  · rw [List.getElem?_eq_none (by omega), List.getElem?_eq_none (by simp; omega)]

/-- The names stand in their variable. -/
def Names (w : World) : Prop := w.var? Tryd.prog "loop.example/g01046/impl.codeNames" = some (cnames.map Value.string).toArray
theorem gNames : Tryd.prog.globalNamed "loop.example/g01046/impl.codeNames" = some 0 := by kernel_rfl
theorem gNamesType : (Tryd.prog.globals[0]?).map (·.type) = some 26 := by kernel_rfl
theorem names_of {r : List (String × DataW Unit)} {w : World} (h : laidMet Tryd.prog (("loop.example/g01046/impl.codeNames", Rows.laid_loop_example_g01046_impl_codeNames) :: r) w) : Names w := by
  obtain ⟨ps, ⟨g', t', cs, fuel, p, q, hg', ht', hvar, hd, _, _⟩, _⟩ := h
  obtain rfl := Option.some.inj (gNames.symm.trans hg')
  obtain rfl := Option.some.inj (gNamesType.symm.trans ht')
  unfold Names
  rw [hvar, ← strs_of_trod (ss := cnames) Tryd.underlying26 Tryd.underlying9 (by kernel_rfl) (by kernel_rfl) hd]
theorem Names.cell {w : World} (h : Names w) (i : Nat) {s : ByteArray} (hs : cnames[i]? = some s) : w.cell? ⟨0, i, none⟩ = some (.string s) := by
  have := World.var?_cell gNames h i
  simpa [hs] using this
theorem Names.lt {w : World} (h : Names w) : 0 < w.heap.size := World.block_lt_of_cell? (a := ⟨_, 0, none⟩) w (h.cell 0 rfl)
theorem Names.bel {w w' : World} (h : Names w) (hb : Below w.heap.size w w') : Names w' := var?_below hb gNames h.lt h

set_option maxHeartbeats 1000000 in
set_option maxRecDepth 100000 in
theorem implCodeName_any (d : Int) (w : World) (l : -9223372036854775808 ≤ d) (u : d ≤ 9223372036854775807) (hN : Names w) :
    Calls Tryd.prog 5 #[.int .i64 d] w (Ret w (.string (nameOf d))) := by
  have HN := Lib.hid hN
  clear hN
  rcases (show d < 0 ∨ 10 < d ∨ (0 ≤ d ∧ d ≤ 10) by omega) with h | h | ⟨h1, h2⟩
  · have hb := inB_no (show ¬ (0 ≤ d ∧ d ≤ 10) by omega)
    have E := Lib.hid (nameOf_lo h)
    clear h l u
    go_enter Tryd.func5, Tryd.ntmps5
    go_wp2_with (go_at_call 7; refine (within_any d 0 10 _).mono ?_; rintro e w2 ⟨rfl, hq⟩; obtain rfl := hq.symm; rw [hb])
    go_ret
    rw [E.out]
    exact ⟨rfl, Below.refl _ _⟩
  · have hb := inB_no (show ¬ (0 ≤ d ∧ d ≤ 10) by omega)
    have E := Lib.hid (nameOf_hi h)
    clear h l u
    go_enter Tryd.func5, Tryd.ntmps5
    go_wp2_with (go_at_call 7; refine (within_any d 0 10 _).mono ?_; rintro e w2 ⟨rfl, hq⟩; obtain rfl := hq.symm; rw [hb])
    go_ret
    rw [E.out]
    exact ⟨rfl, Below.refl _ _⟩
  · obtain ⟨i, rfl⟩ : ∃ i : Nat, d = i := ⟨d.toNat, by omega⟩
    have hb := inB_mk ⟨h1, h2⟩
    have hi : i < 11 := by omega
    obtain ⟨s, hs⟩ : ∃ s, cnames[i]? = some s := ⟨cnames[i]'(show i < 11 by omega), List.getElem?_eq_getElem _⟩
    have hc := HN.out.cell i hs
    have E : Hid (nameOf (i : Int) = s) := by
      show _ = _
      unfold nameOf
      rw [if_pos h1]
      simp [List.getD, hs]
    clear hs l u
    go_enter Tryd.func5, Tryd.ntmps5
    go_wp2_with (go_at_call 7; refine (within_any (i : Int) 0 10 _).mono ?_; rintro e w2 ⟨rfl, hq⟩; obtain rfl := hq.symm; rw [hb])
    go_ret
    rw [E.out]
    exact ⟨rfl, Below.refl _ _⟩

set_option maxHeartbeats 1000000 in
set_option maxRecDepth 100000 in
theorem specCodeName_any (d : Int) (w : World) (l : -9223372036854775808 ≤ d) (u : d ≤ 9223372036854775807) :
    Calls Tryd.prog 4 #[.int .i64 d] w (Ret w (.string (nameOf d))) := by
  rcases (show d < 0 ∨ 10 < d ∨ (0 ≤ d ∧ d ≤ 10) by omega) with h | h | ⟨h1, h2⟩
  · have hb := inB_no (show ¬ (0 ≤ d ∧ d ≤ 10) by omega)
    have E := Lib.hid (nameOf_lo h)
    clear h l u
    go_enter Tryd.func4, Tryd.ntmps4
    go_wp2_with (go_at_call 6; refine (l00In_any d 0 10 _).mono ?_; rintro e w2 ⟨rfl, hq⟩; obtain rfl := hq.symm; rw [hb])
    go_ret
    rw [E.out]
    exact ⟨rfl, by go_grown⟩
  · have hb := inB_no (show ¬ (0 ≤ d ∧ d ≤ 10) by omega)
    have E := Lib.hid (nameOf_hi h)
    clear h l u
    go_enter Tryd.func4, Tryd.ntmps4
    go_wp2_with (go_at_call 6; refine (l00In_any d 0 10 _).mono ?_; rintro e w2 ⟨rfl, hq⟩; obtain rfl := hq.symm; rw [hb])
    go_ret
    rw [E.out]
    exact ⟨rfl, by go_grown⟩
  · rcases (show d = 0 ∨ d = 1 ∨ d = 2 ∨ d = 3 ∨ d = 4 ∨ d = 5 ∨ d = 6 ∨ d = 7 ∨ d = 8 ∨ d = 9 ∨ d = 10 by omega) with rfl | rfl | rfl | rfl | rfl | rfl | rfl | rfl | rfl | rfl | rfl
    all_goals
      clear h1 h2 l u
      go_enter Tryd.func4, Tryd.ntmps4
      go_wp2_with (go_at_call 6; refine (l00In_any _ 0 10 _).mono ?_; rintro e w2 ⟨rfl, hq⟩; obtain rfl := hq.symm; rw [inB_mk (by decide)])
      go_ret
      exact ⟨rfl, by go_grown⟩

set_option maxHeartbeats 1000000 in
theorem walk_FnExactCodeName {w : World} (hL : laidMet Tryd.prog Rows.fnExactCodeNameRow.laid w) (d : Int) (l : -9223372036854775808 ≤ d) (u : d ≤ 9223372036854775807) :
    Calls Tryd.prog 3 #[.int .i64 d] w (Ret w (.bool true)) := by
  have HN := Lib.hid (names_of hL)
  obtain ⟨T, hT⟩ : ∃ T, nameOf d = T := ⟨_, rfl⟩
  have HT := Lib.hid hT
  have HLU := Lib.hid (And.intro l u)
  clear hL hT l u
  go_enter Tryd.func3, Tryd.ntmps3
  go_wp2_with fail
  refine (specCodeName_any d _ HLU.out.1 HLU.out.2).mono ?_
  rintro e w1 ⟨rfl, hb1⟩
  have HN1 := Lib.hid (HN.out.bel hb1)
  rw [HT.out]
  go_wp2_with fail
  refine (implCodeName_any d _ HLU.out.1 HLU.out.2 HN1.out).mono ?_
  rintro e w2 ⟨rfl, hb2⟩
  rw [HT.out]
  go_wp2_with fail
  go_ret
  exact ⟨rfl, bel_next hb1 hb2⟩

end Go.Proofs.YtlebkjkiikehhaaDoor
