/-
  CONTRACTS: an address is added.
-/
import Derived.Test.YtfhmmebciikgeaaFar
import Derived.Test.YtfhmmebciikgeaaLeastR
namespace Go.Proofs.Ytfhmmebciikgeaa
open Go.RowKit

theorem run_eql_nilS {P : Program} (w : World) (t e : TypeId) (a : Option Addr) (n c : Nat) (h : P.underlying t = some (.slice e)) : (binOp .eql t (.slice a n c) (.slice none 0 0)).run P w = .ok (.bool a.isNone) w := by
  simp only [binOp]
  simp [Op.equal, Op.maxDepth, Lib.run_equalIn_slice_nil w 9999 t e a n c 0 0 h]
theorem own_blk0 {W : World} {g base : Nat} {t : TypeId} (hB : Blk W g t #[]) (hb : base ≤ g) : W.ownsRow base t 1 (.slice (some ⟨g, 0, none⟩) 0 0) 0 [] :=
  ⟨by simp, .inr ⟨g, 0, #[], rfl, hb, hB, Nat.le_refl _, by unfold maxLen; omega, by simp, by simp⟩⟩
theorem StrsAt.cells {w w' : World} {b o : Nat} {l : List ByteArray} (hc : ∀ (k : Nat) (h : k < l.length), w.cell? ⟨b, o + k, none⟩ = some (.string l[k])) (D : Below w.heap.size w w') : ∀ j u, (l.map Value.string)[j]? = some u → w'.cell? ((⟨b, o, none⟩ : Addr).add j) = some u := by
  intro j u hu
  have hj : j < l.length := by
    have := (List.getElem?_eq_some_iff.1 hu).1
    simpa using this
  rw [List.getElem?_map, List.getElem?_eq_getElem hj] at hu
  rw [Addr.add_lit]
  rw [← Option.some.inj hu]
  exact bel_cell D (hc j hj)

set_option maxHeartbeats 2000000 in
set_option maxRecDepth 100000 in
theorem cloneS_any (A : Option Addr) (n c : Nat) (l : List ByteArray) (w : World) (h : StrsAt w A l) (hl : n = l.length) (hn0 : n ≤ 1048576) (h0 : 0 < n) :
    Calls Try.prog 62 #[.slice A n c] w (MadeSO w 9 l) := by
  obtain ⟨i0, hi, hz0, hz1, hz2⟩ := info_parts info_string
  have HI := Lib.hid (And.intro hi (And.intro hz0 (And.intro hz1 hz2)))
  obtain ⟨b, o, rfl, hblt, hc⟩ := h (by omega)
  have HC2 := Lib.hid (StrsAt.cells hc ((Below.refl _ _).alloc (Nat.le_refl _) (.cells #[] 9)))
  have HL := Lib.hid hl
  have HM : Hid ((l.map Value.string).length = n) := by show _ = _; rw [List.length_map, hl]
  have H1 := Lib.hid (strs_oneCell l)
  clear hl h hc hi hz0 hz1 hz2
  obtain ⟨ns, hns⟩ : ∃ ns, ns = l.map Value.string := ⟨_, rfl⟩
  rw [← hns] at HC2 HM H1
  have HNS := Lib.hid hns
  clear hns
  have hnil := run_eql_nilS (P := Try.prog) w 25 9 (some ⟨b, o, none⟩) n c Try.underlying25
  go_enter Try.func62, Try.ntmps62
  go_wp2_with (at_builtin; refine wpList_append_own _ rfl _ _ 25 rfl w.heap.size 9 i0 (.string ByteArray.empty) 1 16 Try.underlying25 HI.out.1 HI.out.2.1 HI.out.2.2.1 HI.out.2.2.2 rfl (by decide) _ _ [] rfl (own_nil' _ _ _ rfl (Nat.le_refl _)) ⟨b, o, none⟩ n c ns rfl (by rw [HM.out, Nat.mul_one]) HC2.out H1.out ?d3 ?d4 ?d5 ?_)
  try case d3 => unfold maxLen; omega
  try case d4 => omega
  try case d5 => first | (simp; done) | (simp; omega) | omega
  intro v' w4 hown1 hgrow _
  have hown2 : w4.ownsRow w.heap.size 9 1 v' l.length (l.map Value.string) := by
    have h5 := hown1
    rw [HNS.out, HL.out] at h5
    simpa using h5
  obtain ⟨A4, c4, rfl⟩ := own_form hown2
  have HB := Lib.hid hown2
  have hb4 : Below w.heap.size w w4 := Below.grown (by go_grown) hgrow (by simp) (fun k hk => by simp [Value.ownBlock] at hk; omega)
  clear hown1 hown2 hgrow HC2 H1
  go_wp2_with fail
  go_ret
  exact ⟨A4, c4, rfl, HB.out, hb4⟩

end Go.Proofs.Ytfhmmebciikgeaa
