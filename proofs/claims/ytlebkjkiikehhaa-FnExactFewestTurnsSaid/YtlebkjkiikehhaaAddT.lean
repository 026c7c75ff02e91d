/-
  CONTRACTS: a tube is added to a network.
-/
import Derived.Test.YtlebkjkiikehhaaSpanP
import Derived.Test.YtlebkjkiikehhaaNetV
import Derived.Test.YtlebkjkiikehhaaAid
import Derived.Deep.RegionLaw
namespace Go.Proofs.Ytlebkjkiikehhaa
open Go.RowKit

/-- The network with one tube more, and a code. -/
def addT (S : Int) (l : List Tb) (t : Tb) : (Int × List Tb) × Int :=
  if validN S l = false then ((0, []), 1) else if validTube t S = false then ((0, []), 2) else if 24 ≤ l.length then ((0, []), 5) else ((S, l ++ [t]), 0)
/-- The call returns a network with a slice of its own, and a code. -/
def MadeNC (w : World) (tt : TypeId) (r : (Int × List Tb) × Int) (e : Ending) (w' : World) : Prop :=
  ∃ A c, e = .returned (.tuple #[.agg #[.int .i64 r.1.1, .slice A r.1.2.length c], .int .i64 r.2]) ∧ w'.ownsRow w.heap.size tt 3 (.slice A r.1.2.length c) r.1.2.length (cells3 r.1.2) ∧ Below w.heap.size w w'
theorem own_none3 (w : World) (base : Nat) (t : TypeId) : w.ownsRow base t 3 (.slice none 0 0) 0 (cells3 []) := ⟨by simp [cells3], .inl ⟨rfl, rfl⟩⟩
theorem cells3_one : ∀ l : List Sp, ∀ u ∈ cells3 l, u.oneCell' = true
  | [], u, h => by simp [cells3] at h
  | s :: ss, u, h => by
    simp only [cells3, List.mem_cons] at h
    rcases h with rfl | rfl | rfl | h
    · rfl
    · rfl
    · rfl
    · exact cells3_one ss u h
theorem cells3_get : ∀ (l : List Sp) (j : Nat) (u : Value), (cells3 l)[j]? = some u → ∃ (k : Nat) (h : k < l.length), (j = k * 3 ∧ u = .int .i64 (l[k]).1) ∨ (j = k * 3 + 1 ∧ u = .int .i64 (l[k]).2.1) ∨ (j = k * 3 + 2 ∧ u = .int .i64 (l[k]).2.2)
  | [], j, u, h => by simp [cells3] at h
  | s :: ss, 0, u, h => ⟨0, by simp, .inl ⟨rfl, by simpa [cells3] using h.symm⟩⟩
  | s :: ss, 1, u, h => ⟨0, by simp, .inr (.inl ⟨rfl, by simpa [cells3] using h.symm⟩)⟩
  | s :: ss, 2, u, h => ⟨0, by simp, .inr (.inr ⟨rfl, by simpa [cells3] using h.symm⟩)⟩
  | s :: ss, j + 3, u, h => by
    have h1 : (cells3 ss)[j]? = some u := by simpa [cells3] using h
    obtain ⟨k, hk, h2⟩ := cells3_get ss j u h1
    refine ⟨k + 1, by simpa using hk, ?_⟩
    simp only [List.getElem_cons_succ]
    rcases h2 with ⟨e1, e2⟩ | ⟨e1, e2⟩ | ⟨e1, e2⟩
    · exact .inl ⟨by omega, e2⟩
    · exact .inr (.inl ⟨by omega, e2⟩)
    · exact .inr (.inr ⟨by omega, e2⟩)
theorem tubes_cells {w : World} {b o : Nat} {l : List Tb} (hc : ∀ (k : Nat) (h : k < l.length), At3 w b (o + k * 3) l[k]) : ∀ j u, (cells3 l)[j]? = some u → w.cell? ((⟨b, o, none⟩ : Addr).add j) = some u := by
  intro j u hu
  obtain ⟨k, hk, h⟩ := cells3_get l j u hu
  have hk3 := hc k hk
  rw [Addr.add_lit]
  rcases h with ⟨rfl, rfl⟩ | ⟨rfl, rfl⟩ | ⟨rfl, rfl⟩
  · exact hk3.c0
  · exact hk3.c1
  · exact hk3.c2
theorem info_tube3 : (Try.prog.info? 34).map (fun i => (i.zero, i.size, i.bytes)) = some (some (.agg #[.int .i64 0, .int .i64 0, .int .i64 0]), 3, 24) := by kernel_rfl
theorem own_nil3T (w : World) (t : TypeId) (base : Nat) {g : Nat} (hg : g = w.heap.size) (hb : base ≤ w.heap.size) : (w.alloc (.cells #[] t)).ownsRow base t 3 (.slice (some ⟨g, 0, none⟩) 0 0) 0 [] := by
  subst hg
  exact World.ownsRow_made w #[] 0 hb (by unfold maxLen; omega) (by simp)
theorem run_eql_nilT {P : Program} (w : World) (t e : TypeId) (a : Option Addr) (n c : Nat) (h : P.underlying t = some (.slice e)) : (binOp .eql t (.slice a n c) (.slice none 0 0)).run P w = .ok (.bool a.isNone) w := by
  simp only [binOp]
  simp [Op.equal, Op.maxDepth, Lib.run_equalIn_slice_nil w 9999 t e a n c 0 0 h]
/-- The call returns a slice of tubes of its own. -/
def MadeT3 (w : World) (t : TypeId) (xs : List Tb) (e : Ending) (w' : World) : Prop :=
  ∃ A c, e = .returned (.slice A xs.length c) ∧ w'.ownsRow w.heap.size t 3 (.slice A xs.length c) xs.length (cells3 xs) ∧ Below w.heap.size w w'

set_option maxHeartbeats 2000000 in
set_option maxRecDepth 100000 in
theorem cloneT_any (b n c : Nat) (l : List Tb) (w : World) (h : TubesAt w (some ⟨b, 0, none⟩) l) (hl : n = l.length) (hn0 : n ≤ 1048576) :
    Calls Try.prog 52 #[.slice (some ⟨b, 0, none⟩) n c] w (MadeT3 w 34 l) := by
  obtain ⟨i0, hi, hz0, hz1, hz2⟩ := info_parts info_tube3
  have HI := Lib.hid (And.intro hi (And.intro hz0 (And.intro hz1 hz2)))
  have h' := h.alloc (.cells #[] 34)
  have hcs : ∀ j u, (cells3 l)[j]? = some u → (w.alloc (.cells #[] 34)).cell? ((⟨b, 0, none⟩ : Addr).add j) = some u := by
    intro j u hu
    obtain ⟨k, hk, -⟩ := cells3_get l j u hu
    obtain ⟨b', o, e, -, hc⟩ := h' (by omega)
    injection e with e
    injection e with e1 e2
    subst e1 e2
    exact tubes_cells hc j u hu
  have HC2 := Lib.hid hcs
  have HL := Lib.hid hl
  have HM : Hid ((cells3 l).length = n * 3) := by show _ = _; rw [cells3_len, hl]
  have H1 := Lib.hid (cells3_one l)
  clear hl h h' hcs hi hz0 hz1 hz2
  obtain ⟨ns, hns⟩ : ∃ ns, ns = cells3 l := ⟨_, rfl⟩
  rw [← hns] at HC2 HM H1
  have HNS := Lib.hid hns
  clear hns
  have hnil := run_eql_nilT (P := Try.prog) w 28 34 (some ⟨b, 0, none⟩) n c Try.underlying28
  go_enter Try.func52, Try.ntmps52
  go_wp2_with (at_builtin; refine wpList_append_own _ rfl _ _ 28 rfl w.heap.size 34 i0 (.agg #[.int .i64 0, .int .i64 0, .int .i64 0]) 3 24 Try.underlying28 HI.out.1 HI.out.2.1 HI.out.2.2.1 HI.out.2.2.2 rfl (by decide) _ _ [] rfl (own_nil3T _ _ _ rfl (Nat.le_refl _)) ⟨b, 0, none⟩ n c ns rfl HM.out HC2.out H1.out ?d3 ?d4 ?d5 ?_)
  try case d3 => unfold maxLen; omega
  try case d4 => omega
  try case d5 => first | (simp; done) | (simp; omega) | omega
  intro v' w4 hown1 hgrow _
  have hown2 : w4.ownsRow w.heap.size 34 3 v' l.length (cells3 l) := by
    have h5 := hown1
    rw [HNS.out, HL.out] at h5
    simpa using h5
  obtain ⟨A4, c4, rfl⟩ := own_form hown2
  have HB := Lib.hid hown2
  have hb4 : Below w.heap.size w w4 := Below.grown (by go_grown) hgrow (by simp) (fun k hk => by simp [Value.ownBlock] at hk; omega)
  clear hown1 hown2 hgrow HC2 H1
  go_wp2_with fail
  go_ret
  exact ⟨A4, c4, rfl, HB.out, hb4⟩
end Go.Proofs.Ytlebkjkiikehhaa
