/-
  SMALL AIDS: rides in a block of one's own; a copy of rides.
-/
import Derived.Test.YtlebkjkiikehhaaBestP
import Derived.Test.YtlebkjkiikehhaaRideList2
import Derived.Test.YtlebkjkiikehhaaMadeI
import Derived.Test.YtlebkjkiikehhaaRides
namespace Go.Proofs.Ytlebkjkiikehhaa
open Go.RowKit

def cells4 : List Rd → List Value
  | [] => []
  | r :: rs => .int .i64 r.1 :: .int .i64 r.2.1 :: .int .i64 r.2.2.1 :: .int .i64 r.2.2.2 :: cells4 rs
theorem cells4_len : ∀ l : List Rd, (cells4 l).length = l.length * 4
  | [] => rfl
  | r :: rs => by simp only [cells4, List.length_cons, cells4_len rs]; omega
theorem cells4_one : ∀ l : List Rd, ∀ u ∈ cells4 l, u.oneCell' = true
  | [], u, h => by simp [cells4] at h
  | s :: ss, u, h => by
    simp only [cells4, List.mem_cons] at h
    rcases h with rfl | rfl | rfl | rfl | h
    · rfl
    · rfl
    · rfl
    · rfl
    · exact cells4_one ss u h
theorem cells4_get : ∀ (l : List Rd) (j : Nat) (u : Value), (cells4 l)[j]? = some u → ∃ (k : Nat) (h : k < l.length), (j = k * 4 ∧ u = .int .i64 (l[k]).1) ∨ (j = k * 4 + 1 ∧ u = .int .i64 (l[k]).2.1) ∨ (j = k * 4 + 2 ∧ u = .int .i64 (l[k]).2.2.1) ∨ (j = k * 4 + 3 ∧ u = .int .i64 (l[k]).2.2.2)
  | [], j, u, h => by simp [cells4] at h
  | s :: ss, 0, u, h => ⟨0, by simp, .inl ⟨rfl, by simpa [cells4] using h.symm⟩⟩
  | s :: ss, 1, u, h => ⟨0, by simp, .inr (.inl ⟨rfl, by simpa [cells4] using h.symm⟩)⟩
  | s :: ss, 2, u, h => ⟨0, by simp, .inr (.inr (.inl ⟨rfl, by simpa [cells4] using h.symm⟩))⟩
  | s :: ss, 3, u, h => ⟨0, by simp, .inr (.inr (.inr ⟨rfl, by simpa [cells4] using h.symm⟩))⟩
  | s :: ss, j + 4, u, h => by
    have h1 : (cells4 ss)[j]? = some u := by simpa [cells4] using h
    obtain ⟨k, hk, h2⟩ := cells4_get ss j u h1
    refine ⟨k + 1, by simpa using hk, ?_⟩
    simp only [List.getElem_cons_succ]
    rcases h2 with ⟨e1, e2⟩ | ⟨e1, e2⟩ | ⟨e1, e2⟩ | ⟨e1, e2⟩
    · exact .inl ⟨by omega, e2⟩
    · exact .inr (.inl ⟨by omega, e2⟩)
    · exact .inr (.inr (.inl ⟨by omega, e2⟩))
    · exact .inr (.inr (.inr ⟨by omega, e2⟩))
theorem cells4_at : ∀ (l : List Rd) (k : Nat) (h : k < l.length), (cells4 l)[k * 4]? = some (.int .i64 (l[k]).1) ∧ (cells4 l)[k * 4 + 1]? = some (.int .i64 (l[k]).2.1) ∧ (cells4 l)[k * 4 + 2]? = some (.int .i64 (l[k]).2.2.1) ∧ (cells4 l)[k * 4 + 3]? = some (.int .i64 (l[k]).2.2.2)
  | s :: ss, 0, _ => ⟨rfl, rfl, rfl, rfl⟩
  | s :: ss, k + 1, h => by
    obtain ⟨a, b, c, d⟩ := cells4_at ss k (by simpa using h)
    have e : (k + 1) * 4 = k * 4 + 1 + 1 + 1 + 1 := by omega
    simp only [List.getElem_cons_succ]
    rw [e]
    exact ⟨by simpa [cells4] using a, by simpa [cells4] using b, by simpa [cells4] using c, by simpa [cells4] using d⟩
theorem rides_cells {w : World} {b o : Nat} {l : List Rd} (hc : ∀ (k : Nat) (h : k < l.length), At4 w b (o + k * 4) l[k]) : ∀ j u, (cells4 l)[j]? = some u → w.cell? ((⟨b, o, none⟩ : Addr).add j) = some u := by
  intro j u hu
  obtain ⟨k, hk, h⟩ := cells4_get l j u hu
  have hk4 := hc k hk
  rw [Addr.add_lit]
  rcases h with ⟨rfl, rfl⟩ | ⟨rfl, rfl⟩ | ⟨rfl, rfl⟩ | ⟨rfl, rfl⟩
  · exact hk4.c0
  · exact hk4.c1
  · exact hk4.c2
  · exact hk4.c3
/-- Rides at the front of a row of cells. -/
def Pre4 (cs : Array Value) (l : List Rd) : Prop :=
  ∀ (k : Nat) (h : k < l.length), cs[k * 4]? = some (.int .i64 l[k].1) ∧ cs[k * 4 + 1]? = some (.int .i64 l[k].2.1) ∧ cs[k * 4 + 2]? = some (.int .i64 l[k].2.2.1) ∧ cs[k * 4 + 3]? = some (.int .i64 l[k].2.2.2)
/-- Rides in a block of one's own. -/
def RowR (B : Nat) (w : World) (A : Option Addr) (l : List Rd) : Prop := 0 < l.length → ∃ g t cs, A = some ⟨g, 0, none⟩ ∧ B ≤ g ∧ Blk w g t cs ∧ Pre4 cs l
theorem RowR.of {w : World} {base n c : Nat} {t : TypeId} {A : Option Addr} {l : List Rd} (h : w.ownsRow base t 4 (.slice A n c) n (cells4 l)) (hl : n = l.length) : RowR base w A l := fun h0 => by
  rcases h.2 with ⟨hv, hn⟩ | ⟨g, cap, cur, hv, hg, hB, rest⟩
  · omega
  · have hA : A = some ⟨g, 0, none⟩ := by injection hv
    subst hA
    have hc := h.cells (g := g) rfl
    have key : ∀ (i : Nat) (u : Value), (cells4 l)[i]? = some u → cur[i]? = some u := by
      intro i u hi
      have h5 := hc i u hi
      rw [Addr.add_lit, Nat.zero_add, Blk.cell (t := t) hB] at h5
      exact h5
    refine ⟨g, t, cur, rfl, hg, hB, fun k hk => ?_⟩
    obtain ⟨a, b, d, e⟩ := cells4_at l k hk
    exact ⟨key _ _ a, key _ _ b, key _ _ d, key _ _ e⟩
theorem RowR.bel {B : Nat} {w w' : World} {A : Option Addr} {l : List Rd} (h : RowR B w A l) (hb : Below w.heap.size w w') : RowR B w' A l := fun h0 => by
  obtain ⟨g, t, cs, a, b, c, d⟩ := h h0
  exact ⟨g, t, cs, a, b, bel_blk c hb, d⟩
theorem RowR.rides {B : Nat} {w : World} {A : Option Addr} {l : List Rd} (h : RowR B w A l) : RidesAt w A l := fun h0 => by
  obtain ⟨g, t, cs, a, b, c, d⟩ := h h0
  refine ⟨g, 0, a, c.lt, fun k hk => ?_⟩
  obtain ⟨x0, x1, x2, x3⟩ := d k hk
  rw [Nat.zero_add]
  exact ⟨(c.cell _).trans x0, (c.cell _).trans x1, (c.cell _).trans x2, (c.cell _).trans x3⟩
theorem RowR.one {B : Nat} {w : World} {A : Option Addr} {l : List Rd} (h : RowR B w A l) {k : Nat} (hk : k < l.length) : ∃ g, A = some ⟨g, 0, none⟩ ∧ B ≤ g ∧ g < w.heap.size ∧ At4 w g (k * 4) l[k] ∧ w.frozen? ⟨g, k * 4 + 2, none⟩ = false := by
  obtain ⟨g, t, cs, a, b, c, d⟩ := h (by omega)
  obtain ⟨x0, x1, x2, x3⟩ := d k hk
  exact ⟨g, a, b, c.lt, ⟨(c.cell _).trans x0, (c.cell _).trans x1, (c.cell _).trans x2, (c.cell _).trans x3⟩, c.frozen _⟩
/-- A ride with another pressure. -/
def setP (r : Rd) (p : Int) : Rd := (r.1, r.2.1, p, r.2.2.2)
theorem RowR.set {B : Nat} {w : World} {g : Nat} {l : List Rd} (h : RowR B w (some ⟨g, 0, none⟩) l) {k : Nat} (hk : k < l.length) (p : Int) : RowR B (w.setCell ⟨g, k * 4 + 2, none⟩ (.int .i64 p)) (some ⟨g, 0, none⟩) (l.set k (setP l[k] p)) := fun h0 => by
  obtain ⟨g', t, cs, a, b, c, d⟩ := h (by simpa using h0)
  injection a with a
  injection a with a _
  subst a
  refine ⟨g, t, _, rfl, b, c.set_ _ _, fun j hj => ?_⟩
  rw [List.length_set] at hj
  obtain ⟨x0, x1, x2, x3⟩ := d j hj
  by_cases e : j = k
  · subst e
    have hlt : j * 4 + 2 < cs.size := by
      rcases Nat.lt_or_ge (j * 4 + 2) cs.size with h5 | h5
      · exact h5
      · rw [Array.getElem?_eq_none h5] at x2; cases x2
    have hs : (l.set j (setP l[j] p))[j]'(by simpa using hj) = setP l[j] p := by simp
    rw [hs]
    refine ⟨?_, ?_, ?_, ?_⟩
    · rw [Array.getElem?_setIfInBounds_ne (by omega)]; exact x0
    · rw [Array.getElem?_setIfInBounds_ne (by omega)]; exact x1
    · simp [hlt, setP]
    · rw [Array.getElem?_setIfInBounds_ne (by omega)]; exact x3
  · have hs : (l.set k (setP l[k] p))[j]'(by simpa using hj) = l[j] := by rw [List.getElem_set_ne (by omega)]
    rw [hs]
    refine ⟨?_, ?_, ?_, ?_⟩
    · rw [Array.getElem?_setIfInBounds_ne (by omega)]; exact x0
    · rw [Array.getElem?_setIfInBounds_ne (by omega)]; exact x1
    · rw [Array.getElem?_setIfInBounds_ne (by omega)]; exact x2
    · rw [Array.getElem?_setIfInBounds_ne (by omega)]; exact x3
theorem RowR.low {B B' : Nat} {w : World} {A : Option Addr} {l : List Rd} (h : RowR B w A l) (hb : B' ≤ B) : RowR B' w A l := fun h0 => by
  obtain ⟨g, t, cs, a, b, c, d⟩ := h h0
  exact ⟨g, t, cs, a, Nat.le_trans hb b, c, d⟩
theorem RowR.farR {B : Nat} {w : World} {g : Nat} {l : List Rd} (h : RowR B w (some ⟨g, 0, none⟩) l) {p : Addr} (hp : g ≠ p.block) (u : Value) : RowR B (w.setCell p u) (some ⟨g, 0, none⟩) l := fun h0 => by
  obtain ⟨g', t, cs, a, b, c, d⟩ := h h0
  injection a with a
  injection a with a _
  subst a
  exact ⟨g, t, cs, rfl, b, c.far hp u, d⟩
/-- The first i rides have the least pressure. -/
def mixP (l : List Rd) (i : Nat) : List Rd := (l.take i).map oneP ++ l.drop i
theorem mixP_zero (l : List Rd) : mixP l 0 = l := by simp [mixP]
theorem mixP_all {l : List Rd} {i : Nat} (h : l.length ≤ i) : mixP l i = l.map oneP := by simp [mixP, List.take_of_length_le h, List.drop_of_length_le h]
theorem mixP_len (l : List Rd) (i : Nat) : (mixP l i).length = l.length := by simp [mixP]; omega
theorem mixP_at {l : List Rd} {i : Nat} (h : i < l.length) : (mixP l i)[i]'(by rw [mixP_len]; exact h) = l[i] := by
  simp only [mixP]
  rw [List.getElem_append_right (by simp; omega)]
  simp
  congr 1
  omega
theorem mixP_next {l : List Rd} {i : Nat} (h : i < l.length) : (mixP l i).set i (setP ((mixP l i)[i]'(by rw [mixP_len]; exact h)) 1) = mixP l (i + 1) := by
  rw [mixP_at h]
  unfold mixP
  have hl : ((l.take i).map oneP).length = i := by simp; omega
  have e : l.take (i + 1) = l.take i ++ [l[i]] := by rw [List.take_add_one, List.getElem?_eq_getElem h]; rfl
  rw [List.set_append_right _ _ (by omega), hl, Nat.sub_self, List.drop_eq_getElem_cons h, List.set_cons_zero, e, List.map_append, List.append_assoc]
  rfl
theorem mixP_at1 {l : List Rd} {i : Nat} (h : i < l.length) : (mixP l (i + 1))[i]'(by rw [mixP_len]; exact h) = oneP l[i] := by
  simp only [mixP]
  rw [List.getElem_append_left (by simp; omega)]
  simp
theorem upAt_set {l : List Rd} {k : Nat} (h : k < l.length) : l.set k (setP l[k] (l[k].2.2.1 + 1)) = upAt l k := by rw [upAt_eq h]; rfl
/-- What the pressures in memory lack. -/
def muW (w : World) (A : Option Addr) (n : Nat) : Nat := ((List.range n).map fun k => match A with
  | some a => (100 - intOf ((w.cell? ⟨a.block, k * 4 + 2, none⟩).getD undef)).toNat
  | none => 0).sum
theorem muW_eq {B : Nat} {w : World} {A : Option Addr} {l : List Rd} {n : Nat} (h : RowR B w A l) (hl : l.length = n) : muW w A n = muP l := by
  subst hl
  unfold muW muP
  congr 1
  apply List.ext_getElem
  · simp
  · intro i h1 h2
    have hi : i < l.length := by simpa using h1
    obtain ⟨g, rfl, -, -, h4, -⟩ := h.one hi
    simp only [List.getElem_map, List.getElem_range]
    rw [h4.c2]
    rfl
theorem info_ride4 : (Try.prog.info? 101).map (fun i => (i.zero, i.size, i.bytes)) = some (some (.agg #[.int .i64 0, .int .i64 0, .int .i64 0, .int .i64 0]), 4, 32) := by kernel_rfl
theorem own_nil4 (w : World) (t : TypeId) (base : Nat) {g : Nat} (hg : g = w.heap.size) (hb : base ≤ w.heap.size) : (w.alloc (.cells #[] t)).ownsRow base t 4 (.slice (some ⟨g, 0, none⟩) 0 0) 0 [] := by
  subst hg
  have := World.ownsRow_lit (base := base) (e := t) (size := 4) w #[] 0 hb (by unfold maxLen; omega) rfl
  simpa using this
theorem run_eql_nilR {P : Program} (w : World) (t e : TypeId) (a : Option Addr) (n c : Nat) (h : P.underlying t = some (.slice e)) : (binOp .eql t (.slice a n c) (.slice none 0 0)).run P w = .ok (.bool a.isNone) w := by
  simp only [binOp]
  simp [Op.equal, Op.maxDepth, Lib.run_equalIn_slice_nil w 9999 t e a n c 0 0 h]
theorem own_formR {w : World} {base : Nat} {e : TypeId} {size : Nat} {v : Value} {n : Nat} {xs : List Value} (h : w.ownsRow base e size v n xs) : ∃ A c, v = .slice A n c := by
  rcases h.2 with ⟨rfl, rfl⟩ | ⟨g, cap, cur, rfl, _⟩
  · exact ⟨none, 0, rfl⟩
  · exact ⟨_, cap, rfl⟩
/-- The call returns a slice of rides of its own. -/
def MadeR4 (w : World) (t : TypeId) (xs : List Rd) (n : Nat) (e : Ending) (w' : World) : Prop :=
  ∃ A c, e = .returned (.slice A n c) ∧ w'.ownsRow w.heap.size t 4 (.slice A n c) n (cells4 xs) ∧ Below w.heap.size w w'

set_option maxHeartbeats 2000000 in
set_option maxRecDepth 100000 in
theorem cloneR_any (b n c : Nat) (l : List Rd) (w : World) (h : RidesAt w (some ⟨b, 0, none⟩) l) (hl : n = l.length) (hn0 : n ≤ 1048576) :
    Calls Try.prog 70 #[.slice (some ⟨b, 0, none⟩) n c] w (MadeR4 w 101 l n) := by
  obtain ⟨i0, hi, hz0, hz1, hz2⟩ := info_parts info_ride4
  have HI := Lib.hid (And.intro hi (And.intro hz0 (And.intro hz1 hz2)))
  have h' := h.alloc (.cells #[] 101)
  have hcs : ∀ j u, (cells4 l)[j]? = some u → (w.alloc (.cells #[] 101)).cell? ((⟨b, 0, none⟩ : Addr).add j) = some u := by
    intro j u hu
    obtain ⟨k, hk, -⟩ := cells4_get l j u hu
    obtain ⟨b', o, e, -, hc⟩ := h' (by omega)
    injection e with e
    injection e with e1 e2
    subst e1 e2
    exact rides_cells hc j u hu
  have HC2 := Lib.hid hcs
  have HM : Hid ((cells4 l).length = n * 4) := by show _ = _; rw [cells4_len, hl]
  have H1 := Lib.hid (cells4_one l)
  clear hl h h' hcs hi hz0 hz1 hz2
  obtain ⟨ns, hns⟩ : ∃ ns, ns = cells4 l := ⟨_, rfl⟩
  rw [← hns] at HC2 HM H1
  have HNS := Lib.hid hns
  clear hns
  have hnil := run_eql_nilR (P := Try.prog) w 70 101 (some ⟨b, 0, none⟩) n c Try.underlying70
  go_enter Try.func70, Try.ntmps70
  go_wp2_with (at_builtin; refine wpList_append_own _ rfl _ _ 70 rfl w.heap.size 101 i0 (.agg #[.int .i64 0, .int .i64 0, .int .i64 0, .int .i64 0]) 4 32 Try.underlying70 HI.out.1 HI.out.2.1 HI.out.2.2.1 HI.out.2.2.2 rfl (by decide) _ _ [] rfl (own_nil4 _ _ _ rfl (Nat.le_refl _)) ⟨b, 0, none⟩ n c ns rfl HM.out HC2.out H1.out ?d3 ?d4 ?d5 ?_)
  try case d3 => unfold maxLen; omega
  try case d4 => omega
  try case d5 => first | (simp; done) | (simp; omega) | omega
  intro v' w4 hown1 hgrow _
  have hown2 : w4.ownsRow w.heap.size 101 4 v' n (cells4 l) := by
    have h5 := hown1
    rw [HNS.out] at h5
    simpa using h5
  obtain ⟨A4, c4, rfl⟩ := own_formR hown2
  have HB := Lib.hid hown2
  have hb4 : Below w.heap.size w w4 := Below.grown (by go_grown) hgrow (by simp) (fun k hk => by simp [Value.ownBlock] at hk; omega)
  clear hown1 hown2 hgrow HC2 H1
  go_wp2_with fail
  go_ret
  exact ⟨A4, c4, rfl, HB.out, hb4⟩
end Go.Proofs.Ytlebkjkiikehhaa
