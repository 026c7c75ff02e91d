/-
  WHAT THE WALK OF A LAW IS TOLD OF A NETWORK, out of its reading. No program in sight.
-/
import Derived.Test.YtlebkjkiikehhaaFrame
import Derived.Test.YtlebkjkiikehhaaTube
namespace Go.Proofs.Ytlebkjkiikehhaa
open Go.ChangeShapes Go.WideShapes Go.ChangeAt Go.RowKit Go.Joins Go.Deep
open Go.ChangeMaps (open_string shut_string)

section
variable {H : Type} {enc : TypeId × Value → H} {P : Program} {w : World} {base : Nat} {spare : Nat → Bool} {held : Bool} {r : Reach} {b0 : Nat} {t e : TypeId} {v : Value} {d : DataW H} {p : List MemPlace}
def IsInt3 (v : Value) : Prop := ∃ X Y Z : Int, v = .agg #[.int .i64 X, .int .i64 Y, .int .i64 Z]
theorem isInt3 {f0 f1 f2 : Field} (hs : P.underlying t = some (.struct #[f0, f1, f2])) (hone : oneCellFields P #[f0, f1, f2] = true) (hC : P.cellsOf t = 3)
    (i0 : P.underlying f0.type = some (.int .i64)) (i1 : P.underlying f1.type = some (.int .i64)) (i2 : P.underlying f2.type = some (.int .i64))
    (hv : Value.okWide P w r b0 t v) (h : DataW.Trod enc P w base spare held t v d p) : IsInt3 v := by
  obtain ⟨v0, v1, v2, y0, y1, y2, n, rfl, _, _, g0, g1, g2⟩ := open_agg3 hs hone hC hv h
  obtain ⟨a, rfl⟩ := field_int i0 g0
  obtain ⟨b, rfl⟩ := field_int i1 g1
  obtain ⟨c, rfl⟩ := field_int i2 g2
  exact ⟨a, b, c, rfl⟩

def NetArg (w : World) (A : Option Addr) (n : Nat) (zs : List Tb) : Prop := zs.length = n ∧ TubesAt w A zs ∧ n ≤ 9223372036854775807
/-- The tubes, out of a slice's reading. -/
theorem tubes_of {f0 f1 f2 : Field} {fuel : Nat} {x : DataW H × List MemPlace} (ht : P.underlying t = some (.slice e)) (hs : P.underlying e = some (.struct #[f0, f1, f2])) (hone : oneCellFields P #[f0, f1, f2] = true) (hC : P.cellsOf e = 3)
    (i0 : P.underlying f0.type = some (.int .i64)) (i1 : P.underlying f1.type = some (.int .i64)) (i2 : P.underlying f2.type = some (.int .i64))
    (hf : DataW.trod enc P w base spare held fuel t [v] = some x) : ∃ A n c zs, v = .slice A n c ∧ NetArg w A n zs := by
  rcases open_slice_fields ht hs hone hC hf with h0 | ⟨a, len, cap, m, hcs, hl, hm, hlm, hx⟩
  · simp at h0
    subst h0
    exact ⟨none, 0, 0, [], rfl, rfl, fun h => absurd h (by simp), by omega⟩
  · simp at hcs
    subst hcs
    have key : ∀ i, i < m → ∃ r : Tb, w.cell? (a.add (i * 3)) = some (.int .i64 r.1) ∧ w.cell? (a.add (i * 3 + 1)) = some (.int .i64 r.2.1) ∧ w.cell? (a.add (i * 3 + 2)) = some (.int .i64 r.2.2) := by
      intro i hi
      obtain ⟨n, hn⟩ := hx i hi
      obtain ⟨v0, y0, c0, t0⟩ := hn 0 f0 rfl
      obtain ⟨v1, y1, c1, t1⟩ := hn 1 f1 rfl
      obtain ⟨v2, y2, c2, t2⟩ := hn 2 f2 rfl
      obtain ⟨a0, rfl⟩ := field_int i0 t0
      obtain ⟨a1, rfl⟩ := field_int i1 t1
      obtain ⟨a2, rfl⟩ := field_int i2 t2
      exact ⟨(a0, a1, a2), c0, c1, c2⟩
    obtain ⟨R, hR⟩ := choose_lt key
    refine ⟨some a, len, cap, (List.range len).map R, rfl, by simp, fun h0 => ?_, by unfold maxLen at hm; omega⟩
    have hpos : 0 < len := by simpa using h0
    obtain ⟨b, o, rfl⟩ := addr_form (w := w) (a := a) (v := .int .i64 (R 0).1) (by simpa using (hR 0 (by omega)).1)
    refine ⟨b, o, rfl, World.block_lt_of_cell? (a := ⟨b, o, none⟩) w (by simpa [Addr.add_lit] using (hR 0 (by omega)).1), fun k hk => ?_⟩
    have hk' : k < len := by simpa using hk
    obtain ⟨c0, c1, c2⟩ := hR k (by omega)
    simp only [Addr.add_lit] at c0 c1 c2
    simp only [List.getElem_map, List.getElem_range]
    exact ⟨c0, by rw [← Nat.add_assoc] at c1; exact c1, by rw [← Nat.add_assoc] at c2; exact c2⟩

theorem isNet {g0 g1 f0 f1 f2 : Field} {ts : TypeId} (hN : P.underlying t = some (.struct #[g0, g1])) (honeN : oneCellFields P #[g0, g1] = true) (hCN : P.cellsOf t = 2) (j0 : P.underlying g0.type = some (.int .i64))
    (ht : P.underlying g1.type = some (.slice ts)) (hs : P.underlying ts = some (.struct #[f0, f1, f2])) (hone : oneCellFields P #[f0, f1, f2] = true) (hC : P.cellsOf ts = 3)
    (i0 : P.underlying f0.type = some (.int .i64)) (i1 : P.underlying f1.type = some (.int .i64)) (i2 : P.underlying f2.type = some (.int .i64))
    (hv : Value.okWide P w r b0 t v) (h : DataW.Trod enc P w base spare held t v d p) : ∃ S A n c zs, v = .agg #[.int .i64 S, .slice A n c] ∧ NetArg w A n zs := by
  obtain ⟨v0, v1, y0, y1, n, rfl, _, _, q0, q1⟩ := open_agg2 hN honeN hCN hv h
  obtain ⟨S, rfl⟩ := field_int j0 q0
  obtain ⟨A, n, c, zs, rfl, F⟩ := tubes_of ht hs hone hC i0 i1 i2 q1
  exact ⟨S, A, n, c, zs, rfl, F⟩
end

end Go.Proofs.Ytlebkjkiikehhaa
