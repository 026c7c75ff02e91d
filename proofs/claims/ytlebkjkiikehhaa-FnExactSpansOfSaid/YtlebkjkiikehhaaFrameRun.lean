/-
  WHAT THE WALK OF A LAW IS TOLD OF RUNS, out of their reading. No program in sight.
-/
import Derived.Test.YtlebkjkiikehhaaFrame
import Derived.Test.YtlebkjkiikehhaaRun
namespace Go.Proofs.Ytlebkjkiikehhaa
open Go.ChangeShapes Go.WideShapes Go.ChangeAt Go.RowKit Go.Joins Go.Deep
open Go.ChangeMaps (open_string shut_string)

section
variable {H : Type} {enc : TypeId × Value → H} {P : Program} {w : World} {base : Nat} {spare : Nat → Bool} {held : Bool} {r : Reach} {b0 : Nat} {t e : TypeId} {v : Value} {d : DataW H} {p : List MemPlace}
/-- The integers, out of a slice's reading. -/
theorem ints_of {fuel : Nat} {x : DataW H × List MemPlace} (ht : P.underlying t = some (.slice e)) (he : P.underlying e = some (.int .i64)) (hC : P.cellsOf e = 1)
    (hf : DataW.trod enc P w base spare held fuel t [v] = some x) : ∃ A n c zs, v = .slice A n c ∧ IntsArg w A n zs := by
  rcases open_ints ht he hC hf with ⟨h0, _⟩ | ⟨a, len, cap, zs, hcs, _, hl, hm, hz, _, hcell, _⟩
  · simp at h0
    subst h0
    exact ⟨none, 0, 0, [], rfl, rfl, IntsAt.nil _ _, by omega⟩
  · simp at hcs
    subst hcs
    have hlen : len ≤ zs.length := by rw [hz]; split <;> omega
    refine ⟨some a, len, cap, zs.take len, rfl, by simp; omega, fun h0 => ?_, by unfold maxLen at hm; omega⟩
    have hpos : 0 < len := by simp at h0; omega
    have h00 := hcell 0 (by omega)
    obtain ⟨b, o, rfl⟩ := addr_form h00
    refine ⟨b, o, rfl, World.block_lt_of_cell? (a := ⟨b, o, none⟩) w (by simpa [Addr.add_lit] using h00), fun k hk => ?_⟩
    have hk' : k < len := by simp at hk; omega
    have hc := hcell k (by omega)
    rw [Addr.add_lit] at hc
    rw [hc]
    simp [List.getD, show k < zs.length by omega]

theorem isRun {g0 g1 : Field} {ei : TypeId} (hN : P.underlying t = some (.struct #[g0, g1])) (honeN : oneCellFields P #[g0, g1] = true) (hCN : P.cellsOf t = 2)
    (ht : P.underlying g0.type = some (.slice ei)) (he : P.underlying ei = some (.int .i64)) (hC : P.cellsOf ei = 1) (j1 : P.underlying g1.type = some (.int .i64))
    (hv : Value.okWide P w r b0 t v) (h : DataW.Trod enc P w base spare held t v d p) : ∃ A n c zs S, v = .agg #[.slice A n c, .int .i64 S] ∧ IntsArg w A n zs := by
  obtain ⟨v0, v1, y0, y1, n, rfl, _, _, q0, q1⟩ := open_agg2 hN honeN hCN hv h
  obtain ⟨S, rfl⟩ := field_int j1 q1
  obtain ⟨A, n, c, zs, rfl, F⟩ := ints_of ht he hC q0
  exact ⟨A, n, c, zs, S, rfl, F⟩

def RunsArg (w : World) (A : Option Addr) (n : Nat) (zs : List Rn) : Prop := zs.length = n ∧ RunsAt w A zs ∧ n ≤ 9223372036854775807
theorem isRuns {f0 f1 : Field} {ei : TypeId} (ht : P.underlying t = some (.slice e)) (hs : P.underlying e = some (.struct #[f0, f1])) (hone : oneCellFields P #[f0, f1] = true) (hC : P.cellsOf e = 2)
    (hi : P.underlying f0.type = some (.slice ei)) (he : P.underlying ei = some (.int .i64)) (hCi : P.cellsOf ei = 1) (j1 : P.underlying f1.type = some (.int .i64))
    (hv : Value.okWide P w r b0 t v) (h : DataW.Trod enc P w base spare held t v d p) : ∃ A n c zs, v = .slice A n c ∧ RunsArg w A n zs := by
  obtain ⟨A, len, cap, rfl⟩ := okWide_slice ht hv
  obtain ⟨fuel, hf⟩ := h
  rcases open_slice_fields ht hs hone hC hf with h0 | ⟨a, len', cap', m, hcs, hl, hm, hlm, hx⟩
  · simp [Value.cells] at h0
    obtain ⟨rfl, rfl, rfl⟩ := h0
    exact ⟨none, 0, 0, [], rfl, rfl, fun h => absurd h (by simp), by omega⟩
  · simp [Value.cells] at hcs
    obtain ⟨rfl, rfl, rfl⟩ := hcs
    have key : ∀ i, i < m → ∃ r : Rn, ∃ A c, w.cell? (a.add (i * 2)) = some (.slice A r.1.length c) ∧ w.cell? (a.add (i * 2 + 1)) = some (.int .i64 r.2) ∧ IntsAt w A r.1 ∧ r.1.length ≤ 9223372036854775807 := by
      intro i hi'
      obtain ⟨n, hn⟩ := hx i hi'
      obtain ⟨v0, y0, c0, t0⟩ := hn 0 f0 rfl
      obtain ⟨v1, y1, c1, t1⟩ := hn 1 f1 rfl
      obtain ⟨A, n, c, zs, rfl, F⟩ := ints_of hi he hCi t0
      obtain ⟨a1, rfl⟩ := field_int j1 t1
      exact ⟨(zs, a1), A, c, by rw [F.1]; exact c0, c1, F.2.1, by rw [F.1]; exact F.2.2⟩
    obtain ⟨R, hR⟩ := choose_lt key
    refine ⟨some a, len, cap, (List.range len).map R, rfl, by simp, fun h0 => ?_, by unfold maxLen at hm; omega⟩
    have hpos : 0 < len := by simpa using h0
    obtain ⟨A0, c0, h00, -⟩ := hR 0 (by omega)
    obtain ⟨b, o, rfl⟩ := addr_form (w := w) (a := a) (by simpa using h00)
    refine ⟨b, o, rfl, World.block_lt_of_cell? (a := ⟨b, o, none⟩) w (by simpa [Addr.add_lit] using h00), fun k hk => ?_⟩
    have hk' : k < len := by simpa using hk
    obtain ⟨A1, c1, h1, h2, h3, h4⟩ := hR k (by omega)
    simp only [Addr.add_lit] at h1 h2
    simp only [List.getElem_map, List.getElem_range]
    exact ⟨A1, c1, h1, by rw [← Nat.add_assoc] at h2; exact h2, h3, h4⟩
end

end Go.Proofs.Ytlebkjkiikehhaa
