/-
  WHAT THE WALK OF A LAW IS TOLD OF EACH ARGUMENT, out of the argument's reading. No program in sight.
-/
import Derived.Test.YtfhmmebciikgeaaDoorBase
import Derived.ProofKit
import Derived.OpenShut
import Derived.ShutString
import Derived.ChangeOld
import Derived.Lib.SmallJoins
import Derived.Deep.Slices
import Derived.Deep.Fields
import Derived.ChangeSlices
import Derived.Test.YtfhmmebciikgeaaDoorSlice
namespace Go.Proofs.YtfhmmebciikgeaaDoor
open Go.ChangeShapes Go.WideShapes Go.ChangeAt Go.RowKit Go.Joins Go.Deep
open Go.ChangeMaps (open_string shut_string)

section
variable {H : Type} {enc : TypeId × Value → H} {P : Program} {w : World} {base : Nat} {spare : Nat → Bool} {held : Bool} {r : Reach} {b0 : Nat} {t e : TypeId} {v : Value} {d : DataW H} {p : List MemPlace}
def IsInt (v : Value) : Prop := ∃ n : Int, v = .int .i64 n ∧ -9223372036854775808 ≤ n ∧ n ≤ 9223372036854775807
theorem i64_bd {n : Int} (h : (Lit.int .i64 n).wf = true) : -9223372036854775808 ≤ n ∧ n ≤ 9223372036854775807 := by
  simp [Lit.wf, IntKind.min, IntKind.max, IntKind.signed, IntKind.bits] at h
  omega
theorem isInt (ht : P.underlying t = some (.int .i64)) (hv : Value.okWide P w r b0 t v) (h : DataW.Trod enc P w base spare held t v d p) : IsInt v := by
  obtain ⟨n, rfl, _, _, wn⟩ := open_int ht hv h
  exact ⟨n, rfl, i64_bd wn⟩
def IsInt4 (v : Value) : Prop := ∃ L W P B : Int, v = .agg #[.int .i64 L, .int .i64 W, .int .i64 P, .int .i64 B]
theorem field_int {f : Field} {y : DataW H × List MemPlace} {n : Nat} (ht : P.underlying f.type = some (.int .i64)) (h : DataW.trod enc P w base spare held n f.type [v] = some y) : ∃ a : Int, v = .int .i64 a := by
  obtain ⟨a, e0, _, _⟩ := DataW.trod_int ht h
  exact ⟨a, by simpa using e0⟩
theorem isInt4 {f0 f1 f2 f3 : Field} (hs : P.underlying t = some (.struct #[f0, f1, f2, f3])) (hone : oneCellFields P #[f0, f1, f2, f3] = true) (hC : P.cellsOf t = 4)
    (i0 : P.underlying f0.type = some (.int .i64)) (i1 : P.underlying f1.type = some (.int .i64)) (i2 : P.underlying f2.type = some (.int .i64)) (i3 : P.underlying f3.type = some (.int .i64))
    (hv : Value.okWide P w r b0 t v) (h : DataW.Trod enc P w base spare held t v d p) : IsInt4 v := by
  obtain ⟨v0, v1, v2, v3, y0, y1, y2, y3, n, rfl, _, _, g0, g1, g2, g3⟩ := open_agg4 hs hone hC hv h
  obtain ⟨a, rfl⟩ := field_int i0 g0
  obtain ⟨b, rfl⟩ := field_int i1 g1
  obtain ⟨c, rfl⟩ := field_int i2 g2
  obtain ⟨d, rfl⟩ := field_int i3 g3
  exact ⟨a, b, c, d, rfl⟩
theorem isString (ht : P.underlying t = some .string) (hv : Value.okWide P w r b0 t v) (h : DataW.Trod enc P w base spare held t v d p) : ∃ s : ByteArray, v = .string s ∧ s.size ≤ 9223372036854775807 := by
  obtain ⟨s, rfl, _, _, ws⟩ := open_string ht hv h
  exact ⟨s, rfl, by unfold maxLen at ws; omega⟩

/-- Each element's fields: any number of one-cell fields. -/
theorem open_slice_fields {fs : Array Field} {fuel : Nat} {cs : List Value} {x : DataW H × List MemPlace} (ht : P.underlying t = some (.slice e)) (he : P.underlying e = some (.struct fs))
    (hone : oneCellFields P fs = true) (hC : P.cellsOf e = fs.size) (h : DataW.trod enc P w base spare held fuel t cs = some x) :
    (cs = [.slice none 0 0]) ∨
    ∃ (a : Addr) (len cap m : Nat), cs = [.slice (some a) len cap] ∧ len ≤ cap ∧ cap ≤ maxLen ∧ len ≤ m ∧
      ∀ i, i < m → ∃ n : Nat, ∀ (j : Nat) (f : Field), fs[j]? = some f → ∃ (v : Value) (y : DataW H × List MemPlace), w.cell? (a.add (i * fs.size + j)) = some v ∧ DataW.trod enc P w base spare held n f.type [v] = some y := by
  rcases open_slice ht h with h0 | ⟨a, len, cap, m, n, D, Pl, hcs, hb, hl, hm, hmm, hx, hi⟩
  · exact .inl h0.1
  · refine .inr ⟨a, len, cap, m, hcs, hl, hm, by rw [hmm]; split <;> omega, fun i him => ?_⟩
    obtain ⟨cs', hc, ht'⟩ := hi i him
    rw [hC] at hc
    obtain ⟨ys, n', hn', hy, hlen, hyl, hf⟩ := DataW.trod_struct he ht'
    obtain ⟨_, hcl, hat⟩ := World.cells?_some hc
    refine ⟨n', fun j f hj => ?_⟩
    obtain ⟨ho, hk⟩ := hone_of hone j f hj
    have hjl : j < fs.size := (Array.getElem?_eq_some_iff.1 hj).1
    have hcell := hat j hjl
    have hv : cs'[j]? = some (cs'[j]'(by omega)) := List.getElem?_eq_getElem (by omega)
    have h1 := hf j f hj
    rw [ho, hk] at h1
    have hone' : (cs'.drop j).take 1 = [cs'[j]'(by omega)] := by
      rw [List.drop_eq_getElem_cons (by omega)]
      rfl
    rw [hone'] at h1
    have hys : ys[j]? = some (ys[j]'(by omega)) := List.getElem?_eq_getElem (by omega)
    refine ⟨_, _, ?_, h1.trans hys⟩
    rw [← Go.Deep.add_add, hcell, hv]

/-- An address at which a cell is known lies in no part of a block. -/
theorem addr_form {a : Addr} {v : Value} (h : w.cell? (a.add 0) = some v) : ∃ b o, a = ⟨b, o, none⟩ := by
  have h' : w.cell? a = some v := by simpa [Addr.add] using h
  obtain ⟨b, o, s⟩ := a
  cases s with
  | none => exact ⟨b, o, rfl⟩
  | some k =>
    simp only [World.cell?] at h'
    split at h' <;> simp_all

def RidesArg (w : World) (A : Option Addr) (n : Nat) (zs : List Rd) : Prop := zs.length = n ∧ RidesAt w A zs ∧ n ≤ 9223372036854775807
theorem isInt4s {f0 f1 f2 f3 : Field} (ht : P.underlying t = some (.slice e)) (hs : P.underlying e = some (.struct #[f0, f1, f2, f3])) (hone : oneCellFields P #[f0, f1, f2, f3] = true) (hC : P.cellsOf e = 4)
    (i0 : P.underlying f0.type = some (.int .i64)) (i1 : P.underlying f1.type = some (.int .i64)) (i2 : P.underlying f2.type = some (.int .i64)) (i3 : P.underlying f3.type = some (.int .i64))
    (hv : Value.okWide P w r b0 t v) (h : DataW.Trod enc P w base spare held t v d p) : ∃ A n c zs, v = .slice A n c ∧ RidesArg w A n zs := by
  obtain ⟨A, len, cap, rfl⟩ := okWide_slice ht hv
  obtain ⟨fuel, hf⟩ := h
  rcases open_slice_fields ht hs hone hC hf with h0 | ⟨a, len', cap', m, hcs, hl, hm, hlm, hx⟩
  · simp [Value.cells] at h0
    obtain ⟨rfl, rfl, rfl⟩ := h0
    exact ⟨none, 0, 0, [], rfl, rfl, fun h => absurd h (by simp), by omega⟩
  · simp [Value.cells] at hcs
    obtain ⟨rfl, rfl, rfl⟩ := hcs
    have key : ∀ i, i < m → ∃ r : Rd, w.cell? (a.add (i * 4)) = some (.int .i64 r.1) ∧ w.cell? (a.add (i * 4 + 1)) = some (.int .i64 r.2.1) ∧ w.cell? (a.add (i * 4 + 2)) = some (.int .i64 r.2.2.1) ∧ w.cell? (a.add (i * 4 + 3)) = some (.int .i64 r.2.2.2) := by
      intro i hi
      obtain ⟨n, hn⟩ := hx i hi
      obtain ⟨v0, y0, c0, t0⟩ := hn 0 f0 rfl
      obtain ⟨v1, y1, c1, t1⟩ := hn 1 f1 rfl
      obtain ⟨v2, y2, c2, t2⟩ := hn 2 f2 rfl
      obtain ⟨v3, y3, c3, t3⟩ := hn 3 f3 rfl
      obtain ⟨a0, rfl⟩ := field_int i0 t0
      obtain ⟨a1, rfl⟩ := field_int i1 t1
      obtain ⟨a2, rfl⟩ := field_int i2 t2
      obtain ⟨a3, rfl⟩ := field_int i3 t3
      exact ⟨(a0, a1, a2, a3), c0, c1, c2, c3⟩
    obtain ⟨R, hR⟩ := choose_lt key
    refine ⟨some a, len, cap, (List.range len).map R, rfl, by simp, fun h0 => ?_, by unfold maxLen at hm; omega⟩
    have hpos : 0 < len := by simpa using h0
    obtain ⟨b, o, rfl⟩ := addr_form (w := w) (a := a) (v := .int .i64 (R 0).1) (by simpa using (hR 0 (by omega)).1)
    refine ⟨b, o, rfl, World.block_lt_of_cell? (a := ⟨b, o, none⟩) w (by simpa [Addr.add_lit] using (hR 0 (by omega)).1), fun k hk => ?_⟩
    have hk' : k < len := by simpa using hk
    obtain ⟨c0, c1, c2, c3⟩ := hR k (by omega)
    simp only [Addr.add_lit] at c0 c1 c2 c3
    simp only [List.getElem_map, List.getElem_range]
    exact ⟨c0, by rw [← Nat.add_assoc] at c1; exact c1, by rw [← Nat.add_assoc] at c2; exact c2, by rw [← Nat.add_assoc] at c3; exact c3⟩

def IntsArg (w : World) (A : Option Addr) (n : Nat) (zs : List Int) : Prop := zs.length = n ∧ IntsAt w A zs ∧ n ≤ 9223372036854775807
theorem isInts (ht : P.underlying t = some (.slice e)) (he : P.underlying e = some (.int .i64)) (hC : P.cellsOf e = 1)
    (hv : Value.okWide P w r b0 t v) (h : DataW.Trod enc P w base spare held t v d p) : ∃ A n c zs, v = .slice A n c ∧ IntsArg w A n zs := by
  obtain ⟨A, len, cap, rfl⟩ := okWide_slice ht hv
  obtain ⟨fuel, hf⟩ := h
  rcases open_ints ht he hC hf with ⟨h0, _⟩ | ⟨a, len', cap', zs, hcs, _, hl, hm, hz, _, hcell, _⟩
  · simp [Value.cells] at h0
    obtain ⟨rfl, rfl, rfl⟩ := h0
    exact ⟨none, 0, 0, [], rfl, rfl, IntsAt.nil _ _, by omega⟩
  · simp [Value.cells] at hcs
    obtain ⟨rfl, rfl, rfl⟩ := hcs
    have hlen : len ≤ zs.length := by rw [hz]; split <;> omega
    refine ⟨some a, len, cap, zs.take len, rfl, by simp; omega, fun h0 => ?_, by unfold maxLen at hm; omega⟩
    have hpos : 0 < len := by simp at h0; omega
    have h00 := hcell 0 (by omega)
    obtain ⟨b, o, rfl⟩ := addr_form h00
    refine ⟨b, o, rfl, World.block_lt_of_cell? (a := ⟨b, o, none⟩) w (by simpa [Addr.add_lit] using h00), fun k hk => ?_⟩
    have hk' : k < len := by simp at hk; omega
    have hc := hcell k (by omega)
    rw [Addr.add_lit] at hc
    rw [hc]
    simp [List.getD, show k < zs.length by omega]

end

end Go.Proofs.YtfhmmebciikgeaaDoor
