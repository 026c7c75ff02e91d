/-
  SLICES OF TUBES, as they lie in memory. No program in sight.
-/
import Derived.Test.YtlebkjkiikehhaaSlice
namespace Go.Proofs.Ytlebkjkiikehhaa
open Go.RowKit

/-! ### tubes (the three-cell twin of XSlice's tubes) -/
abbrev Tb := Int × Int × Int
/-- The three cells of a tube at an address. -/
structure At3 (w : World) (b o : Nat) (r : Tb) : Prop where
  c0 : w.cell? ⟨b, o, none⟩ = some (.int .i64 r.1)
  c1 : w.cell? ⟨b, o + 1, none⟩ = some (.int .i64 r.2.1)
  c2 : w.cell? ⟨b, o + 2, none⟩ = some (.int .i64 r.2.2)
theorem At3.bel {w w' : World} {b o : Nat} {r : Tb} (h : At3 w b o r) (hb : Below w.heap.size w w') : At3 w' b o r := ⟨bel_cell hb h.c0, bel_cell hb h.c1, bel_cell hb h.c2⟩
theorem At3.drew {w : World} {b o : Nat} {r : Tb} (h : At3 w b o r) : At3 w.drew b o r := ⟨h.c0, h.c1, h.c2⟩
def TubesAt (w : World) (A : Option Addr) (l : List Tb) : Prop :=
  0 < l.length → ∃ b o, A = some ⟨b, o, none⟩ ∧ b < w.heap.size ∧ ∀ (k : Nat) (h : k < l.length), At3 w b (o + k * 3) l[k]
theorem TubesAt.bel {w w' : World} {A : Option Addr} {l : List Tb} (h : TubesAt w A l) (hb : Below w.heap.size w w') : TubesAt w' A l := fun h0 => by
  obtain ⟨b, o, e, hlt, hc⟩ := h h0
  exact ⟨b, o, e, Nat.lt_of_lt_of_le hlt hb.size, fun k hk => (hc k hk).bel hb⟩
theorem TubesAt.drew {w : World} {A : Option Addr} {l : List Tb} (h : TubesAt w A l) : TubesAt w.drew A l := h.bel (Below.refl _ _).drew
theorem TubesAt.drewN {w : World} {A : Option Addr} {l : List Tb} (h : TubesAt w A l) (n : Nat) : TubesAt (w.drewN n) A l := h.bel (below_drewN (Below.refl _ _) n)
theorem TubesAt.alloc {w : World} {A : Option Addr} {l : List Tb} (h : TubesAt w A l) (o : Obj) : TubesAt (w.alloc o) A l :=
  h.bel ((Below.refl _ _).alloc (Nat.le_refl _) o)
/-- The first i tubes of a list stand in a row of cells. -/
def Fill3 (cs : Array Value) (l : List Tb) (i : Nat) : Prop :=
  cs.size = l.length * 3 ∧ ∀ (k : Nat) (h : k < l.length), k < i → cs[k * 3]? = some (.int .i64 l[k].1) ∧ cs[k * 3 + 1]? = some (.int .i64 l[k].2.1) ∧ cs[k * 3 + 2]? = some (.int .i64 l[k].2.2)
theorem Fill3.step {cs : Array Value} {l : List Tb} {i : Nat} (h : Fill3 cs l i) (hi : i < l.length) :
    Fill3 (((cs.setIfInBounds (i * 3) (.int .i64 l[i].1)).setIfInBounds (i * 3 + 1) (.int .i64 l[i].2.1)).setIfInBounds (i * 3 + 2) (.int .i64 l[i].2.2)) l (i + 1) := by
  have hs := h.1
  refine ⟨by simpa using hs, fun k hk hki => ?_⟩
  by_cases e : k = i
  · subst e
    have g3 : k * 3 + 2 < cs.size := by omega
    refine ⟨?_, ?_, ?_⟩ <;> simp [Array.getElem?_setIfInBounds] <;> omega
  · obtain ⟨a, b, c⟩ := h.2 k hk (by omega)
    refine ⟨?_, ?_, ?_⟩
    · rw [Array.getElem?_setIfInBounds_ne (by omega), Array.getElem?_setIfInBounds_ne (by omega), Array.getElem?_setIfInBounds_ne (by omega)]; exact a
    · rw [Array.getElem?_setIfInBounds_ne (by omega), Array.getElem?_setIfInBounds_ne (by omega), Array.getElem?_setIfInBounds_ne (by omega)]; exact b
    · rw [Array.getElem?_setIfInBounds_ne (by omega), Array.getElem?_setIfInBounds_ne (by omega), Array.getElem?_setIfInBounds_ne (by omega)]; exact c
/-- A block that holds just a list of tubes. -/
def TB (w : World) (g : Nat) (t : TypeId) (l : List Tb) : Prop := ∃ cs, Blk w g t cs ∧ Fill3 cs l l.length
theorem TB.bel {w w' : World} {g : Nat} {t : TypeId} {l : List Tb} (h : TB w g t l) (hb : Below w.heap.size w w') : TB w' g t l := by
  obtain ⟨cs, a, b⟩ := h
  exact ⟨cs, bel_blk a hb, b⟩
theorem TB.tubes {w : World} {g : Nat} {t : TypeId} {l : List Tb} (h : TB w g t l) : TubesAt w (some ⟨g, 0, none⟩) l := fun _ => by
  obtain ⟨cs, a, b⟩ := h
  refine ⟨g, 0, rfl, a.lt, fun k hk => ?_⟩
  obtain ⟨x0, x1, x2⟩ := b.2 k hk hk
  rw [Nat.zero_add]
  exact ⟨(a.cell _).trans x0, (a.cell _).trans x1, (a.cell _).trans x2⟩
/-- Three cells of a block, and that they may be written. -/
theorem Blk.at3 {w : World} {g n k : Nat} {t : TypeId} {cs : Array Value} (h : Blk w g t cs) (hs : cs.size = n * 3) (hk : k < n) :
    ∃ a b c, w.cell? ⟨g, k * 3, none⟩ = some a ∧ w.cell? ⟨g, k * 3 + 1, none⟩ = some b ∧ w.cell? ⟨g, k * 3 + 2, none⟩ = some c ∧
      w.frozen? ⟨g, k * 3, none⟩ = false ∧ w.frozen? ⟨g, k * 3 + 1, none⟩ = false ∧ w.frozen? ⟨g, k * 3 + 2, none⟩ = false := by
  refine ⟨cs[k * 3]'(by omega), cs[k * 3 + 1]'(by omega), cs[k * 3 + 2]'(by omega), ?_, ?_, ?_, h.frozen _, h.frozen _, h.frozen _⟩ <;> rw [h.cell] <;> exact Array.getElem?_eq_getElem _

/-- The call returns a new slice that reads as a list of tubes. -/
def Made3 (w : World) (t : TypeId) (l : List Tb) (n : Nat) (e : Ending) (w' : World) : Prop :=
  ∃ g, e = .returned (.slice (some ⟨g, 0, none⟩) n n) ∧ w.heap.size ≤ g ∧ TB w' g t l ∧ Below w.heap.size w w'

/-- The call returns a network whose tubes lie in a new slice. -/
def MadeN (w : World) (t : TypeId) (S : Int) (l : List Tb) (n : Nat) (e : Ending) (w' : World) : Prop :=
  ∃ g, e = .returned (.agg #[.int .i64 S, .slice (some ⟨g, 0, none⟩) n n]) ∧ w.heap.size ≤ g ∧ TB w' g t l ∧ Below w.heap.size w w'


end Go.Proofs.Ytlebkjkiikehhaa
