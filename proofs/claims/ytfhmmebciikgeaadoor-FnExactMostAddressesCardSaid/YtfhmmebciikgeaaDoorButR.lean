/-
  Two worlds that differ at most in a range of blocks (the same as in XMarkRun, for a seat without runs).
-/
import Derived.Test.YtfhmmebciikgeaaDoorMarkS2
import Derived.Test.YtfhmmebciikgeaaDoorMark
namespace Go.Proofs.YtfhmmebciikgeaaDoor
open Go.RowKit

/-- Two worlds that differ at most in a range of blocks. -/
structure ButR (lo hi : Nat) (w w' : World) : Prop where
  os : w'.os = w.os
  tape : w'.tape = w.tape
  output : w'.output = w.output
  size : w.heap.size ≤ w'.heap.size
  block : ∀ b, b < w.heap.size → (b < lo ∨ hi ≤ b) → w'.heap[b]? = w.heap[b]?
theorem ButR.refl (lo hi : Nat) (w : World) : ButR lo hi w w := ⟨rfl, rfl, rfl, Nat.le_refl _, fun _ _ _ => rfl⟩
theorem ButR.trans {lo hi : Nat} {w w1 w2 : World} (h : ButR lo hi w w1) (k : ButR lo hi w1 w2) : ButR lo hi w w2 :=
  ⟨k.os.trans h.os, k.tape.trans h.tape, k.output.trans h.output, Nat.le_trans h.size k.size, fun b hb hn => (k.block b (Nat.lt_of_lt_of_le hb h.size) hn).trans (h.block b hb hn)⟩
theorem ButR.ofBut {lo hi : Nat} {A : Option Addr} {w w' : World} (h : But A w w') (hA : ∀ p, A = some p → lo ≤ p.block ∧ p.block < hi) : ButR lo hi w w' :=
  ⟨h.os, h.tape, h.output, h.size, fun b hb hn => h.block b hb (fun p hp e => by have := hA p hp; omega)⟩
theorem ButR.set {lo hi g : Nat} (w : World) (hg : lo ≤ g ∧ g < hi) (o : Nat) (v : Value) : ButR lo hi w (w.setCell ⟨g, o, none⟩ v) :=
  ButR.ofBut (A := some ⟨g, 0, none⟩) ((But.refl _ w).set rfl v) (fun p hp => by cases hp; exact hg)
theorem ButR.below {lo hi : Nat} {W w w' : World} (h : ButR lo hi w w') (hW : Below W.heap.size W w) (hlo : W.heap.size ≤ lo) : Below W.heap.size W w' :=
  hW.trans ⟨h.os, h.tape, h.output, h.size, fun k hk => h.block k (Nat.lt_of_lt_of_le hk hW.size) (.inl (by omega))⟩
theorem ButR.blk {lo hi : Nat} {w w' : World} {g : Nat} {t : TypeId} {cs : Array Value} (h : ButR lo hi w w') (hb : Blk w g t cs) (hg : g < lo ∨ hi ≤ g) : Blk w' g t cs := (h.block g hb.lt hg).trans hb
theorem ButR.cell {lo hi : Nat} {w w' : World} {b o : Nat} {v : Value} (h : ButR lo hi w w') (hg : b < lo ∨ hi ≤ b) (hc : w.cell? ⟨b, o, none⟩ = some v) : w'.cell? ⟨b, o, none⟩ = some v := by
  have hlt := cell_lt hc
  unfold World.cell? at hc ⊢
  simp only [h.block b hlt hg]
  exact hc
theorem IntsAt.butR {A : Option Addr} {lo hi : Nat} {w w' : World} {l : List Int} (h : IntsAt w A l) (hb : ButR lo hi w w') (hne : 0 < l.length → ∀ p, A = some p → p.block < lo ∨ hi ≤ p.block) : IntsAt w' A l := fun h0 => by
  obtain ⟨b, o, e, hlt, hc⟩ := h h0
  exact ⟨b, o, e, Nat.lt_of_lt_of_le hlt hb.size, fun k hk => hb.cell (hne h0 _ e) (hc k hk)⟩
theorem butR_bel {lo hi : Nat} {w w' : World} (h : Below w.heap.size w w') : ButR lo hi w w' := ButR.ofBut (A := none) (But.ofBelow h) (fun p hp => by cases hp)
theorem StrsAt.butR {A : Option Addr} {lo hi : Nat} {w w' : World} {l : List ByteArray} (h : StrsAt w A l) (hb : ButR lo hi w w') (hne : 0 < l.length → ∀ p, A = some p → p.block < lo ∨ hi ≤ p.block) : StrsAt w' A l := fun h0 => by
  obtain ⟨b, o, e, hlt, hc⟩ := h h0
  exact ⟨b, o, e, Nat.lt_of_lt_of_le hlt hb.size, fun k hk => hb.cell (hne h0 _ e) (hc k hk)⟩
end Go.Proofs.YtfhmmebciikgeaaDoor
