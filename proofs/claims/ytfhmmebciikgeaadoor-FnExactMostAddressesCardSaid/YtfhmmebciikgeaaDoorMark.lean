/-
  CONTRACTS: marks written over a slice of integers, and looked for afterwards.
-/
import Derived.Test.YtfhmmebciikgeaaDoorAid
import Derived.Test.YtfhmmebciikgeaaDoorRows
namespace Go.Proofs.YtfhmmebciikgeaaDoor
open Go.RowKit

/-- The first n cells behind an address may be written. -/
def Own (w : World) (A : Option Addr) (n : Nat) : Prop := 0 < n → ∃ g t cs, A = some ⟨g, 0, none⟩ ∧ Blk w g t cs ∧ n ≤ cs.size
/-- Two worlds that differ at most in one block. -/
structure But (A : Option Addr) (w w' : World) : Prop where
  os : w'.os = w.os
  tape : w'.tape = w.tape
  output : w'.output = w.output
  size : w.heap.size ≤ w'.heap.size
  block : ∀ b, b < w.heap.size → (∀ p, A = some p → p.block ≠ b) → w'.heap[b]? = w.heap[b]?
theorem But.refl (A : Option Addr) (w : World) : But A w w := ⟨rfl, rfl, rfl, Nat.le_refl _, fun _ _ _ => rfl⟩
theorem But.set {A : Option Addr} {w w' : World} {g o : Nat} (h : But A w w') (hA : A = some ⟨g, 0, none⟩) (v : Value) : But A w (w'.setCell ⟨g, o, none⟩ v) :=
  ⟨h.os, h.tape, h.output, (by rw [World.size_setCell]; exact h.size), fun b hb hn => (Below.heap_setCell w' ⟨g, o, none⟩ v b (fun e => hn _ hA e.symm)).trans (h.block b hb hn)⟩
theorem But.trans {A : Option Addr} {w w1 w2 : World} (h : But A w w1) (k : But A w1 w2) : But A w w2 :=
  ⟨k.os.trans h.os, k.tape.trans h.tape, k.output.trans h.output, Nat.le_trans h.size k.size, fun b hb hn => (k.block b (Nat.lt_of_lt_of_le hb h.size) hn).trans (h.block b hb hn)⟩
theorem But.ofBelow {A : Option Addr} {w w' : World} (h : Below w.heap.size w w') : But A w w' := ⟨h.os, h.tape, h.output, h.size, fun b hb _ => h.block b hb⟩
theorem But.below {A : Option Addr} {W w w' : World} (h : But A w w') (hW : Below W.heap.size W w) (hA : ∀ p, A = some p → W.heap.size ≤ p.block) : Below W.heap.size W w' :=
  hW.trans ⟨h.os, h.tape, h.output, h.size, fun k hk => h.block k (Nat.lt_of_lt_of_le hk hW.size) (fun p hp => by have := hA p hp; omega)⟩
theorem But.blk {A : Option Addr} {w w' : World} {g : Nat} {t : TypeId} {cs : Array Value} (h : But A w w') (hb : Blk w g t cs) (hg : ∀ p, A = some p → p.block ≠ g) : Blk w' g t cs := (h.block g hb.lt hg).trans hb
theorem But.cell {A : Option Addr} {w w' : World} {b o : Nat} {v : Value} (h : But A w w') (hg : ∀ p, A = some p → p.block ≠ b) (hc : w.cell? ⟨b, o, none⟩ = some v) : w'.cell? ⟨b, o, none⟩ = some v := by
  have hlt := cell_lt hc
  unfold World.cell? at hc ⊢
  simp only [h.block b hlt hg]
  exact hc
theorem IntsAt.but {A B : Option Addr} {w w' : World} {l : List Int} (h : IntsAt w A l) (hb : But B w w') (hne : 0 < l.length → ∀ p q, A = some p → B = some q → q.block ≠ p.block) : IntsAt w' A l := fun h0 => by
  obtain ⟨b, o, e, hlt, hc⟩ := h h0
  exact ⟨b, o, e, Nat.lt_of_lt_of_le hlt hb.size, fun k hk => hb.cell (fun q hq => hne h0 _ q e hq) (hc k hk)⟩
theorem Own.but {A B : Option Addr} {w w' : World} {n : Nat} (h : Own w A n) (hb : But B w w') (hne : 0 < n → ∀ p q, A = some p → B = some q → q.block ≠ p.block) : Own w' A n := fun h0 => by
  obtain ⟨g, t, cs, e, hB, hs⟩ := h h0
  exact ⟨g, t, cs, e, hb.blk hB (fun q hq => hne h0 _ q e hq), hs⟩
theorem Own.bel {A : Option Addr} {w w' : World} {n : Nat} (h : Own w A n) (hb : Below w.heap.size w w') : Own w' A n := fun h0 => by
  obtain ⟨g, t, cs, e, hB, hs⟩ := h h0
  exact ⟨g, t, cs, e, bel_blk hB hb, hs⟩
theorem Own.ofBlk {w : World} {g n : Nat} {t : TypeId} {cs : Array Value} (h : Blk w g t cs) (hs : n ≤ cs.size) : Own w (some ⟨g, 0, none⟩) n := fun _ => ⟨g, t, cs, rfl, h, hs⟩
/-- What a slice of one's own gives. -/
theorem own_gives {w : World} {base n c : Nat} {e : TypeId} {A : Option Addr} {l : List Int} (h : w.ownsRow base e 1 (.slice A n c) n (l.map (Value.int .i64))) :
    IntsAt w A l ∧ l.length = n ∧ Own w A n ∧ (∀ p, A = some p → base ≤ p.block ∧ p.block < w.heap.size) := by
  obtain ⟨h1, h2⟩ := IntsAt.ofOwn h
  refine ⟨h1, h2, ?_, ?_⟩
  · intro h0
    rcases h.2 with ⟨hv, hn⟩ | ⟨g, cap, cur, hv, hb, hg, hnc, _, hsz, _⟩
    · omega
    · injection hv with hA
      exact ⟨g, e, cur, hA, hg, by omega⟩
  · intro p hp
    rcases h.2 with ⟨hv, hn⟩ | ⟨g, cap, cur, hv, hb, hg, hnc, _, hsz, _⟩
    · injection hv with hA
      rw [hA] at hp
      cases hp
    · injection hv with hA
      rw [hA] at hp
      injection hp with hp
      subst hp
      exact ⟨hb, Blk.lt hg⟩

theorem IntsAt.src {A : Option Addr} {w : World} {l : List Int} (h : IntsAt w A l) : 0 < l.length → ∀ p, A = some p → p.block < w.heap.size := fun h0 p hp => by
  obtain ⟨b, o, e, hlt, _⟩ := h h0
  rw [e] at hp
  injection hp with hp
  subst hp
  exact hlt
/-- The marks from m on. -/
def marks (m : Int) (n : Nat) : List Int := (List.range n).map fun (k : Nat) => m + k
theorem marks_len (m : Int) (n : Nat) : (marks m n).length = n := by simp [marks]
theorem marks_at {m : Int} {n i : Nat} (h : i < (marks m n).length) : (marks m n)[i] = m + i := by simp [marks]
/-- Marks stand in a slice, and nothing else has turned. -/
def Marked (w : World) (A : Option Addr) (n : Nat) (m : Int) (e : Ending) (w' : World) : Prop :=
  e = .returned (.int .i64 (m + n)) ∧ IntsAt w' A (marks m n) ∧ But A w w'

end Go.Proofs.YtfhmmebciikgeaaDoor
