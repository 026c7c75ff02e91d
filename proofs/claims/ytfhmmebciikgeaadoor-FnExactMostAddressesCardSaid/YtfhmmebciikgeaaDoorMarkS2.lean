/-
  SMALL AIDS: a slice of strings of one's own; marks from 1 on.
-/
import Derived.Test.YtfhmmebciikgeaaDoorMarkS
namespace Go.Proofs.YtfhmmebciikgeaaDoor
open Go.RowKit

/-- The call returns a slice of strings of its own, and a code. -/
def MadeSC (w : World) (t : TypeId) (xs : List ByteArray) (k : Int) (e : Ending) (w' : World) : Prop :=
  ∃ A c, e = .returned (.tuple #[.slice A xs.length c, .int .i64 k]) ∧ w'.ownsRow w.heap.size t 1 (.slice A xs.length c) xs.length (xs.map Value.string) ∧ Below w.heap.size w w'
/-- The call returns a slice of strings of its own. -/
def MadeSO (w : World) (t : TypeId) (xs : List ByteArray) (e : Ending) (w' : World) : Prop :=
  ∃ A c, e = .returned (.slice A xs.length c) ∧ w'.ownsRow w.heap.size t 1 (.slice A xs.length c) xs.length (xs.map Value.string) ∧ Below w.heap.size w w'
theorem StrsAt.ofOwn {w : World} {base : Nat} {e : TypeId} {A : Option Addr} {n c : Nat} {l : List ByteArray} (h : w.ownsRow base e 1 (.slice A n c) n (l.map Value.string)) : StrsAt w A l ∧ l.length = n := by
  have hl : l.length = n := by simpa using h.1
  refine ⟨fun h0 => ?_, hl⟩
  obtain ⟨g, cap, hv, _, hlt⟩ := h.form (by omega)
  have hA : A = some ⟨g, 0, none⟩ := by injection hv
  subst hA
  refine ⟨g, 0, rfl, hlt, fun k hk => ?_⟩
  have := h.cells (g := g) rfl k (.string l[k]) (by simp [hk])
  simpa [Addr.add_lit] using this
theorem own_givesS {w : World} {base n c : Nat} {e : TypeId} {A : Option Addr} {l : List ByteArray} (h : w.ownsRow base e 1 (.slice A n c) n (l.map Value.string)) :
    StrsAt w A l ∧ l.length = n ∧ Own w A n ∧ (∀ p, A = some p → base ≤ p.block ∧ p.block < w.heap.size) := by
  obtain ⟨h1, h2⟩ := StrsAt.ofOwn h
  refine ⟨h1, h2, ?_, ?_⟩
  · intro h0
    rcases h.2 with ⟨hv, hn⟩ | ⟨g, cap, cur, hv, hb, hg, hnc, _, hsz, _⟩
    · omega
    · injection hv with hA
      exact ⟨g, e, cur, hA, hg, by omega⟩
  · intro p hp
    rcases h.2 with ⟨hv, hn⟩ | ⟨g, cap, cur, hv, hb, hg, hnc, _, hsz, _⟩
    · injection hv with hA
      rw [hA] at hp
      cases hp
    · injection hv with hA
      rw [hA] at hp
      injection hp with hp
      subst hp
      exact ⟨hb, Blk.lt hg⟩
/-- Marks from 1 on stand in a slice of strings, and nothing else has turned. -/
def Marked1S (w : World) (A : Option Addr) (n : Nat) (e : Ending) (w' : World) : Prop :=
  e = .returned (.int .i64 (1 + (n : Int))) ∧ StrsAt w' A (marksS 1 n) ∧ But A w w'
end Go.Proofs.YtfhmmebciikgeaaDoor
