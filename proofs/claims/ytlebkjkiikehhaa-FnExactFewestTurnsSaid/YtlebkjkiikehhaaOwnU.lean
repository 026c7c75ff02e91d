/-
  SMALL AID: a row of integers of one's own, its block known. No program in sight.
-/
import Derived.Test.YtlebkjkiikehhaaSlice
namespace Go.Proofs.Ytlebkjkiikehhaa
open Go.RowKit

def OwnU (w : World) (g cap : Nat) (t : TypeId) (l : List Int) : Prop := ∃ cur : Array Value, Blk w g t cur ∧ l.length ≤ cap ∧ cap ≤ maxLen ∧ cur.size = cap ∧ cur.toList.take l.length = l.map (Value.int .i64)
theorem OwnU.owns {w : World} {g cap base : Nat} {t : TypeId} {l : List Int} (h : OwnU w g cap t l) (hb : base ≤ g) : w.ownsRow base t 1 (.slice (some ⟨g, 0, none⟩) l.length cap) l.length (l.map (Value.int .i64)) := by
  obtain ⟨cur, hB, h1, h2, h3, h4⟩ := h
  exact ⟨by simp, .inr ⟨g, cap, cur, rfl, hb, hB, h1, h2, by simpa using h3, by simpa using h4⟩⟩
theorem OwnU.set {w : World} {g cap : Nat} {t : TypeId} {l : List Int} (h : OwnU w g cap t l) (i : Nat) (_hi : i < l.length) (x : Int) : OwnU (w.setCell ⟨g, i, none⟩ (.int .i64 x)) g cap t (l.set i x) := by
  obtain ⟨cur, hB, h1, h2, h3, h4⟩ := h
  refine ⟨_, hB.set_ i _, by simpa using h1, h2, by simpa using h3, ?_⟩
  rw [List.length_set, Array.toList_setIfInBounds, List.take_set, h4, List.map_set]
theorem OwnU.bel {w w' : World} {g cap : Nat} {t : TypeId} {l : List Int} (h : OwnU w g cap t l) (hb : Below w.heap.size w w') : OwnU w' g cap t l := by
  obtain ⟨cur, hB, h1⟩ := h
  exact ⟨cur, bel_blk hB hb, h1⟩
theorem OwnU.cellAt {w : World} {g cap : Nat} {t : TypeId} {l : List Int} (h : OwnU w g cap t l) {i : Nat} (hi : i < l.length) : w.cell? ⟨g, i, none⟩ = some (.int .i64 l[i]) ∧ w.frozen? ⟨g, i, none⟩ = false ∧ g < w.heap.size := by
  obtain ⟨cur, hB, h1, h2, h3, h4⟩ := h
  refine ⟨?_, hB.frozen i, hB.lt⟩
  rw [hB.cell]
  have h5 := congrArg (fun x => x[i]?) h4
  simp only [List.getElem?_take_of_lt hi, List.getElem?_map, List.getElem?_eq_getElem hi, Option.map_some] at h5
  rw [← h5]
  simp
theorem OwnU.ofBlk {w : World} {g : Nat} {t : TypeId} {l : List Int} {n : Nat} (h : Blk w g t (ints l)) (hl : l.length = n) (hn : n ≤ maxLen) : OwnU w g n t l :=
  ⟨ints l, h, by omega, hn, by simp [ints, hl], by rw [← List.length_map (f := Value.int .i64)]; exact List.take_length⟩

end Go.Proofs.Ytlebkjkiikehhaa
