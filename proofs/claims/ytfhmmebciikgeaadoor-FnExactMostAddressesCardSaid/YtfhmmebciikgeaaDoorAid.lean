/-
  SMALL AIDS for the walks of the laws. No program in sight.
-/
import Derived.Test.YtfhmmebciikgeaaDoorSlice
namespace Go.Proofs.YtfhmmebciikgeaaDoor
open Go.RowKit

theorem szF_ok {left z : Int} {n : Nat} (h0 : 0 ≤ left) (h1 : left ≤ 1048576) (h : szF left n = z) : 0 ≤ z → z ≤ 1048576 ∧ n ≤ 1048576 := by
  unfold szF at h
  split at h <;> omega

theorem cell_lt {w : World} {b o : Nat} {v : Value} (h : w.cell? ⟨b, o, none⟩ = some v) : b < w.heap.size := World.block_lt_of_cell? (a := ⟨b, o, none⟩) w h

/-- A fresh empty slice owns its row. -/
theorem own_nil' (w : World) (t : TypeId) (base : Nat) {g : Nat} (hg : g = w.heap.size) (hb : base ≤ w.heap.size) : (w.alloc (.cells #[] t)).ownsRow base t 1 (.slice (some ⟨g, 0, none⟩) 0 0) 0 [] := by
  subst hg
  have := World.ownsRow_lit (base := base) (e := t) (size := 1) w #[] 0 hb (by unfold maxLen; omega) rfl
  simpa using this

end Go.Proofs.YtfhmmebciikgeaaDoor
