/-
  SMALL AIDS: a slice of integers of one's own as a result. No program in sight.
-/
import Derived.Test.YtlebkjkiikehhaaSlice
import Derived.Test.YtlebkjkiikehhaaRows
import Derived.Test.YtlebkjkiikehhaaAid
namespace Go.Proofs.Ytlebkjkiikehhaa
open Go.RowKit

def MadeIC (w : World) (t : TypeId) (xs : List Int) (k : Int) (e : Ending) (w' : World) : Prop :=
  ∃ A c, e = .returned (.tuple #[.slice A xs.length c, .int .i64 k]) ∧ w'.ownsRow w.heap.size t 1 (.slice A xs.length c) xs.length (xs.map (Value.int .i64)) ∧ Below w.heap.size w w'
theorem own_none (w : World) (base : Nat) (t : TypeId) : w.ownsRow base t 1 (.slice none 0 0) 0 (([] : List Int).map (Value.int .i64)) := ⟨by simp, .inl ⟨rfl, rfl⟩⟩
theorem own_base {w : World} {base base' n size : Nat} {t : TypeId} {v : Value} {xs : List Value} (h : w.ownsRow base' t size v n xs) (hb : base ≤ base') : w.ownsRow base t size v n xs := by
  refine ⟨h.1, ?_⟩
  rcases h.2 with hn | ⟨g, cap, cur, hv, hg, rest⟩
  · exact .inl hn
  · exact .inr ⟨g, cap, cur, hv, Nat.le_trans hb hg, rest⟩
theorem own_belw {w w' : World} {base n size : Nat} {t : TypeId} {v : Value} {xs : List Value} (h : w.ownsRow base t size v n xs) (hb : Below w.heap.size w w') : w'.ownsRow base t size v n xs := by
  refine ⟨h.1, ?_⟩
  rcases h.2 with hn | ⟨g, cap, cur, hv, hg, hB, rest⟩
  · exact .inl hn
  · exact .inr ⟨g, cap, cur, hv, hg, bel_blk (t := t) hB hb, rest⟩
theorem info_int64M : (Try.prog.info? 2).map (fun i => (i.zero, i.size, i.bytes)) = some (some (.int .i64 0), 1, 8) := by kernel_rfl


end Go.Proofs.Ytlebkjkiikehhaa
