/-
  A number lies between two others.
-/
import Derived.Test.YtlebkjkiikehhaaRows
import Derived.Test.YtlebkjkiikehhaaBase
namespace Go.Proofs.Ytlebkjkiikehhaa
open Go.RowKit

def inB (n lo hi : Int) : Bool := decide (lo ≤ n ∧ n ≤ hi)
theorem inB_true {n lo hi : Int} (h : inB n lo hi = true) : lo ≤ n ∧ n ≤ hi := of_decide_eq_true h
theorem inB_false {n lo hi : Int} (h : inB n lo hi = false) : ¬ (lo ≤ n ∧ n ≤ hi) := of_decide_eq_false h
theorem inB_mk {n lo hi : Int} (h : lo ≤ n ∧ n ≤ hi) : inB n lo hi = true := decide_eq_true h
theorem inB_no {n lo hi : Int} (h : ¬ (lo ≤ n ∧ n ≤ hi)) : inB n lo hi = false := decide_eq_false h

theorem l00In_any (n lo hi : Int) (w : World) : Calls Try.prog 65 #[.int .i64 n, .int .i64 lo, .int .i64 hi] w (Ret0 w (.bool (inB n lo hi))) := by
  go_enter Try.func65, Try.ntmps65
  go_wp2
  all_goals go_ret
  all_goals exact ⟨ret_bool (by simp [inB]; try omega), rfl⟩

theorem within_any (n lo hi : Int) (w : World) : Calls Try.prog 85 #[.int .i64 n, .int .i64 lo, .int .i64 hi] w (Ret0 w (.bool (inB n lo hi))) := by
  go_enter Try.func85, Try.ntmps85
  go_wp2
  all_goals go_ret
  all_goals exact ⟨ret_bool (by simp [inB]; try omega), rfl⟩

end Go.Proofs.Ytlebkjkiikehhaa
