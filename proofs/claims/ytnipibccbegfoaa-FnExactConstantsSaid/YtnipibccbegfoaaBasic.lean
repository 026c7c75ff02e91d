/-
  THE WALKS of the first laws: constants, names.
-/
import Derived.Test.YtnipibccbegfoaaRows
import Derived.Test.YtnipibccbegfoaaBase
namespace Go.Proofs.Ytnipibccbegfoaa
open Go.RowKit

set_option maxRecDepth 100000 in
set_option maxHeartbeats 2000000 in
theorem walk_FnExactConstants (w : World) : Calls Try.prog 3 #[] w (Ret w (.bool true)) := by
  go_enter Try.func3, Try.ntmps3
  go_wp2
  go_ret
  exact ⟨rfl, Below.refl _ _⟩

end Go.Proofs.Ytnipibccbegfoaa
