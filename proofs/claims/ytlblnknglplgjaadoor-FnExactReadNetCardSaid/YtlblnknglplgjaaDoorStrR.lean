/-
  SMALL AIDS: a slice of texts of one's own as a result.
-/
import Derived.Test.YtlblnknglplgjaaDoorSlice
import Derived.Test.YtlblnknglplgjaaDoorRows
import Derived.Test.YtlblnknglplgjaaDoorAid
namespace Go.Proofs.YtlblnknglplgjaaDoor
open Go.RowKit

/-- The call returns a slice of strings of its own. -/
def MadeSR (w : World) (t : TypeId) (xs : List ByteArray) (e : Ending) (w' : World) : Prop :=
  ∃ A c, e = .returned (.slice A xs.length c) ∧ w'.ownsRow w.heap.size t 1 (.slice A xs.length c) xs.length (xs.map Value.string) ∧ Below w.heap.size w w'
theorem info_strR : (Tryd.prog.info? 9).map (fun i => (i.zero, i.size, i.bytes)) = some (some (.string ByteArray.empty), 1, 16) := by kernel_rfl

end Go.Proofs.YtlblnknglplgjaaDoor
