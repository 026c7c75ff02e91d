/-
  WHAT THE LISTED TABLE GIVES.
-/
import Derived.Test.YtlblnknglplgjaaDoorDec
import Derived.Test.YtlblnknglplgjaaDoorRows
import Derived.Stop.LaidErr
import Derived.Lib.LaidTab
namespace Go.Proofs.YtlblnknglplgjaaDoor
open Go.RowKit

theorem tab_of {r : List (String × DataW Unit)} {w : World} (h : laidMet Tryd.prog (("internal/strconv.uint64pow10", Rows.laid_internal_strconv_uint64pow10) :: r) w) : Tab w :=
  Lib.tabIs_of_head (zs := Lib.pow10Tab) (n := 20) (t := 129) gTab (by kernel_rfl) Tryd.underlying129 Tryd.underlying106 (by kernel_rfl) (by kernel_rfl) h

end Go.Proofs.YtlblnknglplgjaaDoor
