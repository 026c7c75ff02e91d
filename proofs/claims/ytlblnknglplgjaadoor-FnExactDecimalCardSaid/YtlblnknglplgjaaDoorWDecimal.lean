/-
  THE WALK of the law on Decimal.
-/
import Derived.Test.YtlblnknglplgjaaDoorDec
import Derived.Test.YtlblnknglplgjaaDoorRows
import Derived.Stop.LaidErr
import Derived.Lib.LaidTab
namespace Go.Proofs.YtlblnknglplgjaaDoor
open Go.RowKit

theorem tab_of {r : List (String × DataW Unit)} {w : World} (h : laidMet Tryd.prog (("internal/strconv.uint64pow10", Rows.laid_internal_strconv_uint64pow10) :: r) w) : Tab w :=
  Lib.tabIs_of_head (zs := Lib.pow10Tab) (n := 20) (t := 129) gTab (by kernel_rfl) Tryd.underlying129 Tryd.underlying106 (by kernel_rfl) (by kernel_rfl) h

theorem walk_FnExactDecimal {w : World} (hL : laidMet Tryd.prog Rows.fnExactDecimalRow.laid w) (a0 : Int) (l0 : -9223372036854775808 ≤ a0) (u0 : a0 ≤ 9223372036854775807) :
    Calls Tryd.prog 4 #[.int .i64 a0] w (Ret w (.bool true)) := by
  have ht : Tab w := tab_of hL.tail.tail
  have HT := Lib.hid ht
  clear hL ht
  go_enter Tryd.func4, Tryd.ntmps4
  go_wp2_with fail
  refine (specDec_any a0 _ l0 u0).mono ?_
  rintro e w1 ⟨rfl, hb1⟩
  have HT1 := Lib.hid (HT.out.bel hb1)
  go_wp2_with fail
  refine (implDec_any a0 _ l0 u0 HT1.out).mono ?_
  rintro e w2 ⟨rfl, hb2⟩
  go_wp2_with fail
  go_ret
  exact ⟨rfl, bel_next hb1 hb2⟩

end Go.Proofs.YtlblnknglplgjaaDoor
