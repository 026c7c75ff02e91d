/-
  THE WALK of the law on MostAddresses.
-/
import Derived.Test.YtfhmmebciikgeaaDoorGreatI
import Derived.Test.YtfhmmebciikgeaaDoorRows
import Derived.Stop.LaidErr
import Derived.Lib.LaidTab
namespace Go.Proofs.YtfhmmebciikgeaaDoor
open Go.RowKit

def tzL : List Int := Lib.deBruijn32tab.map Int.ofNat
theorem gTz : Tryd.prog.globalNamed "math/bits.deBruijn32tab" = some 0 := by kernel_rfl
theorem tz_of {r : List (String × DataW Unit)} {w : World} (h : laidMet Tryd.prog (("math/bits.deBruijn32tab", Rows.laid_math_bits_deBruijn32tab) :: r) w) : TzTab w := fun j hj => by
  have h1 : Lib.TabIs Tryd.prog w "math/bits.deBruijn32tab" .u8 tzL :=
    Lib.tabIs_of_head (zs := tzL) (n := 32) (t := 42) gTz (by kernel_rfl) Tryd.underlying42 Tryd.underlying5 (by kernel_rfl) (by kernel_rfl) h
  have h2 := Lib.TabIs.cell h1 gTz j hj
  have h3 : tzL.getD j 0 = ((Lib.deBruijn32tab.getD j 0 : Nat) : Int) := by
    unfold tzL
    have hj2 : j < Lib.deBruijn32tab.length := hj
    simp [List.getD, hj2]
  rw [h3] at h2
  exact h2

theorem walk_FnExactMostAddresses {w : World} (hL : laidMet Tryd.prog Rows.fnExactMostAddressesRow.laid w) (a0 : Int) (_l0 : -9223372036854775808 ≤ a0) (_u0 : a0 ≤ 9223372036854775807) (a1 : Int) (_l1 : -9223372036854775808 ≤ a1) (_u1 : a1 ≤ 9223372036854775807) (a2 : Int) (_l2 : -9223372036854775808 ≤ a2) (_u2 : a2 ≤ 9223372036854775807) :
    Calls Tryd.prog 3 #[.int .i64 a0, .int .i64 a1, .int .i64 a2] w (Ret w (.bool true)) := by
  have ht : TzTab w := tz_of hL
  have HT := Lib.hid ht
  have S0 := Lib.hid (fun w => specGreat_any a0 a1 a2 w)
  have I0 := Lib.hid (fun w => implGreat_any a0 a1 a2 w)
  generalize (greatR a0 a1 a2).1 = x at *
  generalize (greatR a0 a1 a2).2 = y at *
  clear hL ht
  go_enter Tryd.func3, Tryd.ntmps3
  go_wp2_with fail
  refine (S0.out _).mono ?_
  rintro e w1 ⟨rfl, hb1⟩
  have HT1 := Lib.hid (HT.out.bel hb1)
  go_wp2_with fail
  refine (I0.out _ HT1.out).mono ?_
  rintro e w2 ⟨rfl, hb2⟩
  go_wp2_with fail
  go_ret
  exact ⟨rfl, bel_next hb1 hb2⟩

end Go.Proofs.YtfhmmebciikgeaaDoor
