/-
  THE WALKS of the laws on lists of rides (printed by tools/gen_listlaws.py).
-/
import Derived.Test.YtnipibccbegfoaaRides
import Derived.Test.YtnipibccbegfoaaRideList2
import Derived.Test.YtnipibccbegfoaaRideList3
import Derived.Test.YtnipibccbegfoaaFrame
namespace Go.Proofs.Ytnipibccbegfoaa
open Go.RowKit

set_option maxHeartbeats 1000000 in
theorem walk_FnExactTicksOfWay {w : World} (A : Option Addr) (n c : Nat) (l : List Rd) (F : RidesArg w A n l) : Calls Try.prog 11 #[.slice A n c] w (Ret w (.bool true)) := by
  obtain ⟨hl, h, hn⟩ := F
  have HL := Lib.hid hl.symm
  clear hl
  by_cases hs : n ≤ 1048576
  · have e : szF 1048576 n = 1048576 - (n : Int) := by unfold szF; rw [if_neg (by omega)]
    have E := Lib.hid e
    clear e
    go_enter Try.func11, Try.ntmps11
    go_wp2_with fail
    refine (szRideS_any A n c 1048576 _ (by omega) (by omega) hn).mono ?_
    rintro e w0 ⟨rfl, rfl⟩
    rw [E.out]
    go_wp2_with fail
    refine (toRideS_any A n c l _ h HL.out hs).mono ?_
    rintro e w1 ⟨g1, rfl, hg1, R1, hb1⟩
    go_wp2_with fail
    refine (specTicksOfWay_any _ n n l _ R1.rides HL.out hs).mono ?_
    rintro e w2 ⟨rfl, hb2⟩
    have D2 := bel_next hb1 hb2
    go_wp2_with fail
    refine (toRideS_any A n c l _ (h.bel D2) HL.out hs).mono ?_
    rintro e w3 ⟨g3, rfl, hg3, R3, hb3⟩
    have D3 := bel_next D2 hb3
    go_wp2_with fail
    refine (implTicksOfWay_any _ n n l _ R3.rides HL.out hs).mono ?_
    rintro e w4 ⟨rfl, hb4⟩
    have D4 := bel_next D3 hb4
    have R4 := R3.bel hb4
    go_wp2_with fail
    refine (toRideS_any A n c l _ (h.bel D4) HL.out hs).mono ?_
    rintro e w5 ⟨g5, rfl, hg5, R5, hb5⟩
    have D5 := bel_next D4 hb5
    have R6 := R4.bel hb5
    go_wp2_with fail
    refine (eqRideS_any _ _ n n n l _ R6.rides R5.rides HL.out hs).mono ?_
    rintro e w6 ⟨rfl, hb6⟩
    go_wp2_with fail
    go_ret
    exact ⟨rfl, bel_next D5 hb6⟩
  · have e : szF 1048576 n = -1 := by unfold szF; rw [if_pos (by omega)]
    have E := Lib.hid e
    clear e
    go_enter Try.func11, Try.ntmps11
    go_wp2_with fail
    refine (szRideS_any A n c 1048576 _ (by omega) (by omega) hn).mono ?_
    rintro e w0 ⟨rfl, rfl⟩
    rw [E.out]
    go_wp2_with fail
    go_ret
    exact ⟨rfl, Below.refl _ _⟩

set_option maxHeartbeats 1000000 in
theorem walk_FnExactSlowestRide {w : World} (A : Option Addr) (n c : Nat) (l : List Rd) (F : RidesArg w A n l) : Calls Try.prog 12 #[.slice A n c] w (Ret w (.bool true)) := by
  obtain ⟨hl, h, hn⟩ := F
  have HL := Lib.hid hl.symm
  clear hl
  by_cases hs : n ≤ 1048576
  · have e : szF 1048576 n = 1048576 - (n : Int) := by unfold szF; rw [if_neg (by omega)]
    have E := Lib.hid e
    clear e
    go_enter Try.func12, Try.ntmps12
    go_wp2_with fail
    refine (szRideS_any A n c 1048576 _ (by omega) (by omega) hn).mono ?_
    rintro e w0 ⟨rfl, rfl⟩
    rw [E.out]
    go_wp2_with fail
    refine (toRideS_any A n c l _ h HL.out hs).mono ?_
    rintro e w1 ⟨g1, rfl, hg1, R1, hb1⟩
    go_wp2_with fail
    refine (specSlowestRide_any _ n n l _ R1.rides HL.out hs).mono ?_
    rintro e w2 ⟨rfl, hb2⟩
    have D2 := bel_next hb1 hb2
    go_wp2_with fail
    refine (toRideS_any A n c l _ (h.bel D2) HL.out hs).mono ?_
    rintro e w3 ⟨g3, rfl, hg3, R3, hb3⟩
    have D3 := bel_next D2 hb3
    go_wp2_with fail
    refine (implSlowestRide_any _ n n l _ R3.rides HL.out hs).mono ?_
    rintro e w4 ⟨rfl, hb4⟩
    have D4 := bel_next D3 hb4
    have R4 := R3.bel hb4
    go_wp2_with fail
    refine (toRideS_any A n c l _ (h.bel D4) HL.out hs).mono ?_
    rintro e w5 ⟨g5, rfl, hg5, R5, hb5⟩
    have D5 := bel_next D4 hb5
    have R6 := R4.bel hb5
    go_wp2_with fail
    refine (eqRideS_any _ _ n n n l _ R6.rides R5.rides HL.out hs).mono ?_
    rintro e w6 ⟨rfl, hb6⟩
    go_wp2_with fail
    go_ret
    exact ⟨rfl, bel_next D5 hb6⟩
  · have e : szF 1048576 n = -1 := by unfold szF; rw [if_pos (by omega)]
    have E := Lib.hid e
    clear e
    go_enter Try.func12, Try.ntmps12
    go_wp2_with fail
    refine (szRideS_any A n c 1048576 _ (by omega) (by omega) hn).mono ?_
    rintro e w0 ⟨rfl, rfl⟩
    rw [E.out]
    go_wp2_with fail
    go_ret
    exact ⟨rfl, Below.refl _ _⟩

end Go.Proofs.Ytnipibccbegfoaa
