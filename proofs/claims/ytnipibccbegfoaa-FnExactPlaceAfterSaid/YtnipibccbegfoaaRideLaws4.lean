/-
  THE WALK of the law on PlaceAfter (printed by tools/gen_listlaws.py).
-/
import Derived.Test.YtnipibccbegfoaaRides
import Derived.Test.YtnipibccbegfoaaRide2
import Derived.Test.YtnipibccbegfoaaRideList4
import Derived.Test.YtnipibccbegfoaaFrame
namespace Go.Proofs.Ytnipibccbegfoaa
open Go.RowKit

set_option maxHeartbeats 2000000 in
theorem walk_FnExactPlaceAfter {w : World} (A : Option Addr) (n c : Nat) (l : List Rd) (F : RidesArg w A n l) (ticks : Int) (_l : -9223372036854775808 ≤ ticks) (_u : ticks ≤ 9223372036854775807) : Calls Try.prog 13 #[.slice A n c, .int .i64 ticks] w (Ret w (.bool true)) := by
  clear _l _u
  obtain ⟨hl, h, hn⟩ := F
  have HL := Lib.hid hl.symm
  clear hl
  by_cases hs : n ≤ 1048576
  · have e : szF 1048576 n = 1048576 - (n : Int) := by unfold szF; rw [if_neg (by omega)]
    have E := Lib.hid e
    clear e
    obtain ⟨⟨p1, ⟨p2, p3⟩, p4⟩, hp⟩ : ∃ p, p = placeAfter l ticks := ⟨_, rfl⟩
    have HP := Lib.hid hp
    clear hp
    go_enter Try.func13, Try.ntmps13
    go_wp2_with fail
    refine (szRideS_any A n c 1048576 _ (by omega) (by omega) hn).mono ?_
    rintro e w0 ⟨rfl, rfl⟩
    rw [E.out]
    go_wp2_with fail
    refine (toRideS_any A n c l _ h HL.out hs).mono ?_
    rintro e w1 ⟨g1, rfl, hg1, R1, hb1⟩
    go_wp2_with fail
    refine (specPlaceAfter_any _ n n l ticks _ R1.rides HL.out hs).mono ?_
    rintro e w2 ⟨rfl, hb2⟩
    rw [← HP.out]
    simp only [pv]
    have D2 := bel_next hb1 hb2
    go_wp2_with fail
    refine (toRideS_any A n c l _ (h.bel (D2.alloc D2.size _)) HL.out hs).mono ?_
    rintro e w3 ⟨g3, rfl, hg3, R3, hb3⟩
    have D3 : Below w.heap.size w w3 := bel_next (D2.alloc D2.size _) hb3
    have F3 : Hid (Blk w3 w2.heap.size 37 #[.int .i64 p2, .int .i64 p3]) := bel_blk (Blk.new _ _ _) hb3
    clear hb1 hb2 hb3 D2
    go_wp2_with fail
    refine (implPlaceAfter_any _ n n l ticks _ R3.rides HL.out hs).mono ?_
    rintro e w4 ⟨rfl, hb4⟩
    rw [← HP.out]
    simp only [pv]
    have D4 := bel_next D3 hb4
    have F4 := hid_blk F3 hb4
    have R4 := R3.bel hb4
    obtain ⟨c0, c1, -⟩ := F4.out.c2
    have s4 := F4.out.lt
    clear hb4 F3 D3
    go_wp2_with fail
    refine (eqFraction_any _ _ _).mono ?_
    rintro e w5 ⟨rfl, hb5⟩
    have D5 : Below w.heap.size w w5 := bel_next (D4.alloc D4.size _) hb5
    have R5 := (R4.bel ((Below.refl _ _).alloc (Nat.le_refl _) _)).bel hb5
    clear hb5 c0 c1
    go_wp2_with fail
    refine (toRideS_any A n c l _ (h.bel D5) HL.out hs).mono ?_
    rintro e w6 ⟨g6, rfl, hg6, R6, hb6⟩
    have D6 := bel_next D5 hb6
    have R7 := R5.bel hb6
    go_wp2_with fail
    refine (eqRideS_any _ _ n n n l _ R7.rides R6.rides HL.out hs).mono ?_
    rintro e w7 ⟨rfl, hb7⟩
    go_wp2_with fail
    go_ret
    exact ⟨rfl, bel_next D6 hb7⟩
  · have e : szF 1048576 n = -1 := by unfold szF; rw [if_pos (by omega)]
    have E := Lib.hid e
    clear e
    go_enter Try.func13, Try.ntmps13
    go_wp2_with fail
    refine (szRideS_any A n c 1048576 _ (by omega) (by omega) hn).mono ?_
    rintro e w0 ⟨rfl, rfl⟩
    rw [E.out]
    go_wp2_with fail
    go_ret
    exact ⟨rfl, Below.refl _ _⟩

end Go.Proofs.Ytnipibccbegfoaa
