/-
  THE WALK of the law on BestPressures (printed by tools/gen_law.py).
-/
import Derived.Test.YtlebkjkiikehhaaBest2
import Derived.Test.YtlebkjkiikehhaaMarkR4
import Derived.Test.YtlebkjkiikehhaaEqI2
import Derived.Test.YtlebkjkiikehhaaAid
import Derived.Test.YtlebkjkiikehhaaFrame
namespace Go.Proofs.Ytlebkjkiikehhaa
open Go.RowKit

set_option maxHeartbeats 4000000 in
theorem walk_FnExactBestPressures {w : World} (A0 : Option Addr) (n0 : Nat) (c0 : Nat) (l0 : List Rd) (F0 : RidesArg w A0 n0 l0) (a1 : Int) (_l1 : -9223372036854775808 ≤ a1) (_u1 : a1 ≤ 9223372036854775807) : Calls Try.prog 7 #[.slice A0 n0 c0, .int .i64 a1] w (Ret w (.bool true)) := by
  clear _l1 _u1
  obtain ⟨hl0, H0, hn0⟩ := F0
  have HL0 := Lib.hid hl0.symm
  clear hl0
  obtain ⟨xs, HX⟩ : ∃ xs, Hid ((bpR l0 a1).1 = xs) := ⟨_, rfl⟩
  obtain ⟨rk, HK⟩ : ∃ rk, Hid ((bpR l0 a1).2 = rk) := ⟨_, rfl⟩
  have V0 := H0.src
  go_enter Try.func7, Try.ntmps7
  go_wp2_with fail
  refine (szRideSW_any A0 n0 c0 1048576 _ (by omega) (by omega) hn0).mono ?_
  rintro e w1 ⟨rfl, hb⟩
  obtain ⟨z0, Z0⟩ : ∃ z, Hid (szF 1048576 n0 = z) := ⟨_, rfl⟩
  rw [Z0.out]
  have B0 := szF_ok (by omega) (by omega) Z0.out
  have q1 := hb.size
  replace H0 := H0.bel hb
  have D := hb
  clear hb
  clear Z0
  rcases Int.lt_or_le z0 0 with hz0 | hz0
  · go_wp2_with fail
    go_ret
    exact ⟨rfl, D⟩
  obtain ⟨hy0, hs0⟩ := B0 hz0
  clear B0
  go_wp2_with fail
  refine (toRideS_any A0 n0 c0 l0 _ H0 HL0.out hs0).mono ?_
  rintro e w2 ⟨gs0, rfl, hgs0, Rs0, hb⟩
  have Ps0 := Rs0.rides
  have q2 := hb.size
  replace H0 := H0.bel hb
  replace D := bel_next D hb
  clear hb
  clear Rs0 hgs0
  go_wp2_with fail
  refine (specBest_any _ n0 _ l0 a1 _ Ps0 HL0.out hs0).mono ?_
  rw [HX.out, HK.out]
  rintro e w3 ⟨A6, c6, rfl, O6, hb⟩
  obtain ⟨I6, -, W6, U6⟩ := own_gives O6
  clear O6
  have q3 := hb.size
  replace H0 := H0.bel hb
  replace Ps0 := Ps0.bel hb
  replace D := bel_next D hb
  clear hb
  clear Ps0
  go_wp2_with fail
  refine (toRideS_any A0 n0 c0 l0 _ H0 HL0.out hs0).mono ?_
  rintro e w4 ⟨gi0, rfl, hgi0, Ri0, hb⟩
  have Pi0 := Ri0.rides
  have Wi0 := Own.ofRB Ri0 HL0.out
  have vi0 := RB.lt Ri0
  have q4 := hb.size
  replace H0 := H0.bel hb
  replace I6 := I6.bel hb
  replace W6 := W6.bel hb
  replace D := bel_next D hb
  clear hb
  clear Ri0
  go_wp2_with fail
  refine (implBest_any _ n0 _ l0 a1 _ Pi0 HL0.out hs0).mono ?_
  rw [HX.out, HK.out]
  rintro e w5 ⟨A9, c9, rfl, O9, hb⟩
  obtain ⟨I9, -, W9, U9⟩ := own_gives O9
  clear O9
  have q5 := hb.size
  replace H0 := H0.bel hb
  replace I6 := I6.bel hb
  replace W6 := W6.bel hb
  replace Wi0 := Wi0.bel hb
  replace Pi0 := Pi0.bel hb
  replace D := bel_next D hb
  clear hb
  have hr : xs.length ≤ 1048576 := by rw [← HX.out]; exact Nat.le_trans (bpR_len _ _) (by omega)
  go_wp2_with fail
  refine (eqInt64S_any A9 A6 xs.length c9 c6 xs _ I9 I6 rfl hr).mono ?_
  rintro e w6 ⟨rfl, hb⟩
  have q6 := hb.size
  replace H0 := H0.bel hb
  replace I6 := I6.bel hb
  replace W6 := W6.bel hb
  replace Wi0 := Wi0.bel hb
  replace Pi0 := Pi0.bel hb
  replace I9 := I9.bel hb
  replace W9 := W9.bel hb
  replace D := bel_next D hb
  clear hb
  go_wp2_with fail
  refine (toRideS_any A0 n0 c0 l0 _ H0 HL0.out hs0).mono ?_
  rintro e w7 ⟨ge0, rfl, hge0, Re0, hb⟩
  have Pe0 := Re0.rides
  have q7 := hb.size
  replace H0 := H0.bel hb
  replace I6 := I6.bel hb
  replace W6 := W6.bel hb
  replace Wi0 := Wi0.bel hb
  replace Pi0 := Pi0.bel hb
  replace I9 := I9.bel hb
  replace W9 := W9.bel hb
  replace D := bel_next D hb
  clear hb
  clear Re0 hge0
  go_wp2_with fail
  refine (eqRideS_any _ _ n0 n0 n0 l0 _ Pi0 Pe0 HL0.out hs0).mono ?_
  rintro e w8 ⟨rfl, hb⟩
  have q8 := hb.size
  replace H0 := H0.bel hb
  replace I6 := I6.bel hb
  replace W6 := W6.bel hb
  replace Wi0 := Wi0.bel hb
  replace Pi0 := Pi0.bel hb
  replace I9 := I9.bel hb
  replace W9 := W9.bel hb
  replace Pe0 := Pe0.bel hb
  replace D := bel_next D hb
  clear hb
  clear Pe0
  clear Pi0
  go_wp2_with fail
  refine (markRideS_any _ n0 n0 (1) _ Wi0 (by omega) (by omega) (by omega)).mono ?_
  rintro e w9 ⟨rfl, hm0, hb⟩
  have hbut := hb
  have q9 := hbut.size
  clear hb hm0
  replace H0 := H0.but hbut (by intro h0 p q hp hq; have yp := V0 h0 p hp; cases hq; (try simp only); omega)
  replace I6 := I6.but hbut (by intro h0 p q hp hq; have yp := U6 p hp; cases hq; (try simp only); omega)
  replace W6 := W6.but hbut (by intro h0 p q hp hq; have yp := U6 p hp; cases hq; (try simp only); omega)
  replace I9 := I9.but hbut (by intro h0 p q hp hq; have yp := U9 p hp; cases hq; (try simp only); omega)
  replace W9 := W9.but hbut (by intro h0 p q hp hq; have yp := U9 p hp; cases hq; (try simp only); omega)
  replace D := hbut.below D (by intro q hq; cases hq; (try simp only); omega)
  clear hbut
  clear Wi0
  go_wp2_with fail
  refine (eqInt64S_any A9 A6 xs.length c9 c6 xs _ I9 I6 rfl hr).mono ?_
  rintro e w10 ⟨rfl, hb⟩
  have q10 := hb.size
  replace H0 := H0.bel hb
  replace I6 := I6.bel hb
  replace W6 := W6.bel hb
  replace I9 := I9.bel hb
  replace W9 := W9.bel hb
  replace D := bel_next D hb
  clear hb
  go_wp2_with fail
  refine (markInt64S_any A9 xs.length c9 1 _ W9 (by omega) (by omega) (by omega)).mono ?_
  rintro e w11 ⟨rfl, M9, hb⟩
  have hbut := hb
  have q11 := hbut.size
  clear hb
  replace H0 := H0.but hbut (by intro h0 p q hp hq; have yp := V0 h0 p hp; have yq := U9 q hq; (try simp only); omega)
  replace I6 := I6.but hbut (by intro h0 p q hp hq; have yp := U6 p hp; have yq := U9 q hq; (try simp only); omega)
  replace W6 := W6.but hbut (by intro h0 p q hp hq; have yp := U6 p hp; have yq := U9 q hq; (try simp only); omega)
  replace D := hbut.below D (by intro q hq; have yq := U9 q hq; (try simp only); omega)
  clear hbut
  clear I9 W9
  go_wp2_with fail
  refine (heldInt64S_any A9 xs.length c9 1 _ M9 (by omega) (by omega) (by omega)).mono ?_
  rintro e w12 ⟨rfl, hb⟩
  have q12 := hb.size
  replace H0 := H0.bel hb
  replace I6 := I6.bel hb
  replace W6 := W6.bel hb
  replace M9 := M9.bel hb
  replace D := bel_next D hb
  clear hb
  go_wp2_with fail
  refine (toRideS_any A0 n0 c0 l0 _ H0 HL0.out hs0).mono ?_
  rintro e w13 ⟨gj0, rfl, hgj0, Rj0, hb⟩
  have Pj0 := Rj0.rides
  have q13 := hb.size
  replace H0 := H0.bel hb
  replace I6 := I6.bel hb
  replace W6 := W6.bel hb
  replace M9 := M9.bel hb
  replace D := bel_next D hb
  clear hb
  clear Rj0 hgj0
  go_wp2_with fail
  refine (implBest_any _ n0 _ l0 a1 _ Pj0 HL0.out hs0).mono ?_
  rw [HX.out, HK.out]
  rintro e w14 ⟨A4, c4, rfl, O4, hb⟩
  obtain ⟨I4, -, W4, U4⟩ := own_gives O4
  clear O4
  have q14 := hb.size
  replace H0 := H0.bel hb
  replace I6 := I6.bel hb
  replace W6 := W6.bel hb
  replace M9 := M9.bel hb
  replace Pj0 := Pj0.bel hb
  replace D := bel_next D hb
  clear hb
  go_wp2_with fail
  refine (eqInt64S_any A4 A6 xs.length c4 c6 xs _ I4 I6 rfl hr).mono ?_
  rintro e w15 ⟨rfl, hb⟩
  have q15 := hb.size
  replace H0 := H0.bel hb
  replace I6 := I6.bel hb
  replace W6 := W6.bel hb
  replace M9 := M9.bel hb
  replace Pj0 := Pj0.bel hb
  replace I4 := I4.bel hb
  replace W4 := W4.bel hb
  replace D := bel_next D hb
  clear hb
  go_wp2_with fail
  refine (heldInt64S_any A9 xs.length c9 1 _ M9 (by omega) (by omega) (by omega)).mono ?_
  rintro e w16 ⟨rfl, hb⟩
  have q16 := hb.size
  replace H0 := H0.bel hb
  replace I6 := I6.bel hb
  replace W6 := W6.bel hb
  replace M9 := M9.bel hb
  replace Pj0 := Pj0.bel hb
  replace I4 := I4.bel hb
  replace W4 := W4.bel hb
  replace D := bel_next D hb
  clear hb
  go_wp2_with fail
  go_ret
  exact ⟨rfl, D⟩

end Go.Proofs.Ytlebkjkiikehhaa
