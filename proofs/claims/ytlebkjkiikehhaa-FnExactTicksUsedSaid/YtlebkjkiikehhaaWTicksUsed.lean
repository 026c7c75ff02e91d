/-
  THE WALK of the law on TicksUsed (printed by tools/gen_law.py).
-/
import Derived.Test.YtlebkjkiikehhaaUsed2
import Derived.Test.YtlebkjkiikehhaaMarkRun
import Derived.Test.YtlebkjkiikehhaaMarkI
import Derived.Test.YtlebkjkiikehhaaIntS
import Derived.Test.YtlebkjkiikehhaaAid
import Derived.Test.YtlebkjkiikehhaaFrameRun
namespace Go.Proofs.Ytlebkjkiikehhaa
open Go.RowKit

set_option maxHeartbeats 4000000 in
theorem walk_FnExactTicksUsed {w : World} (A0 : Option Addr) (n0 : Nat) (c0 : Nat) (l0 : List Int) (F0 : IntsArg w A0 n0 l0) (A1 : Option Addr) (n1 : Nat) (c1 : Nat) (l1 : List Rn) (F1 : RunsArg w A1 n1 l1) : Calls Try.prog 4 #[.slice A0 n0 c0, .slice A1 n1 c1] w (Ret w (.bool true)) := by
  obtain ⟨hl0, H0, hn0⟩ := F0
  have HL0 := Lib.hid hl0.symm
  clear hl0
  obtain ⟨hl1, H1, hn1⟩ := F1
  have HL1 := Lib.hid hl1.symm
  clear hl1
  obtain ⟨xs, HX⟩ : ∃ xs, Hid ((usedR l0 l1).1 = xs) := ⟨_, rfl⟩
  obtain ⟨rk, HK⟩ : ∃ rk, Hid ((usedR l0 l1).2 = rk) := ⟨_, rfl⟩
  have V0 := H0.src
  rcases Nat.lt_or_ge 1048576 n0 with hs0 | hs0
  · go_enter Try.func4, Try.ntmps4
    go_wp2_with fail
    go_ret
    exact ⟨rfl, by first | exact Below.refl _ _ | go_grown⟩
  go_enter Try.func4, Try.ntmps4
  go_wp2_with fail
  refine (szRunS_any A1 n1 c1 l1 1048576 _ (by omega) (by omega) hn1 H1 HL1.out).mono ?_
  rintro e w1 ⟨rfl, hb⟩
  obtain ⟨z1, Z1⟩ : ∃ z, Hid (szRuns 1048576 l1 = z) := ⟨_, rfl⟩
  rw [Z1.out]
  have B1 := szRuns_ok (by omega) (by omega) Z1.out
  have q1 := hb.size
  replace H0 := H0.bel hb
  have D := hb
  clear hb
  clear Z1
  rcases Int.lt_or_le z1 0 with hz1 | hz1
  · go_wp2_with fail
    go_ret
    exact ⟨rfl, D⟩
  obtain ⟨hy1, hs1, hp1⟩ := B1 hz1
  replace hs1 : n1 ≤ 1048576 := by rw [HL1.out]; exact hs1
  clear B1
  go_wp2_with fail
  refine (toInt64S_any A0 n0 c0 l0 _ H0 HL0.out hs0).mono ?_
  rintro e w2 ⟨gs0, rfl, hgs0, Rs0, hb⟩
  have Ps0 := IntsAt.ofBlk Rs0.out
  have q2 := hb.size
  replace H0 := H0.bel hb
  replace D := bel_next D hb
  clear hb
  clear Rs0 hgs0
  go_wp2_with fail
  refine (toRunS_any A1 n1 c1 l1 _ (H1.bel D) HL1.out hp1).mono ?_
  rintro e w3 ⟨gs1, rfl, hgs1, Rs1, hb⟩
  have Ps1 := Rs1.runs hp1
  have q3 := hb.size
  replace H0 := H0.bel hb
  replace Ps0 := Ps0.bel hb
  replace D := bel_next D hb
  clear hb
  clear Rs1 hgs1
  go_wp2_with fail
  refine (specUsed_any _ n0 _ l0 _ n1 _ l1 _ Ps0 HL0.out hs0 Ps1 HL1.out hp1).mono ?_
  rw [HX.out, HK.out]
  rintro e w4 ⟨A6, c6, rfl, O6, hb⟩
  obtain ⟨I6, -, W6, U6⟩ := own_gives O6
  clear O6
  have q4 := hb.size
  replace H0 := H0.bel hb
  replace Ps0 := Ps0.bel hb
  replace Ps1 := Ps1.bel hb
  replace D := bel_next D hb
  clear hb
  clear Ps0
  clear Ps1
  go_wp2_with fail
  refine (toInt64S_any A0 n0 c0 l0 _ H0 HL0.out hs0).mono ?_
  rintro e w5 ⟨gi0, rfl, hgi0, Ri0, hb⟩
  have Pi0 := IntsAt.ofBlk Ri0.out
  have Wi0 := Own.ofInts Ri0 HL0.out
  have vi0 := Ri0.out.lt
  have q5 := hb.size
  replace H0 := H0.bel hb
  replace I6 := I6.bel hb
  replace W6 := W6.bel hb
  replace D := bel_next D hb
  clear hb
  clear Ri0
  go_wp2_with fail
  refine (toRunS_any A1 n1 c1 l1 _ (H1.bel D) HL1.out hp1).mono ?_
  rintro e w6 ⟨gi1, rfl, hgi1, Ri1, hb⟩
  have Pi1 := Ri1.runs hp1
  have Wi1 : OwnRs w6 w5.heap.size w6.heap.size gi1 n1 := OwnRs.ofRuns Ri1 hgi1 HL1.out hp1
  have q6 := hb.size
  replace H0 := H0.bel hb
  replace I6 := I6.bel hb
  replace W6 := W6.bel hb
  replace Wi0 := Wi0.bel hb
  replace Pi0 := Pi0.bel hb
  replace D := bel_next D hb
  clear hb
  clear Ri1
  go_wp2_with fail
  refine (implUsed_any _ n0 _ l0 _ n1 _ l1 _ Pi0 HL0.out hs0 Pi1 HL1.out hp1).mono ?_
  rw [HX.out, HK.out]
  rintro e w7 ⟨A9, c9, rfl, O9, hb⟩
  obtain ⟨I9, -, W9, U9⟩ := own_gives O9
  clear O9
  have q7 := hb.size
  replace H0 := H0.bel hb
  replace I6 := I6.bel hb
  replace W6 := W6.bel hb
  replace Wi0 := Wi0.bel hb
  replace Pi0 := Pi0.bel hb
  replace Wi1 := Wi1.bel hb
  replace Pi1 := Pi1.bel hb
  replace D := bel_next D hb
  clear hb
  have hr : xs.length ≤ 1048576 := by rw [← HX.out]; exact usedR_len HL0.out hs0
  go_wp2_with fail
  refine (eqInt64S_any A9 A6 xs.length c9 c6 xs _ I9 I6 rfl hr).mono ?_
  rintro e w8 ⟨rfl, hb⟩
  have q8 := hb.size
  replace H0 := H0.bel hb
  replace I6 := I6.bel hb
  replace W6 := W6.bel hb
  replace Wi0 := Wi0.bel hb
  replace Pi0 := Pi0.bel hb
  replace Wi1 := Wi1.bel hb
  replace Pi1 := Pi1.bel hb
  replace I9 := I9.bel hb
  replace W9 := W9.bel hb
  replace D := bel_next D hb
  clear hb
  go_wp2_with fail
  refine (toInt64S_any A0 n0 c0 l0 _ H0 HL0.out hs0).mono ?_
  rintro e w9 ⟨ge0, rfl, hge0, Re0, hb⟩
  have Pe0 := IntsAt.ofBlk Re0.out
  have q9 := hb.size
  replace H0 := H0.bel hb
  replace I6 := I6.bel hb
  replace W6 := W6.bel hb
  replace Wi0 := Wi0.bel hb
  replace Pi0 := Pi0.bel hb
  replace Wi1 := Wi1.bel hb
  replace Pi1 := Pi1.bel hb
  replace I9 := I9.bel hb
  replace W9 := W9.bel hb
  replace D := bel_next D hb
  clear hb
  clear Re0 hge0
  go_wp2_with fail
  refine (eqInt64S_any _ _ n0 n0 n0 l0 _ Pi0 Pe0 HL0.out hs0).mono ?_
  rintro e w10 ⟨rfl, hb⟩
  have q10 := hb.size
  replace H0 := H0.bel hb
  replace I6 := I6.bel hb
  replace W6 := W6.bel hb
  replace Wi0 := Wi0.bel hb
  replace Pi0 := Pi0.bel hb
  replace Wi1 := Wi1.bel hb
  replace Pi1 := Pi1.bel hb
  replace I9 := I9.bel hb
  replace W9 := W9.bel hb
  replace Pe0 := Pe0.bel hb
  replace D := bel_next D hb
  clear hb
  clear Pe0
  go_wp2_with fail
  refine (toRunS_any A1 n1 c1 l1 _ (H1.bel D) HL1.out hp1).mono ?_
  rintro e w11 ⟨ge1, rfl, hge1, Re1, hb⟩
  have Pe1 := Re1.runs hp1
  have q11 := hb.size
  replace H0 := H0.bel hb
  replace I6 := I6.bel hb
  replace W6 := W6.bel hb
  replace Wi0 := Wi0.bel hb
  replace Pi0 := Pi0.bel hb
  replace Wi1 := Wi1.bel hb
  replace Pi1 := Pi1.bel hb
  replace I9 := I9.bel hb
  replace W9 := W9.bel hb
  replace D := bel_next D hb
  clear hb
  clear Re1 hge1
  go_wp2_with fail
  refine (eqRunS_any _ _ n1 n1 n1 l1 _ Pi1 Pe1 HL1.out hp1).mono ?_
  rintro e w12 ⟨rfl, hb⟩
  have q12 := hb.size
  replace H0 := H0.bel hb
  replace I6 := I6.bel hb
  replace W6 := W6.bel hb
  replace Wi0 := Wi0.bel hb
  replace Pi0 := Pi0.bel hb
  replace Wi1 := Wi1.bel hb
  replace Pi1 := Pi1.bel hb
  replace I9 := I9.bel hb
  replace W9 := W9.bel hb
  replace Pe1 := Pe1.bel hb
  replace D := bel_next D hb
  clear hb
  clear Pe1
  clear Pi0
  clear Pi1
  go_wp2_with fail
  refine (markInt64S_any _ n0 n0 (1) _ Wi0 (by omega) (by omega) (by omega)).mono ?_
  rintro e w13 ⟨rfl, hm0, hb⟩
  have hbut := hb
  have q13 := hbut.size
  clear hb hm0
  replace H0 := H0.but hbut (by intro h0 p q hp hq; have yp := V0 h0 p hp; cases hq; (try simp only); omega)
  replace I6 := I6.but hbut (by intro h0 p q hp hq; have yp := U6 p hp; cases hq; (try simp only); omega)
  replace W6 := W6.but hbut (by intro h0 p q hp hq; have yp := U6 p hp; cases hq; (try simp only); omega)
  replace Wi1 := Wi1.but hbut (by intro q hq; cases hq; (try simp only); omega)
  replace I9 := I9.but hbut (by intro h0 p q hp hq; have yp := U9 p hp; cases hq; (try simp only); omega)
  replace W9 := W9.but hbut (by intro h0 p q hp hq; have yp := U9 p hp; cases hq; (try simp only); omega)
  replace D := hbut.below D (by intro q hq; cases hq; (try simp only); omega)
  clear hbut
  clear Wi0
  go_wp2_with fail
  refine (markRunS_any gi1 n1 n1 w5.heap.size w6.heap.size (1 + (n0 : Nat)) _ Wi1 (by omega) (by omega) (by omega)).mono ?_
  rintro e w14 ⟨zm1, rfl, hzm1, hb⟩
  have q14 := hb.size
  replace H0 := H0.butR hb (by intro h0 p hp; have yp := V0 h0 p hp; (try simp only); omega)
  replace I6 := I6.butR hb (by intro h0 p hp; have yp := U6 p hp; (try simp only); omega)
  replace W6 := W6.butR hb (by intro h0 p hp; have yp := U6 p hp; (try simp only); omega)
  replace I9 := I9.butR hb (by intro h0 p hp; have yp := U9 p hp; (try simp only); omega)
  replace W9 := W9.butR hb (by intro h0 p hp; have yp := U9 p hp; (try simp only); omega)
  replace D := hb.below D (by omega)
  clear hb
  clear Wi1
  go_wp2_with fail
  refine (eqInt64S_any A9 A6 xs.length c9 c6 xs _ I9 I6 rfl hr).mono ?_
  rintro e w15 ⟨rfl, hb⟩
  have q15 := hb.size
  replace H0 := H0.bel hb
  replace I6 := I6.bel hb
  replace W6 := W6.bel hb
  replace I9 := I9.bel hb
  replace W9 := W9.bel hb
  replace D := bel_next D hb
  clear hb
  go_wp2_with fail
  refine (markInt64S_any A9 xs.length c9 1 _ W9 (by omega) (by omega) (by omega)).mono ?_
  rintro e w16 ⟨rfl, M9, hb⟩
  have hbut := hb
  have q16 := hbut.size
  clear hb
  replace H0 := H0.but hbut (by intro h0 p q hp hq; have yp := V0 h0 p hp; have yq := U9 q hq; (try simp only); omega)
  replace I6 := I6.but hbut (by intro h0 p q hp hq; have yp := U6 p hp; have yq := U9 q hq; (try simp only); omega)
  replace W6 := W6.but hbut (by intro h0 p q hp hq; have yp := U6 p hp; have yq := U9 q hq; (try simp only); omega)
  replace D := hbut.below D (by intro q hq; have yq := U9 q hq; (try simp only); omega)
  clear hbut
  clear I9 W9
  go_wp2_with fail
  refine (heldInt64S_any A9 xs.length c9 1 _ M9 (by omega) (by omega) (by omega)).mono ?_
  rintro e w17 ⟨rfl, hb⟩
  have q17 := hb.size
  replace H0 := H0.bel hb
  replace I6 := I6.bel hb
  replace W6 := W6.bel hb
  replace M9 := M9.bel hb
  replace D := bel_next D hb
  clear hb
  go_wp2_with fail
  refine (toInt64S_any A0 n0 c0 l0 _ H0 HL0.out hs0).mono ?_
  rintro e w18 ⟨gj0, rfl, hgj0, Rj0, hb⟩
  have Pj0 := IntsAt.ofBlk Rj0.out
  have q18 := hb.size
  replace H0 := H0.bel hb
  replace I6 := I6.bel hb
  replace W6 := W6.bel hb
  replace M9 := M9.bel hb
  replace D := bel_next D hb
  clear hb
  clear Rj0 hgj0
  go_wp2_with fail
  refine (toRunS_any A1 n1 c1 l1 _ (H1.bel D) HL1.out hp1).mono ?_
  rintro e w19 ⟨gj1, rfl, hgj1, Rj1, hb⟩
  have Pj1 := Rj1.runs hp1
  have q19 := hb.size
  replace H0 := H0.bel hb
  replace I6 := I6.bel hb
  replace W6 := W6.bel hb
  replace M9 := M9.bel hb
  replace Pj0 := Pj0.bel hb
  replace D := bel_next D hb
  clear hb
  clear Rj1 hgj1
  go_wp2_with fail
  refine (implUsed_any _ n0 _ l0 _ n1 _ l1 _ Pj0 HL0.out hs0 Pj1 HL1.out hp1).mono ?_
  rw [HX.out, HK.out]
  rintro e w20 ⟨A4, c4, rfl, O4, hb⟩
  obtain ⟨I4, -, W4, U4⟩ := own_gives O4
  clear O4
  have q20 := hb.size
  replace H0 := H0.bel hb
  replace I6 := I6.bel hb
  replace W6 := W6.bel hb
  replace M9 := M9.bel hb
  replace Pj0 := Pj0.bel hb
  replace Pj1 := Pj1.bel hb
  replace D := bel_next D hb
  clear hb
  go_wp2_with fail
  refine (eqInt64S_any A4 A6 xs.length c4 c6 xs _ I4 I6 rfl hr).mono ?_
  rintro e w21 ⟨rfl, hb⟩
  have q21 := hb.size
  replace H0 := H0.bel hb
  replace I6 := I6.bel hb
  replace W6 := W6.bel hb
  replace M9 := M9.bel hb
  replace Pj0 := Pj0.bel hb
  replace Pj1 := Pj1.bel hb
  replace I4 := I4.bel hb
  replace W4 := W4.bel hb
  replace D := bel_next D hb
  clear hb
  go_wp2_with fail
  refine (heldInt64S_any A9 xs.length c9 1 _ M9 (by omega) (by omega) (by omega)).mono ?_
  rintro e w22 ⟨rfl, hb⟩
  have q22 := hb.size
  replace H0 := H0.bel hb
  replace I6 := I6.bel hb
  replace W6 := W6.bel hb
  replace M9 := M9.bel hb
  replace Pj0 := Pj0.bel hb
  replace Pj1 := Pj1.bel hb
  replace I4 := I4.bel hb
  replace W4 := W4.bel hb
  replace D := bel_next D hb
  clear hb
  go_wp2_with fail
  go_ret
  exact ⟨rfl, D⟩

end Go.Proofs.Ytlebkjkiikehhaa
