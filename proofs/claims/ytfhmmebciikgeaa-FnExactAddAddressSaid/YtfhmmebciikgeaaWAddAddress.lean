/-
  THE WALK of the law on AddAddress (printed by tools/gen_law.py).
-/
import Derived.Test.YtfhmmebciikgeaaAdd2
import Derived.Test.YtfhmmebciikgeaaMarkI
import Derived.Test.YtfhmmebciikgeaaAid
import Derived.Test.YtfhmmebciikgeaaStr
namespace Go.Proofs.Ytfhmmebciikgeaa
open Go.RowKit

set_option maxHeartbeats 4000000 in
theorem walk_FnExactAddAddress {w : World} (a0 : Int) (_l0 : -9223372036854775808 ≤ a0) (_u0 : a0 ≤ 9223372036854775807) (A1 : Option Addr) (n1 : Nat) (c1 : Nat) (l1 : List ByteArray) (F1 : StrsArg w A1 n1 l1) (a2 : Int) (_l2 : -9223372036854775808 ≤ a2) (_u2 : a2 ≤ 9223372036854775807) : Calls Try.prog 12 #[.int .i64 a0, .slice A1 n1 c1, .int .i64 a2] w (Ret w (.bool true)) := by
  clear _l0 _u0
  clear _l2 _u2
  obtain ⟨hl1, ⟨H1, zz1⟩, hn1⟩ := F1
  have HL1 := Lib.hid hl1.symm
  clear hl1
  obtain ⟨xs, HX⟩ : ∃ xs, Hid ((addR a0 l1 a2).1 = xs) := ⟨_, rfl⟩
  obtain ⟨rk, HK⟩ : ∃ rk, Hid ((addR a0 l1 a2).2 = rk) := ⟨_, rfl⟩
  have V1 := H1.src
  go_enter Try.func12, Try.ntmps12
  go_wp2_with fail
  refine (szStringS_any A1 n1 c1 l1 1048576 _ (by omega) (by omega) hn1 H1 HL1.out zz1).mono ?_
  rintro e w1 ⟨rfl, hb⟩
  obtain ⟨z1, Z1⟩ : ∃ z, Hid (szStrs 1048576 l1 = z) := ⟨_, rfl⟩
  rw [Z1.out]
  have B1 := szStrs_ok (by omega) (by omega) Z1.out
  have q1 := hb.size
  replace H1 := H1.bel hb
  have D := hb
  clear hb
  clear Z1
  rcases Int.lt_or_le z1 0 with hz1 | hz1
  · go_wp2_with fail
    go_ret
    exact ⟨rfl, D⟩
  obtain ⟨hy1, hs1, hp1⟩ := B1 hz1
  replace hs1 : n1 ≤ 1048576 := by rw [HL1.out]; exact hs1
  clear B1
  go_wp2_with fail
  refine (toStringS_any A1 n1 c1 l1 _ H1 HL1.out hp1).mono ?_
  rintro e w2 ⟨gs1, rfl, hgs1, Rs1, hb⟩
  have Ps1 := StrsAt.ofBlk Rs1.out
  have q2 := hb.size
  replace H1 := H1.bel hb
  replace D := bel_next D hb
  clear hb
  clear Rs1 hgs1
  go_wp2_with fail
  refine (specAdd_any a0 _ n1 _ l1 a2 _ Ps1 HL1.out hp1).mono ?_
  rw [HX.out, HK.out]
  rintro e w3 ⟨A6, c6, rfl, O6, hb⟩
  obtain ⟨I6, -, W6, U6⟩ := own_givesS O6
  clear O6
  have q3 := hb.size
  replace H1 := H1.bel hb
  replace Ps1 := Ps1.bel hb
  replace D := bel_next D hb
  clear hb
  clear Ps1
  go_wp2_with fail
  refine (toStringS_any A1 n1 c1 l1 _ H1 HL1.out hp1).mono ?_
  rintro e w4 ⟨gi1, rfl, hgi1, Ri1, hb⟩
  have Pi1 := StrsAt.ofBlk Ri1.out
  have Wi1 := Own.ofStrs Ri1 HL1.out
  have vi1 := Ri1.out.lt
  have q4 := hb.size
  replace H1 := H1.bel hb
  replace I6 := I6.bel hb
  replace W6 := W6.bel hb
  replace D := bel_next D hb
  clear hb
  clear Ri1
  go_wp2_with fail
  refine (implAdd_any a0 _ n1 _ l1 a2 _ Pi1 HL1.out hp1).mono ?_
  rw [HX.out, HK.out]
  rintro e w5 ⟨A9, c9, rfl, O9, hb⟩
  obtain ⟨I9, -, W9, U9⟩ := own_givesS O9
  clear O9
  have q5 := hb.size
  replace H1 := H1.bel hb
  replace I6 := I6.bel hb
  replace W6 := W6.bel hb
  replace Wi1 := Wi1.bel hb
  replace Pi1 := Pi1.bel hb
  replace D := bel_next D hb
  clear hb
  have hr : SmallS xs := by rw [← HX.out]; exact addR_small hp1
  have hrl : xs.length ≤ 1048576 := hr.1
  go_wp2_with fail
  refine (eqStringS_any A9 A6 xs.length c9 c6 xs _ I9 I6 rfl hr).mono ?_
  rintro e w6 ⟨rfl, hb⟩
  have q6 := hb.size
  replace H1 := H1.bel hb
  replace I6 := I6.bel hb
  replace W6 := W6.bel hb
  replace Wi1 := Wi1.bel hb
  replace Pi1 := Pi1.bel hb
  replace I9 := I9.bel hb
  replace W9 := W9.bel hb
  replace D := bel_next D hb
  clear hb
  go_wp2_with fail
  refine (toStringS_any A1 n1 c1 l1 _ H1 HL1.out hp1).mono ?_
  rintro e w7 ⟨ge1, rfl, hge1, Re1, hb⟩
  have Pe1 := StrsAt.ofBlk Re1.out
  have q7 := hb.size
  replace H1 := H1.bel hb
  replace I6 := I6.bel hb
  replace W6 := W6.bel hb
  replace Wi1 := Wi1.bel hb
  replace Pi1 := Pi1.bel hb
  replace I9 := I9.bel hb
  replace W9 := W9.bel hb
  replace D := bel_next D hb
  clear hb
  clear Re1 hge1
  go_wp2_with fail
  refine (eqStringS_any _ _ n1 n1 n1 l1 _ Pi1 Pe1 HL1.out hp1).mono ?_
  rintro e w8 ⟨rfl, hb⟩
  have q8 := hb.size
  replace H1 := H1.bel hb
  replace I6 := I6.bel hb
  replace W6 := W6.bel hb
  replace Wi1 := Wi1.bel hb
  replace Pi1 := Pi1.bel hb
  replace I9 := I9.bel hb
  replace W9 := W9.bel hb
  replace Pe1 := Pe1.bel hb
  replace D := bel_next D hb
  clear hb
  clear Pe1
  clear Pi1
  go_wp2_with fail
  refine (markStringS1_any _ n1 n1 _ Wi1 (by omega)).mono ?_
  rintro e w9 ⟨rfl, hm1, hb⟩
  have hbut := hb
  have q9 := hbut.size
  clear hb hm1
  replace H1 := H1.but hbut (by intro h0 p q hp hq; have yp := V1 h0 p hp; cases hq; (try simp only); omega)
  replace I6 := I6.but hbut (by intro h0 p q hp hq; have yp := U6 p hp; cases hq; (try simp only); omega)
  replace W6 := W6.but hbut (by intro h0 p q hp hq; have yp := U6 p hp; cases hq; (try simp only); omega)
  replace I9 := I9.but hbut (by intro h0 p q hp hq; have yp := U9 p hp; cases hq; (try simp only); omega)
  replace W9 := W9.but hbut (by intro h0 p q hp hq; have yp := U9 p hp; cases hq; (try simp only); omega)
  replace D := hbut.below D (by intro q hq; cases hq; (try simp only); omega)
  clear hbut
  clear Wi1
  go_wp2_with fail
  refine (eqStringS_any A9 A6 xs.length c9 c6 xs _ I9 I6 rfl hr).mono ?_
  rintro e w10 ⟨rfl, hb⟩
  have q10 := hb.size
  replace H1 := H1.bel hb
  replace I6 := I6.bel hb
  replace W6 := W6.bel hb
  replace I9 := I9.bel hb
  replace W9 := W9.bel hb
  replace D := bel_next D hb
  clear hb
  go_wp2_with fail
  refine (markStringS1_any A9 xs.length c9 _ W9 (by omega)).mono ?_
  rintro e w11 ⟨rfl, M9, hb⟩
  have hbut := hb
  have q11 := hbut.size
  clear hb
  replace H1 := H1.but hbut (by intro h0 p q hp hq; have yp := V1 h0 p hp; have yq := U9 q hq; (try simp only); omega)
  replace I6 := I6.but hbut (by intro h0 p q hp hq; have yp := U6 p hp; have yq := U9 q hq; (try simp only); omega)
  replace W6 := W6.but hbut (by intro h0 p q hp hq; have yp := U6 p hp; have yq := U9 q hq; (try simp only); omega)
  replace D := hbut.below D (by intro q hq; have yq := U9 q hq; (try simp only); omega)
  clear hbut
  clear I9 W9
  go_wp2_with fail
  refine (heldStringS1_any A9 xs.length c9 _ M9 (by omega)).mono ?_
  rintro e w12 ⟨rfl, hb⟩
  have q12 := hb.size
  replace H1 := H1.bel hb
  replace I6 := I6.bel hb
  replace W6 := W6.bel hb
  replace M9 := M9.bel hb
  replace D := bel_next D hb
  clear hb
  go_wp2_with fail
  refine (toStringS_any A1 n1 c1 l1 _ H1 HL1.out hp1).mono ?_
  rintro e w13 ⟨gj1, rfl, hgj1, Rj1, hb⟩
  have Pj1 := StrsAt.ofBlk Rj1.out
  have q13 := hb.size
  replace H1 := H1.bel hb
  replace I6 := I6.bel hb
  replace W6 := W6.bel hb
  replace M9 := M9.bel hb
  replace D := bel_next D hb
  clear hb
  clear Rj1 hgj1
  go_wp2_with fail
  refine (implAdd_any a0 _ n1 _ l1 a2 _ Pj1 HL1.out hp1).mono ?_
  rw [HX.out, HK.out]
  rintro e w14 ⟨A4, c4, rfl, O4, hb⟩
  obtain ⟨I4, -, W4, U4⟩ := own_givesS O4
  clear O4
  have q14 := hb.size
  replace H1 := H1.bel hb
  replace I6 := I6.bel hb
  replace W6 := W6.bel hb
  replace M9 := M9.bel hb
  replace Pj1 := Pj1.bel hb
  replace D := bel_next D hb
  clear hb
  go_wp2_with fail
  refine (eqStringS_any A4 A6 xs.length c4 c6 xs _ I4 I6 rfl hr).mono ?_
  rintro e w15 ⟨rfl, hb⟩
  have q15 := hb.size
  replace H1 := H1.bel hb
  replace I6 := I6.bel hb
  replace W6 := W6.bel hb
  replace M9 := M9.bel hb
  replace Pj1 := Pj1.bel hb
  replace I4 := I4.bel hb
  replace W4 := W4.bel hb
  replace D := bel_next D hb
  clear hb
  go_wp2_with fail
  refine (heldStringS1_any A9 xs.length c9 _ M9 (by omega)).mono ?_
  rintro e w16 ⟨rfl, hb⟩
  have q16 := hb.size
  replace H1 := H1.bel hb
  replace I6 := I6.bel hb
  replace W6 := W6.bel hb
  replace M9 := M9.bel hb
  replace Pj1 := Pj1.bel hb
  replace I4 := I4.bel hb
  replace W4 := W4.bel hb
  replace D := bel_next D hb
  clear hb
  go_wp2_with fail
  go_ret
  exact ⟨rfl, D⟩

end Go.Proofs.Ytfhmmebciikgeaa
