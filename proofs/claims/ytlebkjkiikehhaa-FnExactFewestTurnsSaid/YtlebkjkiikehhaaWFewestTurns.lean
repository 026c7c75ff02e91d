/-
  THE WALK of the law on FewestTurns (printed by tools/gen_law.py).
-/
import Derived.Test.YtlebkjkiikehhaaFew4
import Derived.Test.YtlebkjkiikehhaaMark3
import Derived.Test.YtlebkjkiikehhaaMarkI
import Derived.Test.YtlebkjkiikehhaaIntS
import Derived.Test.YtlebkjkiikehhaaAid
import Derived.Test.YtlebkjkiikehhaaFrameNet
namespace Go.Proofs.Ytlebkjkiikehhaa
open Go.RowKit

set_option maxHeartbeats 4000000 in
theorem walk_FnExactFewestTurns {w : World} (S0 : Int) (A0 : Option Addr) (n0 : Nat) (c0 : Nat) (l0 : List Tb) (F0 : NetArg w A0 n0 l0) (A1 : Option Addr) (n1 : Nat) (c1 : Nat) (l1 : List Int) (F1 : IntsArg w A1 n1 l1) (a2 : Int) (_l2 : -9223372036854775808 ≤ a2) (_u2 : a2 ≤ 9223372036854775807) (a3 : Int) (_l3 : -9223372036854775808 ≤ a3) (_u3 : a3 ≤ 9223372036854775807) : Calls Try.prog 8 #[.agg #[.int .i64 S0, .slice A0 n0 c0], .slice A1 n1 c1, .int .i64 a2, .int .i64 a3] w (Ret w (.bool true)) := by
  clear _l2 _u2
  clear _l3 _u3
  obtain ⟨hl0, H0, hn0⟩ := F0
  have HL0 := Lib.hid hl0.symm
  clear hl0
  obtain ⟨hl1, H1, hn1⟩ := F1
  have HL1 := Lib.hid hl1.symm
  clear hl1
  obtain ⟨xs, HX⟩ : ∃ xs, Hid ((Cst.fewR S0 l0 l1 a2 a3).1 = xs) := ⟨_, rfl⟩
  obtain ⟨rk, HK⟩ : ∃ rk, Hid ((Cst.fewR S0 l0 l1 a2 a3).2 = rk) := ⟨_, rfl⟩
  have V0 := H0.src
  have V1 := H1.src
  rcases Nat.lt_or_ge 1048576 n1 with hs1 | hs1
  · go_enter Try.func8, Try.ntmps8
    go_wp2_with fail
    go_ret
    exact ⟨rfl, by first | exact Below.refl _ _ | go_grown⟩
  go_enter Try.func8, Try.ntmps8
  go_wp2_with fail
  refine (szNet_any S0 A0 n0 c0 1048576 _ (by omega) (by omega) hn0).mono ?_
  rintro e w1 ⟨rfl, hb⟩
  obtain ⟨z0, Z0⟩ : ∃ z, Hid (szF 1048576 n0 = z) := ⟨_, rfl⟩
  rw [Z0.out]
  have B0 := szF_ok (by omega) (by omega) Z0.out
  have N0 : Hid (Blk w1 (w.heap.size) 24 #[.int .i64 S0, .slice A0 n0 c0]) := bel_blk (Blk.new _ _ _) hb
  replace hb : Below w.heap.size w w1 := Below.trans (by go_grown) (hb.mono (by simp only [World.size_alloc]; omega))
  have bN0 := N0.out.lt
  have q1 := hb.size
  replace H0 := H0.bel hb
  replace H1 := H1.bel hb
  have D := hb
  clear hb
  clear Z0
  rcases Int.lt_or_le z0 0 with hz0 | hz0
  · go_wp2_with fail
    go_ret
    exact ⟨rfl, D⟩
  obtain ⟨hy0, hs0⟩ := B0 hz0
  clear B0
  obtain ⟨N0_0, N0_1, -⟩ := N0.out.c2
  have N0_s := N0.out.lt
  go_wp2_with fail
  refine (toNet_any S0 A0 n0 c0 l0 _ H0 HL0.out hs0).mono ?_
  rintro e w2 ⟨gs0, rfl, hgs0, Rs0, hb⟩
  have Ps0 := Rs0.tubes
  clear N0_0 N0_1 N0_s
  have q2 := hb.size
  replace H0 := H0.bel hb
  replace H1 := H1.bel hb
  replace N0 := hid_blk N0 hb
  replace D := bel_next D hb
  clear hb
  clear Rs0 hgs0
  go_wp2_with fail
  refine (toInt64S_any A1 n1 c1 l1 _ H1 HL1.out hs1).mono ?_
  rintro e w3 ⟨gs1, rfl, hgs1, Rs1, hb⟩
  have Ps1 := IntsAt.ofBlk Rs1.out
  have q3 := hb.size
  replace H0 := H0.bel hb
  replace H1 := H1.bel hb
  replace N0 := hid_blk N0 hb
  replace Ps0 := Ps0.bel hb
  replace D := bel_next D hb
  clear hb
  clear Rs1 hgs1
  go_wp2_with fail
  refine (Cst.specFew_any S0 _ n0 _ l0 _ n1 _ l1 a2 a3 _ Ps0 HL0.out hs0 Ps1 HL1.out hs1).mono ?_
  rw [HX.out, HK.out]
  rintro e w4 ⟨A6, c6, rfl, O6, hb⟩
  obtain ⟨I6, -, W6, U6⟩ := own_gives O6
  clear O6
  have q4 := hb.size
  replace H0 := H0.bel hb
  replace H1 := H1.bel hb
  replace N0 := hid_blk N0 hb
  replace Ps0 := Ps0.bel hb
  replace Ps1 := Ps1.bel hb
  replace D := bel_next D hb
  clear hb
  clear Ps0
  clear Ps1
  obtain ⟨N0_0, N0_1, -⟩ := N0.out.c2
  have N0_s := N0.out.lt
  go_wp2_with fail
  refine (toNet_any S0 A0 n0 c0 l0 _ H0 HL0.out hs0).mono ?_
  rintro e w5 ⟨gi0, rfl, hgi0, Ri0, hb⟩
  have Pi0 := Ri0.tubes
  have Wi0 := Own.ofTB Ri0 HL0.out
  have vi0 := TB.lt Ri0
  clear N0_0 N0_1 N0_s
  have q5 := hb.size
  replace H0 := H0.bel hb
  replace H1 := H1.bel hb
  replace N0 := hid_blk N0 hb
  replace I6 := I6.bel hb
  replace W6 := W6.bel hb
  replace D := bel_next D hb
  clear hb
  clear Ri0
  go_wp2_with fail
  refine (toInt64S_any A1 n1 c1 l1 _ (H1.alloc _) HL1.out hs1).mono ?_
  rintro e w6 ⟨gi1, rfl, hgi1, Ri1, hb⟩
  have Pi1 := IntsAt.ofBlk Ri1.out
  have Wi1 := Own.ofInts Ri1 HL1.out
  have vi1 := Ri1.out.lt
  simp only [World.size_alloc] at hgi1
  have X0 : Hid (Blk w6 (w5.heap.size) 30 #[.int .i64 S0, .slice (some ⟨gi0, 0, none⟩) n0 n0]) := bel_blk (Blk.new _ _ _) hb
  replace hb : Below w5.heap.size w5 w6 := Below.trans (by go_grown) (hb.mono (by simp only [World.size_alloc]; omega))
  have bX0 := X0.out.lt
  have q6 := hb.size
  replace H0 := H0.bel hb
  replace H1 := H1.bel hb
  replace N0 := hid_blk N0 hb
  replace I6 := I6.bel hb
  replace W6 := W6.bel hb
  replace Wi0 := Wi0.bel hb
  replace Pi0 := Pi0.bel hb
  replace D := bel_next D hb
  clear hb
  clear Ri1
  obtain ⟨X0_0, X0_1, -⟩ := X0.out.c2
  have X0_s := X0.out.lt
  go_wp2_with fail
  refine (Cst.implFew_any S0 _ n0 _ l0 _ n1 _ l1 a2 a3 _ Pi0 HL0.out hs0 Pi1 HL1.out hs1).mono ?_
  rw [HX.out, HK.out]
  rintro e w7 ⟨A9, c9, rfl, O9, hb⟩
  obtain ⟨I9, -, W9, U9⟩ := own_gives O9
  clear O9
  clear X0_0 X0_1 X0_s
  have q7 := hb.size
  replace H0 := H0.bel hb
  replace H1 := H1.bel hb
  replace N0 := hid_blk N0 hb
  replace I6 := I6.bel hb
  replace W6 := W6.bel hb
  replace Wi0 := Wi0.bel hb
  replace Pi0 := Pi0.bel hb
  replace X0 := hid_blk X0 hb
  replace Wi1 := Wi1.bel hb
  replace Pi1 := Pi1.bel hb
  replace D := bel_next D hb
  clear hb
  have hr : xs.length ≤ 1048576 := by rw [← HX.out]; exact Cst.fewR_len
  go_wp2_with fail
  refine (eqInt64S_any A9 A6 xs.length c9 c6 xs _ I9 I6 rfl hr).mono ?_
  rintro e w8 ⟨rfl, hb⟩
  have q8 := hb.size
  replace H0 := H0.bel hb
  replace H1 := H1.bel hb
  replace N0 := hid_blk N0 hb
  replace I6 := I6.bel hb
  replace W6 := W6.bel hb
  replace Wi0 := Wi0.bel hb
  replace Pi0 := Pi0.bel hb
  replace X0 := hid_blk X0 hb
  replace Wi1 := Wi1.bel hb
  replace Pi1 := Pi1.bel hb
  replace I9 := I9.bel hb
  replace W9 := W9.bel hb
  replace D := bel_next D hb
  clear hb
  go_wp2_with fail
  obtain ⟨N0_0, N0_1, -⟩ := N0.out.c2
  have N0_s := N0.out.lt
  obtain ⟨X0_0, X0_1, -⟩ := X0.out.c2
  have X0_s := X0.out.lt
  go_region_held3 (fun w' => w'.cell? ⟨w.heap.size, 0, none⟩ = some (.int .i64 S0) ∧ w'.cell? ⟨w.heap.size, 1, none⟩ = some (.slice A0 n0 c0) ∧ Hid (Blk w' (w.heap.size) 24 #[.int .i64 S0, .slice A0 n0 c0]) ∧ w'.cell? ⟨w5.heap.size, 0, none⟩ = some (.int .i64 S0) ∧ w'.cell? ⟨w5.heap.size, 1, none⟩ = some (.slice (some ⟨gi0, 0, none⟩) n0 n0) ∧ Hid (Blk w' (w5.heap.size) 30 #[.int .i64 S0, .slice (some ⟨gi0, 0, none⟩) n0 n0]) ∧ TubesAt w' A0 l0 ∧ IntsAt w' A1 l1 ∧ IntsAt w' A6 xs ∧ Own w' A6 xs.length ∧ Own w' (some ⟨gi0, 0, none⟩) (n0 * 3) ∧ TubesAt w' (some ⟨gi0, 0, none⟩) l0 ∧ Own w' (some ⟨gi1, 0, none⟩) (n1) ∧ IntsAt w' (some ⟨gi1, 0, none⟩) l1 ∧ IntsAt w' A9 xs ∧ Own w' A9 xs.length ∧ Below w.heap.size w w')
    (first
      | (refine ⟨N0_0, N0_1, hid_blk N0 (by go_grown), X0_0, X0_1, hid_blk X0 (by go_grown), H0.bel (by go_grown), H1.bel (by go_grown), I6.bel (by go_grown), W6.bel (by go_grown), Wi0.bel (by go_grown), Pi0.bel (by go_grown), Wi1.bel (by go_grown), Pi1.bel (by go_grown), I9.bel (by go_grown), W9.bel (by go_grown), ?_⟩; go_grown; done)
      | (have hS := ‹_ ∧ _ ∧ _ ∧ _ ∧ _ ∧ _ ∧ _ ∧ _ ∧ _ ∧ _ ∧ _ ∧ _ ∧ _ ∧ _ ∧ _ ∧ _ ∧ _›; exact ⟨bel_cell hbR hS.1, bel_cell hbR hS.2.1, hid_blk hS.2.2.1 hbR, bel_cell hbR hS.2.2.2.1, bel_cell hbR hS.2.2.2.2.1, hid_blk hS.2.2.2.2.2.1 hbR, TubesAt.bel hS.2.2.2.2.2.2.1 hbR, IntsAt.bel hS.2.2.2.2.2.2.2.1 hbR, IntsAt.bel hS.2.2.2.2.2.2.2.2.1 hbR, Own.bel hS.2.2.2.2.2.2.2.2.2.1 hbR, Own.bel hS.2.2.2.2.2.2.2.2.2.2.1 hbR, TubesAt.bel hS.2.2.2.2.2.2.2.2.2.2.2.1 hbR, Own.bel hS.2.2.2.2.2.2.2.2.2.2.2.2.1 hbR, IntsAt.bel hS.2.2.2.2.2.2.2.2.2.2.2.2.2.1 hbR, IntsAt.bel hS.2.2.2.2.2.2.2.2.2.2.2.2.2.2.1 hbR, Own.bel hS.2.2.2.2.2.2.2.2.2.2.2.2.2.2.2.1 hbR, bel_next hS.2.2.2.2.2.2.2.2.2.2.2.2.2.2.2.2 hbR⟩))
    (first
      | (go_at_call 11; (with_reducible refine (toNet_any S0 A0 n0 c0 l0 _ (by first | exact (‹_ ∧ _ ∧ _ ∧ _ ∧ _ ∧ _ ∧ _ ∧ _ ∧ _ ∧ _ ∧ _ ∧ _ ∧ _ ∧ _ ∧ _ ∧ _ ∧ _›).2.2.2.2.2.2.1 | exact H0.drew | exact H0) HL0.out hs0).mono ?_); rintro e w5 ⟨ge0, rfl, hge0, Re0, hbR⟩)
      | (go_at_call 14; (with_reducible refine (eqNet_any S0 _ _ n0 n0 n0 l0 _ (by first | exact (‹_ ∧ _ ∧ _ ∧ _ ∧ _ ∧ _ ∧ _ ∧ _ ∧ _ ∧ _ ∧ _ ∧ _ ∧ _ ∧ _ ∧ _ ∧ _ ∧ _›).2.2.2.2.2.2.2.2.2.2.2.1 | exact Pi0.drew | exact Pi0) (Re0.tubes) HL0.out hs0).mono ?_); rintro e w6 ⟨rfl, hbR⟩))
  clear N0 N0_0 N0_1 N0_s X0 X0_0 X0_1 X0_s H0 H1 I6 W6 Wi0 Pi0 Wi1 Pi1 I9 W9 D
  obtain ⟨-, -, N0, -, -, X0, H0, H1, I6, W6, Wi0, Pi0, Wi1, Pi1, I9, W9, D⟩ := ‹_ ∧ _ ∧ _ ∧ _ ∧ _ ∧ _ ∧ _ ∧ _ ∧ _ ∧ _ ∧ _ ∧ _ ∧ _ ∧ _ ∧ _ ∧ _ ∧ _›
  go_wp2_with fail
  refine (toInt64S_any A1 n1 c1 l1 _ H1 HL1.out hs1).mono ?_
  rintro e w9 ⟨ge1, rfl, hge1, Re1, hb⟩
  have Pe1 := IntsAt.ofBlk Re1.out
  have q9 := hb.size
  replace H0 := H0.bel hb
  replace H1 := H1.bel hb
  replace N0 := hid_blk N0 hb
  replace I6 := I6.bel hb
  replace W6 := W6.bel hb
  replace Wi0 := Wi0.bel hb
  replace Pi0 := Pi0.bel hb
  replace X0 := hid_blk X0 hb
  replace Wi1 := Wi1.bel hb
  replace Pi1 := Pi1.bel hb
  replace I9 := I9.bel hb
  replace W9 := W9.bel hb
  replace D := bel_next D hb
  clear hb
  clear Re1 hge1
  go_wp2_with fail
  refine (eqInt64S_any _ _ n1 n1 n1 l1 _ Pi1 Pe1 HL1.out hs1).mono ?_
  rintro e w10 ⟨rfl, hb⟩
  have q10 := hb.size
  replace H0 := H0.bel hb
  replace H1 := H1.bel hb
  replace N0 := hid_blk N0 hb
  replace I6 := I6.bel hb
  replace W6 := W6.bel hb
  replace Wi0 := Wi0.bel hb
  replace Pi0 := Pi0.bel hb
  replace X0 := hid_blk X0 hb
  replace Wi1 := Wi1.bel hb
  replace Pi1 := Pi1.bel hb
  replace I9 := I9.bel hb
  replace W9 := W9.bel hb
  replace Pe1 := Pe1.bel hb
  replace D := bel_next D hb
  clear hb
  clear Pe1
  clear Pi0
  clear Pi1
  obtain ⟨X0_0, X0_1, -⟩ := X0.out.c2
  have X0_s := X0.out.lt
  go_wp2_with fail
  refine (markNet_any S0 _ n0 n0 (1) _ Wi0 (by omega) (by omega) (by omega)).mono ?_
  rintro e w11 ⟨rfl, hm0, hb⟩
  have hbut := hb
  clear X0_0 X0_1 X0_s
  have q11 := hbut.size
  clear hb hm0
  replace H0 := H0.but hbut (by intro h0 p q hp hq; have yp := V0 h0 p hp; cases hq; (try simp only); omega)
  replace H1 := H1.but hbut (by intro h0 p q hp hq; have yp := V1 h0 p hp; cases hq; (try simp only); omega)
  replace N0 := Lib.hid (hbut.blk N0.out (by intro q hq; cases hq; (try simp only); omega))
  replace I6 := I6.but hbut (by intro h0 p q hp hq; have yp := U6 p hp; cases hq; (try simp only); omega)
  replace W6 := W6.but hbut (by intro h0 p q hp hq; have yp := U6 p hp; cases hq; (try simp only); omega)
  replace X0 := Lib.hid (hbut.blk X0.out (by intro q hq; cases hq; (try simp only); omega))
  replace Wi1 := Wi1.but hbut (by intro h0 p q hp hq; cases hp; cases hq; (try simp only); omega)
  replace I9 := I9.but hbut (by intro h0 p q hp hq; have yp := U9 p hp; cases hq; (try simp only); omega)
  replace W9 := W9.but hbut (by intro h0 p q hp hq; have yp := U9 p hp; cases hq; (try simp only); omega)
  replace D := hbut.below D (by intro q hq; cases hq; (try simp only); omega)
  clear hbut
  clear Wi0
  go_wp2_with fail
  refine (markInt64S_any _ n1 n1 (1 + (n0 * 3 : Nat)) _ Wi1 (by omega) (by omega) (by omega)).mono ?_
  rintro e w12 ⟨rfl, hm1, hb⟩
  have hbut := hb
  have q12 := hbut.size
  clear hb hm1
  replace H0 := H0.but hbut (by intro h0 p q hp hq; have yp := V0 h0 p hp; cases hq; (try simp only); omega)
  replace H1 := H1.but hbut (by intro h0 p q hp hq; have yp := V1 h0 p hp; cases hq; (try simp only); omega)
  replace N0 := Lib.hid (hbut.blk N0.out (by intro q hq; cases hq; (try simp only); omega))
  replace I6 := I6.but hbut (by intro h0 p q hp hq; have yp := U6 p hp; cases hq; (try simp only); omega)
  replace W6 := W6.but hbut (by intro h0 p q hp hq; have yp := U6 p hp; cases hq; (try simp only); omega)
  replace X0 := Lib.hid (hbut.blk X0.out (by intro q hq; cases hq; (try simp only); omega))
  replace I9 := I9.but hbut (by intro h0 p q hp hq; have yp := U9 p hp; cases hq; (try simp only); omega)
  replace W9 := W9.but hbut (by intro h0 p q hp hq; have yp := U9 p hp; cases hq; (try simp only); omega)
  replace D := hbut.below D (by intro q hq; cases hq; (try simp only); omega)
  clear hbut
  clear Wi1
  go_wp2_with fail
  refine (eqInt64S_any A9 A6 xs.length c9 c6 xs _ I9 I6 rfl hr).mono ?_
  rintro e w13 ⟨rfl, hb⟩
  have q13 := hb.size
  replace H0 := H0.bel hb
  replace H1 := H1.bel hb
  replace N0 := hid_blk N0 hb
  replace I6 := I6.bel hb
  replace W6 := W6.bel hb
  replace X0 := hid_blk X0 hb
  replace I9 := I9.bel hb
  replace W9 := W9.bel hb
  replace D := bel_next D hb
  clear hb
  go_wp2_with fail
  refine (markInt64S_any A9 xs.length c9 1 _ W9 (by omega) (by omega) (by omega)).mono ?_
  rintro e w14 ⟨rfl, M9, hb⟩
  have hbut := hb
  have q14 := hbut.size
  clear hb
  replace H0 := H0.but hbut (by intro h0 p q hp hq; have yp := V0 h0 p hp; have yq := U9 q hq; (try simp only); omega)
  replace H1 := H1.but hbut (by intro h0 p q hp hq; have yp := V1 h0 p hp; have yq := U9 q hq; (try simp only); omega)
  replace N0 := Lib.hid (hbut.blk N0.out (by intro q hq; have yq := U9 q hq; (try simp only); omega))
  replace I6 := I6.but hbut (by intro h0 p q hp hq; have yp := U6 p hp; have yq := U9 q hq; (try simp only); omega)
  replace W6 := W6.but hbut (by intro h0 p q hp hq; have yp := U6 p hp; have yq := U9 q hq; (try simp only); omega)
  replace X0 := Lib.hid (hbut.blk X0.out (by intro q hq; have yq := U9 q hq; (try simp only); omega))
  replace D := hbut.below D (by intro q hq; have yq := U9 q hq; (try simp only); omega)
  clear hbut
  clear I9 W9
  go_wp2_with fail
  refine (heldInt64S_any A9 xs.length c9 1 _ M9 (by omega) (by omega) (by omega)).mono ?_
  rintro e w15 ⟨rfl, hb⟩
  have q15 := hb.size
  replace H0 := H0.bel hb
  replace H1 := H1.bel hb
  replace N0 := hid_blk N0 hb
  replace I6 := I6.bel hb
  replace W6 := W6.bel hb
  replace X0 := hid_blk X0 hb
  replace M9 := M9.bel hb
  replace D := bel_next D hb
  clear hb
  obtain ⟨N0_0, N0_1, -⟩ := N0.out.c2
  have N0_s := N0.out.lt
  go_wp2_with fail
  refine (toNet_any S0 A0 n0 c0 l0 _ H0 HL0.out hs0).mono ?_
  rintro e w16 ⟨gj0, rfl, hgj0, Rj0, hb⟩
  have Pj0 := Rj0.tubes
  clear N0_0 N0_1 N0_s
  have q16 := hb.size
  replace H0 := H0.bel hb
  replace H1 := H1.bel hb
  replace N0 := hid_blk N0 hb
  replace I6 := I6.bel hb
  replace W6 := W6.bel hb
  replace X0 := hid_blk X0 hb
  replace M9 := M9.bel hb
  replace D := bel_next D hb
  clear hb
  clear Rj0 hgj0
  go_wp2_with fail
  refine (toInt64S_any A1 n1 c1 l1 _ H1 HL1.out hs1).mono ?_
  rintro e w17 ⟨gj1, rfl, hgj1, Rj1, hb⟩
  have Pj1 := IntsAt.ofBlk Rj1.out
  have q17 := hb.size
  replace H0 := H0.bel hb
  replace H1 := H1.bel hb
  replace N0 := hid_blk N0 hb
  replace I6 := I6.bel hb
  replace W6 := W6.bel hb
  replace X0 := hid_blk X0 hb
  replace M9 := M9.bel hb
  replace Pj0 := Pj0.bel hb
  replace D := bel_next D hb
  clear hb
  clear Rj1 hgj1
  go_wp2_with fail
  refine (Cst.implFew_any S0 _ n0 _ l0 _ n1 _ l1 a2 a3 _ Pj0 HL0.out hs0 Pj1 HL1.out hs1).mono ?_
  rw [HX.out, HK.out]
  rintro e w18 ⟨A4, c4, rfl, O4, hb⟩
  obtain ⟨I4, -, W4, U4⟩ := own_gives O4
  clear O4
  have q18 := hb.size
  replace H0 := H0.bel hb
  replace H1 := H1.bel hb
  replace N0 := hid_blk N0 hb
  replace I6 := I6.bel hb
  replace W6 := W6.bel hb
  replace X0 := hid_blk X0 hb
  replace M9 := M9.bel hb
  replace Pj0 := Pj0.bel hb
  replace Pj1 := Pj1.bel hb
  replace D := bel_next D hb
  clear hb
  go_wp2_with fail
  refine (eqInt64S_any A4 A6 xs.length c4 c6 xs _ I4 I6 rfl hr).mono ?_
  rintro e w19 ⟨rfl, hb⟩
  have q19 := hb.size
  replace H0 := H0.bel hb
  replace H1 := H1.bel hb
  replace N0 := hid_blk N0 hb
  replace I6 := I6.bel hb
  replace W6 := W6.bel hb
  replace X0 := hid_blk X0 hb
  replace M9 := M9.bel hb
  replace Pj0 := Pj0.bel hb
  replace Pj1 := Pj1.bel hb
  replace I4 := I4.bel hb
  replace W4 := W4.bel hb
  replace D := bel_next D hb
  clear hb
  go_wp2_with fail
  refine (heldInt64S_any A9 xs.length c9 1 _ M9 (by omega) (by omega) (by omega)).mono ?_
  rintro e w20 ⟨rfl, hb⟩
  have q20 := hb.size
  replace H0 := H0.bel hb
  replace H1 := H1.bel hb
  replace N0 := hid_blk N0 hb
  replace I6 := I6.bel hb
  replace W6 := W6.bel hb
  replace X0 := hid_blk X0 hb
  replace M9 := M9.bel hb
  replace Pj0 := Pj0.bel hb
  replace Pj1 := Pj1.bel hb
  replace I4 := I4.bel hb
  replace W4 := W4.bel hb
  replace D := bel_next D hb
  clear hb
  go_wp2_with fail
  go_ret
  exact ⟨rfl, D⟩

end Go.Proofs.Ytlebkjkiikehhaa
