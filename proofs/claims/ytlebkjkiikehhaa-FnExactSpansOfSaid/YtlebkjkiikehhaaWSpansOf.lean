/-
  THE WALK of the law on SpansOf (printed by tools/gen_law.py).
-/
import Derived.Test.YtlebkjkiikehhaaSpansOf
import Derived.Test.YtlebkjkiikehhaaMarkI
import Derived.Test.YtlebkjkiikehhaaIntS
import Derived.Test.YtlebkjkiikehhaaAid
import Derived.Test.YtlebkjkiikehhaaFrameRun
namespace Go.Proofs.Ytlebkjkiikehhaa
open Go.RowKit

set_option maxHeartbeats 4000000 in
theorem walk_FnExactSpansOf {w : World} (A0 : Option Addr) (n0 : Nat) (c0 : Nat) (l0 : List Int) (F0 : IntsArg w A0 n0 l0) (A1 : Option Addr) (n1 : Nat) (c1 : Nat) (l1 : List Int) (S1 : Int) (F1 : IntsArg w A1 n1 l1) : Calls Try.prog 5 #[.slice A0 n0 c0, .agg #[.slice A1 n1 c1, .int .i64 S1]] w (Ret w (.bool true)) := by
  obtain ⟨hl0, H0, hn0⟩ := F0
  have HL0 := Lib.hid hl0.symm
  clear hl0
  obtain ⟨hl1, H1, hn1⟩ := F1
  have HL1 := Lib.hid hl1.symm
  clear hl1
  obtain ⟨xs, HX⟩ : ∃ xs, Hid ((spansR l0 (l1, S1)).1 = xs) := ⟨_, rfl⟩
  obtain ⟨rk, HK⟩ : ∃ rk, Hid ((spansR l0 (l1, S1)).2 = rk) := ⟨_, rfl⟩
  have V0 := H0.src
  have V1 := H1.src
  rcases Nat.lt_or_ge 1048576 n0 with hs0 | hs0
  · go_enter Try.func5, Try.ntmps5
    go_wp2_with fail
    go_ret
    exact ⟨rfl, by first | exact Below.refl _ _ | go_grown⟩
  go_enter Try.func5, Try.ntmps5
  go_wp2_with fail
  refine (szRun_any A1 n1 c1 S1 1048576 _ (by omega) (by omega) hn1).mono ?_
  rintro e w1 ⟨rfl, hb⟩
  obtain ⟨z1, Z1⟩ : ∃ z, Hid (szF 1048576 n1 = z) := ⟨_, rfl⟩
  rw [Z1.out]
  have B1 := szF_ok (by omega) (by omega) Z1.out
  have N1 : Hid (Blk w1 (w.heap.size) 53 #[.slice A1 n1 c1, .int .i64 S1]) := bel_blk (Blk.new _ _ _) hb
  replace hb : Below w.heap.size w w1 := Below.trans (by go_grown) (hb.mono (by simp only [World.size_alloc]; omega))
  have bN1 := N1.out.lt
  have q1 := hb.size
  replace H0 := H0.bel hb
  replace H1 := H1.bel hb
  have D := hb
  clear hb
  clear Z1
  rcases Int.lt_or_le z1 0 with hz1 | hz1
  · go_wp2_with fail
    go_ret
    exact ⟨rfl, D⟩
  obtain ⟨hy1, hs1⟩ := B1 hz1
  clear B1
  go_wp2_with fail
  obtain ⟨N1_0, N1_1, -⟩ := N1.out.c2
  have N1_s := N1.out.lt
  go_region_held3 (fun w' => w'.cell? ⟨w.heap.size, 0, none⟩ = some (.slice A1 n1 c1) ∧ w'.cell? ⟨w.heap.size, 1, none⟩ = some (.int .i64 S1) ∧ Hid (Blk w' (w.heap.size) 53 #[.slice A1 n1 c1, .int .i64 S1]) ∧ IntsAt w' A0 l0 ∧ IntsAt w' A1 l1 ∧ Below w.heap.size w w')
    (first
      | (refine ⟨N1_0, N1_1, hid_blk N1 (by go_grown), H0.bel (by go_grown), H1.bel (by go_grown), ?_⟩; go_grown; done)
      | (have hS := ‹_ ∧ _ ∧ _ ∧ _ ∧ _ ∧ _›; exact ⟨bel_cell hbR hS.1, bel_cell hbR hS.2.1, hid_blk hS.2.2.1 hbR, IntsAt.bel hS.2.2.2.1 hbR, IntsAt.bel hS.2.2.2.2.1 hbR, bel_next hS.2.2.2.2.2 hbR⟩))
    (first
      | (go_at_call 19; (with_reducible refine (toInt64S_any A0 n0 c0 l0 _ (by first | exact (‹_ ∧ _ ∧ _ ∧ _ ∧ _ ∧ _›).2.2.2.1 | exact H0.drew | exact H0) HL0.out hs0).mono ?_); rintro e w5 ⟨gs0, rfl, hgs0, Rs0, hbR⟩; have Ps0 := IntsAt.ofBlk Rs0.out; try (replace Ps1 := Ps1.bel hbR))
      | (go_at_call 29; (with_reducible refine (toRun_any A1 n1 c1 l1 S1 _ (by first | exact (‹_ ∧ _ ∧ _ ∧ _ ∧ _ ∧ _›).2.2.2.2.1 | exact H1.drew | exact H1) HL1.out hs1).mono ?_); rintro e w5 ⟨gs1, rfl, hgs1, Rs1, hbR⟩; have Ps1 := IntsAt.ofBlk Rs1.out; try (replace Ps0 := Ps0.bel hbR))
      | (go_at_call 28; refine (specSpansOf_any _ n0 _ l0 _ n1 _ l1 S1 _ Ps0 HL0.out hs0 Ps1 HL1.out hs1).mono ?_; rw [HX.out, HK.out]; rintro e wS ⟨A6, c6, rfl, I6, hbR⟩; replace I6 := SpIn.low I6 (Below.size (show Below w.heap.size w _ from (by first | exact (‹_ ∧ _ ∧ _ ∧ _ ∧ _ ∧ _›).2.2.2.2.2 | exact D.drew | exact D)))))
  clear N1 N1_0 N1_1 N1_s H0 H1 D
  obtain ⟨-, -, N1, H0, H1, D⟩ := ‹_ ∧ _ ∧ _ ∧ _ ∧ _ ∧ _›
  have bdN11 := N1.out.lt
  have q6s := D.size
  go_wp2_with fail
  refine (toInt64S_any A0 n0 c0 l0 _ H0 HL0.out hs0).mono ?_
  rintro e w2 ⟨gi0, rfl, hgi0, Ri0, hb⟩
  have Pi0 := IntsAt.ofBlk Ri0.out
  have Wi0 := Own.ofInts Ri0 HL0.out
  have vi0 := Ri0.out.lt
  have q2 := hb.size
  replace H0 := H0.bel hb
  replace H1 := H1.bel hb
  replace N1 := hid_blk N1 hb
  replace I6 := I6.bel hb
  replace D := bel_next D hb
  clear hb
  clear Ri0
  obtain ⟨N1_0, N1_1, -⟩ := N1.out.c2
  have N1_s := N1.out.lt
  go_wp2_with fail
  refine (toRun_any A1 n1 c1 l1 S1 _ H1 HL1.out hs1).mono ?_
  rintro e w3 ⟨gi1, rfl, hgi1, Ri1, hb⟩
  have Pi1 := IntsAt.ofBlk Ri1.out
  have Wi1 := Own.ofInts Ri1 HL1.out
  have vi1 := Ri1.out.lt
  clear N1_0 N1_1 N1_s
  have q3 := hb.size
  replace H0 := H0.bel hb
  replace H1 := H1.bel hb
  replace N1 := hid_blk N1 hb
  replace I6 := I6.bel hb
  replace Wi0 := Wi0.bel hb
  replace Pi0 := Pi0.bel hb
  replace D := bel_next D hb
  clear hb
  clear Ri1
  go_wp2_with fail
  refine (implSpansOf_any _ n0 _ l0 _ n1 _ l1 S1 _ (Pi0.alloc _) HL0.out hs0 (Pi1.alloc _) HL1.out hs1).mono ?_
  rw [HX.out, HK.out]
  rintro e w4 ⟨A9, c9, rfl, ⟨I9, W9, U9⟩, hb⟩
  simp only [World.size_alloc] at I9 W9 U9
  have X1 : Hid (Blk w4 (w3.heap.size) 58 #[.slice (some ⟨gi1, 0, none⟩) n1 n1, .int .i64 S1]) := bel_blk (Blk.new _ _ _) hb
  replace hb : Below w3.heap.size w3 w4 := Below.trans (by go_grown) (hb.mono (by simp only [World.size_alloc]; omega))
  have bX1 := X1.out.lt
  have q4 := hb.size
  replace H0 := H0.bel hb
  replace H1 := H1.bel hb
  replace N1 := hid_blk N1 hb
  replace I6 := I6.bel hb
  replace Wi0 := Wi0.bel hb
  replace Pi0 := Pi0.bel hb
  replace Wi1 := Wi1.bel hb
  replace Pi1 := Pi1.bel hb
  replace D := bel_next D hb
  clear hb
  have hr : xs.length ≤ 1048576 := by rw [← HX.out]; exact spansR_len _ _
  go_wp2_with fail
  refine (eqInt64SS_any A9 A6 xs.length c9 c6 _ _ _ _ xs _ I9 I6 rfl hr).mono ?_
  rintro e w5 ⟨rfl, hb⟩
  have q5 := hb.size
  replace H0 := H0.bel hb
  replace H1 := H1.bel hb
  replace N1 := hid_blk N1 hb
  replace I6 := I6.bel hb
  replace Wi0 := Wi0.bel hb
  replace Pi0 := Pi0.bel hb
  replace Wi1 := Wi1.bel hb
  replace Pi1 := Pi1.bel hb
  replace X1 := hid_blk X1 hb
  replace I9 := I9.bel hb
  replace W9 := W9.bel hb
  replace D := bel_next D hb
  clear hb
  go_wp2_with fail
  refine (toInt64S_any A0 n0 c0 l0 _ H0 HL0.out hs0).mono ?_
  rintro e w6 ⟨ge0, rfl, hge0, Re0, hb⟩
  have Pe0 := IntsAt.ofBlk Re0.out
  have q6 := hb.size
  replace H0 := H0.bel hb
  replace H1 := H1.bel hb
  replace N1 := hid_blk N1 hb
  replace I6 := I6.bel hb
  replace Wi0 := Wi0.bel hb
  replace Pi0 := Pi0.bel hb
  replace Wi1 := Wi1.bel hb
  replace Pi1 := Pi1.bel hb
  replace X1 := hid_blk X1 hb
  replace I9 := I9.bel hb
  replace W9 := W9.bel hb
  replace D := bel_next D hb
  clear hb
  clear Re0 hge0
  go_wp2_with fail
  refine (eqInt64S_any _ _ n0 n0 n0 l0 _ Pi0 Pe0 HL0.out hs0).mono ?_
  rintro e w7 ⟨rfl, hb⟩
  have q7 := hb.size
  replace H0 := H0.bel hb
  replace H1 := H1.bel hb
  replace N1 := hid_blk N1 hb
  replace I6 := I6.bel hb
  replace Wi0 := Wi0.bel hb
  replace Pi0 := Pi0.bel hb
  replace Wi1 := Wi1.bel hb
  replace Pi1 := Pi1.bel hb
  replace X1 := hid_blk X1 hb
  replace I9 := I9.bel hb
  replace W9 := W9.bel hb
  replace Pe0 := Pe0.bel hb
  replace D := bel_next D hb
  clear hb
  clear Pe0
  go_wp2_with fail
  obtain ⟨N1_0, N1_1, -⟩ := N1.out.c2
  have N1_s := N1.out.lt
  obtain ⟨X1_0, X1_1, -⟩ := X1.out.c2
  have X1_s := X1.out.lt
  go_region_held3 (fun w' => w'.cell? ⟨w.heap.size, 0, none⟩ = some (.slice A1 n1 c1) ∧ w'.cell? ⟨w.heap.size, 1, none⟩ = some (.int .i64 S1) ∧ Hid (Blk w' (w.heap.size) 53 #[.slice A1 n1 c1, .int .i64 S1]) ∧ w'.cell? ⟨w3.heap.size, 0, none⟩ = some (.slice (some ⟨gi1, 0, none⟩) n1 n1) ∧ w'.cell? ⟨w3.heap.size, 1, none⟩ = some (.int .i64 S1) ∧ Hid (Blk w' (w3.heap.size) 58 #[.slice (some ⟨gi1, 0, none⟩) n1 n1, .int .i64 S1]) ∧ IntsAt w' A0 l0 ∧ IntsAt w' A1 l1 ∧ SpIn w' w.heap.size wS.heap.size A6 xs ∧ Own w' (some ⟨gi0, 0, none⟩) (n0) ∧ IntsAt w' (some ⟨gi0, 0, none⟩) l0 ∧ Own w' (some ⟨gi1, 0, none⟩) (n1) ∧ IntsAt w' (some ⟨gi1, 0, none⟩) l1 ∧ SpIn w' (w3.heap.size + 1) w4.heap.size A9 xs ∧ SpOwn w' (w3.heap.size + 1) w4.heap.size A9 xs.length ∧ Below w.heap.size w w')
    (first
      | (refine ⟨N1_0, N1_1, hid_blk N1 (by go_grown), X1_0, X1_1, hid_blk X1 (by go_grown), H0.bel (by go_grown), H1.bel (by go_grown), I6.bel (by go_grown), Wi0.bel (by go_grown), Pi0.bel (by go_grown), Wi1.bel (by go_grown), Pi1.bel (by go_grown), I9.bel (by go_grown), W9.bel (by go_grown), ?_⟩; go_grown; done)
      | (have hS := ‹_ ∧ _ ∧ _ ∧ _ ∧ _ ∧ _ ∧ _ ∧ _ ∧ _ ∧ _ ∧ _ ∧ _ ∧ _ ∧ _ ∧ _ ∧ _›; exact ⟨bel_cell hbR hS.1, bel_cell hbR hS.2.1, hid_blk hS.2.2.1 hbR, bel_cell hbR hS.2.2.2.1, bel_cell hbR hS.2.2.2.2.1, hid_blk hS.2.2.2.2.2.1 hbR, IntsAt.bel hS.2.2.2.2.2.2.1 hbR, IntsAt.bel hS.2.2.2.2.2.2.2.1 hbR, SpIn.bel hS.2.2.2.2.2.2.2.2.1 hbR, Own.bel hS.2.2.2.2.2.2.2.2.2.1 hbR, IntsAt.bel hS.2.2.2.2.2.2.2.2.2.2.1 hbR, Own.bel hS.2.2.2.2.2.2.2.2.2.2.2.1 hbR, IntsAt.bel hS.2.2.2.2.2.2.2.2.2.2.2.2.1 hbR, SpIn.bel hS.2.2.2.2.2.2.2.2.2.2.2.2.2.1 hbR, SpOwn.bel hS.2.2.2.2.2.2.2.2.2.2.2.2.2.2.1 hbR, bel_next hS.2.2.2.2.2.2.2.2.2.2.2.2.2.2.2 hbR⟩))
    (first
      | (go_at_call 29; (with_reducible refine (toRun_any A1 n1 c1 l1 S1 _ (by first | exact (‹_ ∧ _ ∧ _ ∧ _ ∧ _ ∧ _ ∧ _ ∧ _ ∧ _ ∧ _ ∧ _ ∧ _ ∧ _ ∧ _ ∧ _ ∧ _›).2.2.2.2.2.2.2.1 | exact H1.drew | exact H1) HL1.out hs1).mono ?_); rintro e w5 ⟨ge1, rfl, hge1, Re1, hbR⟩)
      | (go_at_call 32; (with_reducible refine (eqRun_any _ _ n1 n1 n1 l1 S1 _ (by first | exact (‹_ ∧ _ ∧ _ ∧ _ ∧ _ ∧ _ ∧ _ ∧ _ ∧ _ ∧ _ ∧ _ ∧ _ ∧ _ ∧ _ ∧ _ ∧ _›).2.2.2.2.2.2.2.2.2.2.2.2.1 | exact Pi1.drew | exact Pi1) (IntsAt.ofBlk Re1.out) HL1.out hs1).mono ?_); rintro e w6 ⟨rfl, hbR⟩))
  clear N1 N1_0 N1_1 N1_s X1 X1_0 X1_1 X1_s H0 H1 I6 Wi0 Pi0 Wi1 Pi1 I9 W9 D
  obtain ⟨-, -, N1, -, -, X1, H0, H1, I6, Wi0, Pi0, Wi1, Pi1, I9, W9, D⟩ := ‹_ ∧ _ ∧ _ ∧ _ ∧ _ ∧ _ ∧ _ ∧ _ ∧ _ ∧ _ ∧ _ ∧ _ ∧ _ ∧ _ ∧ _ ∧ _›
  have bdN12 := N1.out.lt
  have bdX12 := X1.out.lt
  clear Pi0
  clear Pi1
  go_wp2_with fail
  refine (markInt64S_any _ n0 n0 (1) _ Wi0 (by omega) (by omega) (by omega)).mono ?_
  rintro e w8 ⟨rfl, hm0, hb⟩
  have hbut := hb
  have q8 := hbut.size
  clear hb hm0
  replace H0 := H0.but hbut (by intro h0 p q hp hq; have yp := V0 h0 p hp; cases hq; (try simp only); omega)
  replace H1 := H1.but hbut (by intro h0 p q hp hq; have yp := V1 h0 p hp; cases hq; (try simp only); omega)
  replace N1 := Lib.hid (hbut.blk N1.out (by intro q hq; cases hq; (try simp only); omega))
  replace I6 := I6.but hbut (by intro q hq; cases hq; (try simp only); omega)
  replace Wi1 := Wi1.but hbut (by intro h0 p q hp hq; cases hp; cases hq; (try simp only); omega)
  replace X1 := Lib.hid (hbut.blk X1.out (by intro q hq; cases hq; (try simp only); omega))
  replace I9 := I9.but hbut (by intro q hq; cases hq; (try simp only); omega)
  replace W9 := W9.but hbut (by intro q hq; cases hq; exact ⟨by (try simp only); omega, fun p hp => by have yp := U9 p hp; (try simp only); omega⟩)
  replace D := hbut.below D (by intro q hq; cases hq; (try simp only); omega)
  clear hbut
  clear Wi0
  obtain ⟨X1_0, X1_1, -⟩ := X1.out.c2
  have X1_s := X1.out.lt
  go_wp2_with fail
  refine (markRun_any _ n1 n1 S1 (1 + (n0 : Nat)) _ Wi1 (by omega) (by omega) (by omega)).mono ?_
  rintro e w9 ⟨rfl, hb⟩
  have hbut := hb
  clear X1_0 X1_1 X1_s
  have q9 := hbut.size
  clear hb
  replace H0 := H0.but hbut (by intro h0 p q hp hq; have yp := V0 h0 p hp; cases hq; (try simp only); omega)
  replace H1 := H1.but hbut (by intro h0 p q hp hq; have yp := V1 h0 p hp; cases hq; (try simp only); omega)
  replace N1 := Lib.hid (hbut.blk N1.out (by intro q hq; cases hq; (try simp only); omega))
  replace I6 := I6.but hbut (by intro q hq; cases hq; (try simp only); omega)
  replace X1 := Lib.hid (hbut.blk X1.out (by intro q hq; cases hq; (try simp only); omega))
  replace I9 := I9.but hbut (by intro q hq; cases hq; (try simp only); omega)
  replace W9 := W9.but hbut (by intro q hq; cases hq; exact ⟨by (try simp only); omega, fun p hp => by have yp := U9 p hp; (try simp only); omega⟩)
  replace D := hbut.below D (by intro q hq; cases hq; (try simp only); omega)
  clear hbut
  clear Wi1
  go_wp2_with fail
  refine (eqInt64SS_any A9 A6 xs.length c9 c6 _ _ _ _ xs _ I9 I6 rfl hr).mono ?_
  rintro e w10 ⟨rfl, hb⟩
  have q10 := hb.size
  replace H0 := H0.bel hb
  replace H1 := H1.bel hb
  replace N1 := hid_blk N1 hb
  replace I6 := I6.bel hb
  replace X1 := hid_blk X1 hb
  replace I9 := I9.bel hb
  replace W9 := W9.bel hb
  replace D := bel_next D hb
  clear hb
  go_wp2_with fail
  refine (markInt64SS_any A9 xs.length c9 _ _ 1 _ W9 (by omega) (by omega) (by omega)).mono ?_
  rintro e w11 ⟨rfl, M9, hb⟩
  have q11 := hb.size
  have hbr := hb
  replace H0 := H0.butR hb (by intro h0 p hp; have yp := V0 h0 p hp; (try simp only); omega)
  replace H1 := H1.butR hb (by intro h0 p hp; have yp := V1 h0 p hp; (try simp only); omega)
  replace N1 := Lib.hid (hb.blk N1.out (by omega))
  replace I6 := I6.butR hb (by omega)
  replace X1 := Lib.hid (hb.blk X1.out (by omega))
  replace D := hb.below D (by omega)
  clear hb
  clear I9 W9 hbr
  go_wp2_with fail
  refine (heldInt64SS_any A9 xs.length c9 1 _ M9 (by omega) (by omega) (by omega)).mono ?_
  rintro e w12 ⟨rfl, hb⟩
  have q12 := hb.size
  replace H0 := H0.bel hb
  replace H1 := H1.bel hb
  replace N1 := hid_blk N1 hb
  replace I6 := I6.bel hb
  replace X1 := hid_blk X1 hb
  replace M9 := M9.bel hb
  replace D := bel_next D hb
  clear hb
  go_wp2_with fail
  obtain ⟨N1_0, N1_1, -⟩ := N1.out.c2
  have N1_s := N1.out.lt
  obtain ⟨X1_0, X1_1, -⟩ := X1.out.c2
  have X1_s := X1.out.lt
  go_region_held3 (fun w' => w'.cell? ⟨w.heap.size, 0, none⟩ = some (.slice A1 n1 c1) ∧ w'.cell? ⟨w.heap.size, 1, none⟩ = some (.int .i64 S1) ∧ Hid (Blk w' (w.heap.size) 53 #[.slice A1 n1 c1, .int .i64 S1]) ∧ w'.cell? ⟨w3.heap.size, 0, none⟩ = some (.slice (some ⟨gi1, 0, none⟩) n1 n1) ∧ w'.cell? ⟨w3.heap.size, 1, none⟩ = some (.int .i64 S1) ∧ Hid (Blk w' (w3.heap.size) 58 #[.slice (some ⟨gi1, 0, none⟩) n1 n1, .int .i64 S1]) ∧ IntsAt w' A0 l0 ∧ IntsAt w' A1 l1 ∧ SpIn w' w.heap.size wS.heap.size A6 xs ∧ RowsM w' A9 xs.length 1 ∧ Below w.heap.size w w')
    (first
      | (refine ⟨N1_0, N1_1, hid_blk N1 (by go_grown), X1_0, X1_1, hid_blk X1 (by go_grown), H0.bel (by go_grown), H1.bel (by go_grown), I6.bel (by go_grown), M9.bel (by go_grown), ?_⟩; go_grown; done)
      | (have hS := ‹_ ∧ _ ∧ _ ∧ _ ∧ _ ∧ _ ∧ _ ∧ _ ∧ _ ∧ _ ∧ _›; exact ⟨bel_cell hbR hS.1, bel_cell hbR hS.2.1, hid_blk hS.2.2.1 hbR, bel_cell hbR hS.2.2.2.1, bel_cell hbR hS.2.2.2.2.1, hid_blk hS.2.2.2.2.2.1 hbR, IntsAt.bel hS.2.2.2.2.2.2.1 hbR, IntsAt.bel hS.2.2.2.2.2.2.2.1 hbR, SpIn.bel hS.2.2.2.2.2.2.2.2.1 hbR, RowsM.bel hS.2.2.2.2.2.2.2.2.2.1 hbR, bel_next hS.2.2.2.2.2.2.2.2.2.2 hbR⟩))
    (first
      | (go_at_call 19; (with_reducible refine (toInt64S_any A0 n0 c0 l0 _ (by first | exact (‹_ ∧ _ ∧ _ ∧ _ ∧ _ ∧ _ ∧ _ ∧ _ ∧ _ ∧ _ ∧ _›).2.2.2.2.2.2.1 | exact H0.drew | exact H0) HL0.out hs0).mono ?_); rintro e w5 ⟨gj0, rfl, hgj0, Rj0, hbR⟩; have Pj0 := IntsAt.ofBlk Rj0.out; try (replace Pj1 := Pj1.bel hbR))
      | (go_at_call 29; (with_reducible refine (toRun_any A1 n1 c1 l1 S1 _ (by first | exact (‹_ ∧ _ ∧ _ ∧ _ ∧ _ ∧ _ ∧ _ ∧ _ ∧ _ ∧ _ ∧ _›).2.2.2.2.2.2.2.1 | exact H1.drew | exact H1) HL1.out hs1).mono ?_); rintro e w5 ⟨gj1, rfl, hgj1, Rj1, hbR⟩; have Pj1 := IntsAt.ofBlk Rj1.out; try (replace Pj0 := Pj0.bel hbR))
      | (go_at_call 30; refine (implSpansOf_any _ n0 _ l0 _ n1 _ l1 S1 _ Pj0 HL0.out hs0 Pj1 HL1.out hs1).mono ?_; rw [HX.out, HK.out]; rintro e wT ⟨A4, c4, rfl, ⟨I4, -, -⟩, hbR⟩))
  clear N1 N1_0 N1_1 N1_s X1 X1_0 X1_1 X1_s H0 H1 I6 M9 D
  obtain ⟨-, -, N1, -, -, X1, H0, H1, I6, M9, D⟩ := ‹_ ∧ _ ∧ _ ∧ _ ∧ _ ∧ _ ∧ _ ∧ _ ∧ _ ∧ _ ∧ _›
  have bdN13 := N1.out.lt
  have bdX13 := X1.out.lt
  go_wp2_with fail
  refine (eqInt64SS_any A4 A6 xs.length c4 c6 _ _ _ _ xs _ I4 I6 rfl hr).mono ?_
  rintro e w13 ⟨rfl, hb⟩
  have q13 := hb.size
  replace H0 := H0.bel hb
  replace H1 := H1.bel hb
  replace N1 := hid_blk N1 hb
  replace I6 := I6.bel hb
  replace X1 := hid_blk X1 hb
  replace M9 := M9.bel hb
  replace I4 := I4.bel hb
  replace D := bel_next D hb
  clear hb
  go_wp2_with fail
  refine (heldInt64SS_any A9 xs.length c9 1 _ M9 (by omega) (by omega) (by omega)).mono ?_
  rintro e w14 ⟨rfl, hb⟩
  have q14 := hb.size
  replace H0 := H0.bel hb
  replace H1 := H1.bel hb
  replace N1 := hid_blk N1 hb
  replace I6 := I6.bel hb
  replace X1 := hid_blk X1 hb
  replace M9 := M9.bel hb
  replace I4 := I4.bel hb
  replace D := bel_next D hb
  clear hb
  go_wp2_with fail
  go_ret
  exact ⟨rfl, D⟩

end Go.Proofs.Ytlebkjkiikehhaa
