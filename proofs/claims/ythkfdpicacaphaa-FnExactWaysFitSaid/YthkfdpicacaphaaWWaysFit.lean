/-
  THE WALK of the law on WaysFit (printed by tools/gen_law.py).
-/
import Derived.Test.YthkfdpicacaphaaFit2
import Derived.Test.YthkfdpicacaphaaAid
import Derived.Test.YthkfdpicacaphaaFrameNet
namespace Go.Proofs.Ythkfdpicacaphaa
open Go.RowKit

set_option maxHeartbeats 4000000 in
theorem walk_FnExactWaysFit {w : World} (S0 : Int) (A0 : Option Addr) (n0 : Nat) (c0 : Nat) (l0 : List Tb) (F0 : NetArg w A0 n0 l0) (A1 : Option Addr) (n1 : Nat) (c1 : Nat) (l1 : List (List Int)) (F1 : IntssArg w A1 n1 l1) : Calls Try.prog 8 #[.agg #[.int .i64 S0, .slice A0 n0 c0], .slice A1 n1 c1] w (Ret w (.bool true)) := by
  obtain ⟨hl0, H0, hn0⟩ := F0
  have HL0 := Lib.hid hl0.symm
  clear hl0
  obtain ⟨hl1, H1, hn1⟩ := F1
  have HL1 := Lib.hid hl1.symm
  clear hl1
  go_enter Try.func8, Try.ntmps8
  go_wp2_with fail
  refine (szNet_any S0 A0 n0 c0 1048576 _ (by omega) (by omega) hn0).mono ?_
  rintro e w1 ⟨rfl, hb⟩
  obtain ⟨z0, Z0⟩ : ∃ z, Hid (szF 1048576 n0 = z) := ⟨_, rfl⟩
  rw [Z0.out]
  have B0 := szF_ok (by omega) (by omega) Z0.out
  have N0 : Hid (Blk w1 (w.heap.size) 24 #[.int .i64 S0, .slice A0 n0 c0]) := bel_blk (Blk.new _ _ _) hb
  replace hb : Below w.heap.size w w1 := Below.trans (by go_grown) (hb.mono (by simp only [World.size_alloc]; omega))
  replace H0 := H0.bel hb
  replace H1 := H1.bel hb
  have D := hb
  clear hb
  clear Z0
  rcases Int.lt_or_le z0 0 with hz0 | hz0
  · go_wp2_with fail
    go_ret
    exact ⟨rfl, D⟩
  obtain ⟨hy0, hs0⟩ := B0 hz0
  clear B0
  go_wp2_with fail
  refine (szInt64SS_any A1 n1 c1 l1 z0 _ (by omega) (by omega) hn1 H1 HL1.out).mono ?_
  rintro e w2 ⟨rfl, hb⟩
  obtain ⟨z1, Z1⟩ : ∃ z, Hid (szIntss z0 l1 = z) := ⟨_, rfl⟩
  rw [Z1.out]
  have B1 := szIntss_ok (by omega) (by omega) Z1.out
  replace H0 := H0.bel hb
  replace H1 := H1.bel hb
  replace N0 := hid_blk N0 hb
  replace D := bel_next D hb
  clear hb
  clear Z1
  rcases Int.lt_or_le z1 0 with hz1 | hz1
  · go_wp2_with fail
    go_ret
    exact ⟨rfl, D⟩
  obtain ⟨hy1, hs1, hp1⟩ := B1 hz1
  clear B1
  obtain ⟨N0_0, N0_1, -⟩ := N0.out.c2
  have N0_s := N0.out.lt
  go_wp2_with fail
  refine (toNet_any S0 A0 n0 c0 l0 _ H0 HL0.out hs0).mono ?_
  rintro e w3 ⟨gs0, rfl, hgs0, Rs0, hb⟩
  have Ps0 := Rs0.tubes
  clear N0_0 N0_1 N0_s
  replace H0 := H0.bel hb
  replace H1 := H1.bel hb
  replace N0 := hid_blk N0 hb
  replace D := bel_next D hb
  clear hb
  clear Rs0 hgs0
  go_wp2_with fail
  refine (toInt64SS_any A1 n1 c1 l1 _ H1 HL1.out hp1).mono ?_
  rintro e w4 ⟨gs1, rfl, hgs1, Rs1, hb⟩
  have Ps1 := Rs1.rows hp1
  replace H0 := H0.bel hb
  replace H1 := H1.bel hb
  replace N0 := hid_blk N0 hb
  replace Ps0 := Ps0.bel hb
  replace D := bel_next D hb
  clear hb
  clear Rs1 hgs1
  go_wp2_with fail
  refine (specFit_any S0 _ n0 _ l0 _ n1 _ l1 _ Ps0 HL0.out hs0 Ps1 HL1.out hp1).mono ?_
  rintro e w5 ⟨rfl, hb⟩
  replace H0 := H0.bel hb
  replace H1 := H1.bel hb
  replace N0 := hid_blk N0 hb
  replace Ps0 := Ps0.bel hb
  replace Ps1 := Ps1.bel hb
  replace D := bel_next D hb
  clear hb
  clear Ps0
  clear Ps1
  obtain ⟨N0_0, N0_1, -⟩ := N0.out.c2
  have N0_s := N0.out.lt
  go_wp2_with fail
  refine (toNet_any S0 A0 n0 c0 l0 _ H0 HL0.out hs0).mono ?_
  rintro e w6 ⟨gi0, rfl, hgi0, Ri0, hb⟩
  have Pi0 := Ri0.tubes
  clear N0_0 N0_1 N0_s
  replace H0 := H0.bel hb
  replace H1 := H1.bel hb
  replace N0 := hid_blk N0 hb
  replace D := bel_next D hb
  clear hb
  clear Ri0 hgi0
  go_wp2_with fail
  refine (toInt64SS_any A1 n1 c1 l1 _ (H1.alloc _) HL1.out hp1).mono ?_
  rintro e w7 ⟨gi1, rfl, hgi1, Ri1, hb⟩
  have Pi1 := Ri1.rows hp1
  have X0 : Hid (Blk w7 (w6.heap.size) 30 #[.int .i64 S0, .slice (some ⟨gi0, 0, none⟩) n0 n0]) := bel_blk (Blk.new _ _ _) hb
  replace hb : Below w6.heap.size w6 w7 := Below.trans (by go_grown) (hb.mono (by simp only [World.size_alloc]; omega))
  replace H0 := H0.bel hb
  replace H1 := H1.bel hb
  replace N0 := hid_blk N0 hb
  replace Pi0 := Pi0.bel hb
  replace D := bel_next D hb
  clear hb
  clear Ri1 hgi1
  obtain ⟨X0_0, X0_1, -⟩ := X0.out.c2
  have X0_s := X0.out.lt
  go_wp2_with fail
  refine (implFit_any S0 _ n0 _ l0 _ n1 _ l1 _ Pi0 HL0.out hs0 Pi1 HL1.out hp1).mono ?_
  rintro e w8 ⟨rfl, hb⟩
  clear X0_0 X0_1 X0_s
  replace H0 := H0.bel hb
  replace H1 := H1.bel hb
  replace N0 := hid_blk N0 hb
  replace Pi0 := Pi0.bel hb
  replace X0 := hid_blk X0 hb
  replace Pi1 := Pi1.bel hb
  replace D := bel_next D hb
  clear hb
  go_wp2_with fail
  obtain ⟨N0_0, N0_1, -⟩ := N0.out.c2
  have N0_s := N0.out.lt
  obtain ⟨X0_0, X0_1, -⟩ := X0.out.c2
  have X0_s := X0.out.lt
  go_region_held3 (fun w' => w'.cell? ⟨w.heap.size, 0, none⟩ = some (.int .i64 S0) ∧ w'.cell? ⟨w.heap.size, 1, none⟩ = some (.slice A0 n0 c0) ∧ Hid (Blk w' (w.heap.size) 24 #[.int .i64 S0, .slice A0 n0 c0]) ∧ w'.cell? ⟨w6.heap.size, 0, none⟩ = some (.int .i64 S0) ∧ w'.cell? ⟨w6.heap.size, 1, none⟩ = some (.slice (some ⟨gi0, 0, none⟩) n0 n0) ∧ Hid (Blk w' (w6.heap.size) 30 #[.int .i64 S0, .slice (some ⟨gi0, 0, none⟩) n0 n0]) ∧ TubesAt w' A0 l0 ∧ IntssAt w' A1 l1 ∧ TubesAt w' (some ⟨gi0, 0, none⟩) l0 ∧ IntssAt w' (some ⟨gi1, 0, none⟩) l1 ∧ Below w.heap.size w w')
    (first
      | (refine ⟨N0_0, N0_1, hid_blk N0 (by go_grown), X0_0, X0_1, hid_blk X0 (by go_grown), H0.bel (by go_grown), H1.bel (by go_grown), Pi0.bel (by go_grown), Pi1.bel (by go_grown), ?_⟩; go_grown; done)
      | (have hS := ‹_ ∧ _ ∧ _ ∧ _ ∧ _ ∧ _ ∧ _ ∧ _ ∧ _ ∧ _ ∧ _›; exact ⟨bel_cell hbR hS.1, bel_cell hbR hS.2.1, hid_blk hS.2.2.1 hbR, bel_cell hbR hS.2.2.2.1, bel_cell hbR hS.2.2.2.2.1, hid_blk hS.2.2.2.2.2.1 hbR, TubesAt.bel hS.2.2.2.2.2.2.1 hbR, IntssAt.bel hS.2.2.2.2.2.2.2.1 hbR, TubesAt.bel hS.2.2.2.2.2.2.2.2.1 hbR, IntssAt.bel hS.2.2.2.2.2.2.2.2.2.1 hbR, bel_next hS.2.2.2.2.2.2.2.2.2.2 hbR⟩))
    (first
      | (go_at_call 14; (with_reducible refine (toNet_any S0 A0 n0 c0 l0 _ (by first | exact (‹_ ∧ _ ∧ _ ∧ _ ∧ _ ∧ _ ∧ _ ∧ _ ∧ _ ∧ _ ∧ _›).2.2.2.2.2.2.1 | exact H0.drew | exact H0) HL0.out hs0).mono ?_); rintro e w5 ⟨ge0, rfl, hge0, Re0, hbR⟩)
      | (go_at_call 17; (with_reducible refine (eqNet_any S0 _ _ n0 n0 n0 l0 _ (by first | exact (‹_ ∧ _ ∧ _ ∧ _ ∧ _ ∧ _ ∧ _ ∧ _ ∧ _ ∧ _ ∧ _›).2.2.2.2.2.2.2.2.1 | exact Pi0.drew | exact Pi0) (Re0.tubes) HL0.out hs0).mono ?_); rintro e w6 ⟨rfl, hbR⟩))
  clear N0 N0_0 N0_1 N0_s X0 X0_0 X0_1 X0_s H0 H1 Pi0 Pi1 D
  obtain ⟨-, -, N0, -, -, X0, H0, H1, Pi0, Pi1, D⟩ := ‹_ ∧ _ ∧ _ ∧ _ ∧ _ ∧ _ ∧ _ ∧ _ ∧ _ ∧ _ ∧ _›
  go_wp2_with fail
  refine (toInt64SS_any A1 n1 c1 l1 _ H1 HL1.out hp1).mono ?_
  rintro e w9 ⟨ge1, rfl, hge1, Re1, hb⟩
  have Pe1 := Re1.rows hp1
  replace H0 := H0.bel hb
  replace H1 := H1.bel hb
  replace N0 := hid_blk N0 hb
  replace Pi0 := Pi0.bel hb
  replace X0 := hid_blk X0 hb
  replace Pi1 := Pi1.bel hb
  replace D := bel_next D hb
  clear hb
  clear Re1 hge1
  go_wp2_with fail
  refine (eqInt64SS_any _ _ n1 n1 n1 l1 _ Pi1 Pe1 HL1.out hp1).mono ?_
  rintro e w10 ⟨rfl, hb⟩
  replace H0 := H0.bel hb
  replace H1 := H1.bel hb
  replace N0 := hid_blk N0 hb
  replace Pi0 := Pi0.bel hb
  replace X0 := hid_blk X0 hb
  replace Pi1 := Pi1.bel hb
  replace Pe1 := Pe1.bel hb
  replace D := bel_next D hb
  clear hb
  clear Pe1
  go_wp2_with fail
  go_ret
  exact ⟨rfl, D⟩

end Go.Proofs.Ythkfdpicacaphaa
