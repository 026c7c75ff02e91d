/-
  THE WALK of the law on EndOfRun (printed by tools/gen_law.py).
-/
import Derived.Test.YtedjpbmgldbhkaaRunEnd
import Derived.Test.YtedjpbmgldbhkaaAid
import Derived.Test.YtedjpbmgldbhkaaFrameRun
namespace Go.Proofs.Ytedjpbmgldbhkaa
open Go.RowKit

set_option maxHeartbeats 4000000 in
theorem walk_FnExactEndOfRun {w : World} (A0 : Option Addr) (n0 : Nat) (c0 : Nat) (l0 : List Int) (F0 : IntsArg w A0 n0 l0) (A1 : Option Addr) (n1 : Nat) (c1 : Nat) (l1 : List Int) (S1 : Int) (F1 : IntsArg w A1 n1 l1) : Calls Try.prog 5 #[.slice A0 n0 c0, .agg #[.slice A1 n1 c1, .int .i64 S1]] w (Ret w (.bool true)) := by
  obtain ⟨hl0, H0, hn0⟩ := F0
  have HL0 := Lib.hid hl0.symm
  clear hl0
  obtain ⟨hl1, H1, hn1⟩ := F1
  have HL1 := Lib.hid hl1.symm
  clear hl1
  rcases Nat.lt_or_ge 1048576 n0 with hs0 | hs0
  · go_enter Try.func5, Try.ntmps5
    go_wp2_with fail
    go_ret
    exact ⟨rfl, by first | exact Below.refl _ _ | go_grown⟩
  go_enter Try.func5, Try.ntmps5
  go_wp2_with fail
  refine (szRun_any A1 n1 c1 S1 1048576 _ (by omega) (by omega) hn1).mono ?_
  rintro e w1 ⟨rfl, hb⟩
  obtain ⟨z1, Z1⟩ : ∃ z, Hid (szF 1048576 n1 = z) := ⟨_, rfl⟩
  rw [Z1.out]
  have B1 := szF_ok (by omega) (by omega) Z1.out
  have N1 : Hid (Blk w1 (w.heap.size) 33 #[.slice A1 n1 c1, .int .i64 S1]) := bel_blk (Blk.new _ _ _) hb
  replace hb : Below w.heap.size w w1 := Below.trans (by go_grown) (hb.mono (by simp only [World.size_alloc]; omega))
  replace H0 := H0.bel hb
  replace H1 := H1.bel hb
  have D := hb
  clear hb
  clear Z1
  rcases Int.lt_or_le z1 0 with hz1 | hz1
  · go_wp2_with fail
    go_ret
    exact ⟨rfl, D⟩
  obtain ⟨hy1, hs1⟩ := B1 hz1
  clear B1
  go_wp2_with fail
  obtain ⟨N1_0, N1_1, -⟩ := N1.out.c2
  have N1_s := N1.out.lt
  go_region_held3 (fun w' => w'.cell? ⟨w.heap.size, 0, none⟩ = some (.slice A1 n1 c1) ∧ w'.cell? ⟨w.heap.size, 1, none⟩ = some (.int .i64 S1) ∧ Hid (Blk w' (w.heap.size) 33 #[.slice A1 n1 c1, .int .i64 S1]) ∧ IntsAt w' A0 l0 ∧ IntsAt w' A1 l1 ∧ Below w.heap.size w w')
    (first
      | (refine ⟨N1_0, N1_1, hid_blk N1 (by go_grown), H0.bel (by go_grown), H1.bel (by go_grown), ?_⟩; go_grown; done)
      | (have hS := ‹_ ∧ _ ∧ _ ∧ _ ∧ _ ∧ _›; exact ⟨bel_cell hbR hS.1, bel_cell hbR hS.2.1, hid_blk hS.2.2.1 hbR, IntsAt.bel hS.2.2.2.1 hbR, IntsAt.bel hS.2.2.2.2.1 hbR, bel_next hS.2.2.2.2.2 hbR⟩))
    (first
      | (go_at_call 11; (with_reducible refine (toInt64S_any A0 n0 c0 l0 _ (by first | exact (‹_ ∧ _ ∧ _ ∧ _ ∧ _ ∧ _›).2.2.2.1 | exact H0.drew | exact H0) HL0.out hs0).mono ?_); rintro e w5 ⟨gs0, rfl, hgs0, Rs0, hbR⟩; have Ps0 := IntsAt.ofBlk Rs0.out; try (replace Ps1 := Ps1.bel hbR))
      | (go_at_call 21; (with_reducible refine (toRun_any A1 n1 c1 l1 S1 _ (by first | exact (‹_ ∧ _ ∧ _ ∧ _ ∧ _ ∧ _›).2.2.2.2.1 | exact H1.drew | exact H1) HL1.out hs1).mono ?_); rintro e w5 ⟨gs1, rfl, hgs1, Rs1, hbR⟩; have Ps1 := IntsAt.ofBlk Rs1.out; try (replace Ps0 := Ps0.bel hbR))
      | (go_at_call 20; refine (specEnd_any _ n0 _ l0 _ n1 _ l1 S1 _ Ps0 HL0.out hs0 Ps1 HL1.out hs1).mono ?_; rintro e w6 ⟨rfl, hbR⟩))
  clear N1 N1_0 N1_1 N1_s H0 H1 D
  obtain ⟨-, -, N1, H0, H1, D⟩ := ‹_ ∧ _ ∧ _ ∧ _ ∧ _ ∧ _›
  go_wp2_with fail
  refine (toInt64S_any A0 n0 c0 l0 _ H0 HL0.out hs0).mono ?_
  rintro e w2 ⟨gi0, rfl, hgi0, Ri0, hb⟩
  have Pi0 := IntsAt.ofBlk Ri0.out
  replace H0 := H0.bel hb
  replace H1 := H1.bel hb
  replace N1 := hid_blk N1 hb
  replace D := bel_next D hb
  clear hb
  clear Ri0 hgi0
  obtain ⟨N1_0, N1_1, -⟩ := N1.out.c2
  have N1_s := N1.out.lt
  go_wp2_with fail
  refine (toRun_any A1 n1 c1 l1 S1 _ H1 HL1.out hs1).mono ?_
  rintro e w3 ⟨gi1, rfl, hgi1, Ri1, hb⟩
  have Pi1 := IntsAt.ofBlk Ri1.out
  clear N1_0 N1_1 N1_s
  replace H0 := H0.bel hb
  replace H1 := H1.bel hb
  replace N1 := hid_blk N1 hb
  replace Pi0 := Pi0.bel hb
  replace D := bel_next D hb
  clear hb
  clear Ri1 hgi1
  go_wp2_with fail
  refine (implEnd_any _ n0 _ l0 _ n1 _ l1 S1 _ (Pi0.alloc _) HL0.out hs0 (Pi1.alloc _) HL1.out hs1).mono ?_
  rintro e w4 ⟨rfl, hb⟩
  have X1 : Hid (Blk w4 (w3.heap.size) 37 #[.slice (some ⟨gi1, 0, none⟩) n1 n1, .int .i64 S1]) := bel_blk (Blk.new _ _ _) hb
  replace hb : Below w3.heap.size w3 w4 := Below.trans (by go_grown) (hb.mono (by simp only [World.size_alloc]; omega))
  replace H0 := H0.bel hb
  replace H1 := H1.bel hb
  replace N1 := hid_blk N1 hb
  replace Pi0 := Pi0.bel hb
  replace Pi1 := Pi1.bel hb
  replace D := bel_next D hb
  clear hb
  go_wp2_with fail
  refine (toInt64S_any A0 n0 c0 l0 _ H0 HL0.out hs0).mono ?_
  rintro e w5 ⟨ge0, rfl, hge0, Re0, hb⟩
  have Pe0 := IntsAt.ofBlk Re0.out
  replace H0 := H0.bel hb
  replace H1 := H1.bel hb
  replace N1 := hid_blk N1 hb
  replace Pi0 := Pi0.bel hb
  replace Pi1 := Pi1.bel hb
  replace X1 := hid_blk X1 hb
  replace D := bel_next D hb
  clear hb
  clear Re0 hge0
  go_wp2_with fail
  refine (eqInt64S_any _ _ n0 n0 n0 l0 _ Pi0 Pe0 HL0.out hs0).mono ?_
  rintro e w6 ⟨rfl, hb⟩
  replace H0 := H0.bel hb
  replace H1 := H1.bel hb
  replace N1 := hid_blk N1 hb
  replace Pi0 := Pi0.bel hb
  replace Pi1 := Pi1.bel hb
  replace X1 := hid_blk X1 hb
  replace Pe0 := Pe0.bel hb
  replace D := bel_next D hb
  clear hb
  clear Pe0
  go_wp2_with fail
  obtain ⟨N1_0, N1_1, -⟩ := N1.out.c2
  have N1_s := N1.out.lt
  obtain ⟨X1_0, X1_1, -⟩ := X1.out.c2
  have X1_s := X1.out.lt
  go_region_held3 (fun w' => w'.cell? ⟨w.heap.size, 0, none⟩ = some (.slice A1 n1 c1) ∧ w'.cell? ⟨w.heap.size, 1, none⟩ = some (.int .i64 S1) ∧ Hid (Blk w' (w.heap.size) 33 #[.slice A1 n1 c1, .int .i64 S1]) ∧ w'.cell? ⟨w3.heap.size, 0, none⟩ = some (.slice (some ⟨gi1, 0, none⟩) n1 n1) ∧ w'.cell? ⟨w3.heap.size, 1, none⟩ = some (.int .i64 S1) ∧ Hid (Blk w' (w3.heap.size) 37 #[.slice (some ⟨gi1, 0, none⟩) n1 n1, .int .i64 S1]) ∧ IntsAt w' A0 l0 ∧ IntsAt w' A1 l1 ∧ IntsAt w' (some ⟨gi0, 0, none⟩) l0 ∧ IntsAt w' (some ⟨gi1, 0, none⟩) l1 ∧ Below w.heap.size w w')
    (first
      | (refine ⟨N1_0, N1_1, hid_blk N1 (by go_grown), X1_0, X1_1, hid_blk X1 (by go_grown), H0.bel (by go_grown), H1.bel (by go_grown), Pi0.bel (by go_grown), Pi1.bel (by go_grown), ?_⟩; go_grown; done)
      | (have hS := ‹_ ∧ _ ∧ _ ∧ _ ∧ _ ∧ _ ∧ _ ∧ _ ∧ _ ∧ _ ∧ _›; exact ⟨bel_cell hbR hS.1, bel_cell hbR hS.2.1, hid_blk hS.2.2.1 hbR, bel_cell hbR hS.2.2.2.1, bel_cell hbR hS.2.2.2.2.1, hid_blk hS.2.2.2.2.2.1 hbR, IntsAt.bel hS.2.2.2.2.2.2.1 hbR, IntsAt.bel hS.2.2.2.2.2.2.2.1 hbR, IntsAt.bel hS.2.2.2.2.2.2.2.2.1 hbR, IntsAt.bel hS.2.2.2.2.2.2.2.2.2.1 hbR, bel_next hS.2.2.2.2.2.2.2.2.2.2 hbR⟩))
    (first
      | (go_at_call 21; (with_reducible refine (toRun_any A1 n1 c1 l1 S1 _ (by first | exact (‹_ ∧ _ ∧ _ ∧ _ ∧ _ ∧ _ ∧ _ ∧ _ ∧ _ ∧ _ ∧ _›).2.2.2.2.2.2.2.1 | exact H1.drew | exact H1) HL1.out hs1).mono ?_); rintro e w5 ⟨ge1, rfl, hge1, Re1, hbR⟩)
      | (go_at_call 23; (with_reducible refine (eqRun_any _ _ n1 n1 n1 l1 S1 _ (by first | exact (‹_ ∧ _ ∧ _ ∧ _ ∧ _ ∧ _ ∧ _ ∧ _ ∧ _ ∧ _ ∧ _›).2.2.2.2.2.2.2.2.2.1 | exact Pi1.drew | exact Pi1) (IntsAt.ofBlk Re1.out) HL1.out hs1).mono ?_); rintro e w6 ⟨rfl, hbR⟩))
  clear N1 N1_0 N1_1 N1_s X1 X1_0 X1_1 X1_s H0 H1 Pi0 Pi1 D
  obtain ⟨-, -, N1, -, -, X1, H0, H1, Pi0, Pi1, D⟩ := ‹_ ∧ _ ∧ _ ∧ _ ∧ _ ∧ _ ∧ _ ∧ _ ∧ _ ∧ _ ∧ _›
  go_wp2_with fail
  go_ret
  exact ⟨rfl, D⟩

end Go.Proofs.Ytedjpbmgldbhkaa
