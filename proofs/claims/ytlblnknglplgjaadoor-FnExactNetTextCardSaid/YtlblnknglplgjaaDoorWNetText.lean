/-
  THE WALK of the law on NetText (printed by tools/gen_law.py).
-/
import Derived.Test.YtlblnknglplgjaaDoorNetT2
import Derived.Test.YtlblnknglplgjaaDoorTab
import Derived.Test.YtlblnknglplgjaaDoorAid
import Derived.Test.YtlblnknglplgjaaDoorFrameNet
namespace Go.Proofs.YtlblnknglplgjaaDoor
open Go.RowKit

set_option maxHeartbeats 4000000 in
theorem walk_FnExactNetText {w : World} (hL : laidMet Tryd.prog Rows.fnExactNetTextRow.laid w) (S0 : Int) (A0 : Option Addr) (n0 : Nat) (c0 : Nat) (l0 : List Tb) (F0 : NetArg w A0 n0 l0) : Calls Tryd.prog 9 #[.agg #[.int .i64 S0, .slice A0 n0 c0]] w (Ret w (.bool true)) := by
  have HT := Lib.hid (tab_of hL.tail.tail)
  clear hL
  obtain ⟨hl0, H0, hn0⟩ := F0
  have HL0 := Lib.hid hl0.symm
  clear hl0
  go_enter Tryd.func9, Tryd.ntmps9
  go_wp2_with fail
  refine (szNet_any S0 A0 n0 c0 1048576 _ (by omega) (by omega) hn0).mono ?_
  rintro e w1 ⟨rfl, hb⟩
  obtain ⟨z0, Z0⟩ : ∃ z, Hid (szF 1048576 n0 = z) := ⟨_, rfl⟩
  rw [Z0.out]
  have B0 := szF_ok (by omega) (by omega) Z0.out
  have N0 : Hid (Blk w1 (w.heap.size) 49 #[.int .i64 S0, .slice A0 n0 c0]) := bel_blk (Blk.new _ _ _) hb
  replace hb : Below w.heap.size w w1 := Below.trans (by go_grown) (hb.mono (by simp only [World.size_alloc]; omega))
  replace H0 := H0.bel hb
  have D := hb
  clear hb
  clear Z0
  rcases Int.lt_or_le z0 0 with hz0 | hz0
  · go_wp2_with fail
    go_ret
    exact ⟨rfl, D⟩
  obtain ⟨hy0, hs0⟩ := B0 hz0
  clear B0
  obtain ⟨N0_0, N0_1, -⟩ := N0.out.c2
  have N0_s := N0.out.lt
  go_wp2_with fail
  refine (toNet_any S0 A0 n0 c0 l0 _ H0 HL0.out hs0).mono ?_
  rintro e w2 ⟨gs0, rfl, hgs0, Rs0, hb⟩
  have Ps0 := Rs0.tubes
  clear N0_0 N0_1 N0_s
  replace H0 := H0.bel hb
  replace N0 := hid_blk N0 hb
  replace D := bel_next D hb
  clear hb
  clear Rs0 hgs0
  go_wp2_with fail
  refine (specNetText_any S0 _ n0 _ l0 _ Ps0 HL0.out hs0).mono ?_
  rintro e w3 ⟨rfl, hb⟩
  obtain ⟨T, hT⟩ : ∃ T, netTx S0 l0 = T := ⟨_, rfl⟩
  have HX := Lib.hid hT
  rw [hT]
  clear hT
  replace H0 := H0.bel hb
  replace N0 := hid_blk N0 hb
  replace Ps0 := Ps0.bel hb
  replace D := bel_next D hb
  clear hb
  clear Ps0
  obtain ⟨N0_0, N0_1, -⟩ := N0.out.c2
  have N0_s := N0.out.lt
  go_wp2_with fail
  refine (toNet_any S0 A0 n0 c0 l0 _ H0 HL0.out hs0).mono ?_
  rintro e w4 ⟨gi0, rfl, hgi0, Ri0, hb⟩
  have Pi0 := Ri0.tubes
  clear N0_0 N0_1 N0_s
  replace H0 := H0.bel hb
  replace N0 := hid_blk N0 hb
  replace D := bel_next D hb
  clear hb
  clear Ri0 hgi0
  go_wp2_with fail
  refine (implNetText_any S0 _ n0 _ l0 _ (Pi0.alloc _) HL0.out hs0 (HT.out.bel (D.alloc D.size _))).mono ?_
  rintro e w5 ⟨rfl, hb⟩
  rw [HX.out]
  have X0 : Hid (Blk w5 (w4.heap.size) 42 #[.int .i64 S0, .slice (some ⟨gi0, 0, none⟩) n0 n0]) := bel_blk (Blk.new _ _ _) hb
  replace hb : Below w4.heap.size w4 w5 := Below.trans (by go_grown) (hb.mono (by simp only [World.size_alloc]; omega))
  replace H0 := H0.bel hb
  replace N0 := hid_blk N0 hb
  replace Pi0 := Pi0.bel hb
  replace D := bel_next D hb
  clear hb
  go_wp2_with fail
  obtain ⟨N0_0, N0_1, -⟩ := N0.out.c2
  have N0_s := N0.out.lt
  obtain ⟨X0_0, X0_1, -⟩ := X0.out.c2
  have X0_s := X0.out.lt
  go_region_held3 (fun w' => w'.cell? ⟨w.heap.size, 0, none⟩ = some (.int .i64 S0) ∧ w'.cell? ⟨w.heap.size, 1, none⟩ = some (.slice A0 n0 c0) ∧ Hid (Blk w' (w.heap.size) 49 #[.int .i64 S0, .slice A0 n0 c0]) ∧ w'.cell? ⟨w4.heap.size, 0, none⟩ = some (.int .i64 S0) ∧ w'.cell? ⟨w4.heap.size, 1, none⟩ = some (.slice (some ⟨gi0, 0, none⟩) n0 n0) ∧ Hid (Blk w' (w4.heap.size) 42 #[.int .i64 S0, .slice (some ⟨gi0, 0, none⟩) n0 n0]) ∧ TubesAt w' A0 l0 ∧ TubesAt w' (some ⟨gi0, 0, none⟩) l0 ∧ Below w.heap.size w w')
    (first
      | (refine ⟨N0_0, N0_1, hid_blk N0 (by go_grown), X0_0, X0_1, hid_blk X0 (by go_grown), H0.bel (by go_grown), Pi0.bel (by go_grown), ?_⟩; go_grown; done)
      | (have hS := ‹_ ∧ _ ∧ _ ∧ _ ∧ _ ∧ _ ∧ _ ∧ _ ∧ _›; exact ⟨bel_cell hbR hS.1, bel_cell hbR hS.2.1, hid_blk hS.2.2.1 hbR, bel_cell hbR hS.2.2.2.1, bel_cell hbR hS.2.2.2.2.1, hid_blk hS.2.2.2.2.2.1 hbR, TubesAt.bel hS.2.2.2.2.2.2.1 hbR, TubesAt.bel hS.2.2.2.2.2.2.2.1 hbR, bel_next hS.2.2.2.2.2.2.2.2 hbR⟩))
    (first
      | (go_at_call 32; (with_reducible refine (toNet_any S0 A0 n0 c0 l0 _ (by first | exact (‹_ ∧ _ ∧ _ ∧ _ ∧ _ ∧ _ ∧ _ ∧ _ ∧ _›).2.2.2.2.2.2.1 | exact H0.drew | exact H0) HL0.out hs0).mono ?_); rintro e w5 ⟨ge0, rfl, hge0, Re0, hbR⟩)
      | (go_at_call 27; (with_reducible refine (eqNet_any S0 _ _ n0 n0 n0 l0 _ (by first | exact (‹_ ∧ _ ∧ _ ∧ _ ∧ _ ∧ _ ∧ _ ∧ _ ∧ _›).2.2.2.2.2.2.2.1 | exact Pi0.drew | exact Pi0) (Re0.tubes) HL0.out hs0).mono ?_); rintro e w6 ⟨rfl, hbR⟩))
  clear N0 N0_0 N0_1 N0_s X0 X0_0 X0_1 X0_s H0 Pi0 D
  obtain ⟨-, -, N0, -, -, X0, H0, Pi0, D⟩ := ‹_ ∧ _ ∧ _ ∧ _ ∧ _ ∧ _ ∧ _ ∧ _ ∧ _›
  go_wp2_with fail
  go_ret
  exact ⟨rfl, D⟩

end Go.Proofs.YtlblnknglplgjaaDoor
