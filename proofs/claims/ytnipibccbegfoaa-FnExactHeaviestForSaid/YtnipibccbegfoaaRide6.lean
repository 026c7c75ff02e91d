/-
  CONTRACTS of the program's own CatchUp.
-/
import Derived.Test.YtnipibccbegfoaaRide5
namespace Go.Proofs.Ytnipibccbegfoaa
open Go.RowKit

theorem RideAt.z {w : World} {b : Nat} {L W P B : Int} (h : RideAt w b 0 L W P B) : w.cell? ⟨b, 0, none⟩ = some (.int .i64 L) ∧ w.cell? ⟨b, 1, none⟩ = some (.int .i64 W) ∧ w.cell? ⟨b, 2, none⟩ = some (.int .i64 P) ∧ w.cell? ⟨b, 3, none⟩ = some (.int .i64 B) :=
  ⟨h.c0, h.c1, h.c2, h.c3⟩
theorem RideAt.bel {w w' : World} {b o : Nat} {L W P B : Int} (h : RideAt w b o L W P B) (hb : Below w.heap.size w w') : RideAt w' b o L W P B :=
  ⟨bel_cell hb h.c0, bel_cell hb h.c1, bel_cell hb h.c2, bel_cell hb h.c3⟩

set_option maxHeartbeats 4000000 in
theorem implCatchUp_yes (L W P B W' P' B' later : Int) (w : World) (v1 : vr L W P B = true) (v2 : vr L W' P' B' = true) (hi : inB later 0 10000 = true) :
    Calls Try.prog 23 #[.agg #[.int .i64 L, .int .i64 W, .int .i64 P, .int .i64 B], .agg #[.int .i64 L, .int .i64 W', .int .i64 P', .int .i64 B'], .int .i64 later] w
      (Ret w (.tuple #[.int .i64 (found (find (caught P (drag W B) P' (drag W' B') later) (tk L (drag W B) (100 * P) - later).toNat later)).1, .int .i64 (found (find (caught P (drag W B) P' (drag W' B') later) (tk L (drag W B) (100 * P) - later).toNat later)).2])) := by
  have V := Lib.hid (vr_true v1)
  have V' := Lib.hid (vr_true v2)
  have hin := inB_true hi
  have hD := drag_bd V.out.w0 V.out.w1 V.out.b0 V.out.b1
  have hD' := drag_bd V'.out.w0 V'.out.w1 V'.out.b0 V'.out.b1
  have hP := And.intro V.out.p0 V.out.p1
  have hP' := And.intro V'.out.p0 V'.out.p1
  have hT := tk_bd (N := 100 * P) V.out.l0 V.out.l1 hD.1 hD.2 (by omega) (by omega)
  have hb : (L != L) = false := by simp
  go_enter Try.func23, Try.ntmps23
  go_wp2_with fail
  refine (implValidRide_any L W P B _).mono ?_
  rintro e w1 ⟨rfl, hb1⟩
  have X1 : Hid (Blk w1 w.heap.size 26 #[.int .i64 L, .int .i64 W, .int .i64 P, .int .i64 B]) := ((Blk.new _ _ _).alloc _).below hb1 (by simp; omega)
  have Y1 : Hid (Blk w1 (w.heap.size + 1) 26 #[.int .i64 L, .int .i64 W', .int .i64 P', .int .i64 B']) := (Blk.newAt (by simp)).below hb1 (by simp)
  have D1 : Hid (Below w.heap.size w w1) := (((Below.refl _ _).alloc (Nat.le_refl _) _).alloc (by simp) _).trans (hb1.mono (by simp; omega))
  clear hb1
  obtain ⟨c0, c1, c2, c3, -⟩ := Y1.out.c4
  go_wp2_with fail
  refine (implValidRide_any L W' P' B' _).mono ?_
  rintro e w2 ⟨rfl, hb2⟩
  have X2 : Hid (Blk w2 w.heap.size 26 #[.int .i64 L, .int .i64 W, .int .i64 P, .int .i64 B]) := X1.out.below hb2 X1.out.lt
  have Y2 : Hid (Blk w2 (w.heap.size + 1) 26 #[.int .i64 L, .int .i64 W', .int .i64 P', .int .i64 B']) := Y1.out.below hb2 Y1.out.lt
  have D2 : Hid (Below w.heap.size w w2) := D1.out.trans (hb2.mono (by have := X1.out.lt; omega))
  clear hb2 c0 c1 c2 c3 X1 Y1 D1
  obtain ⟨c0, c1, c2, c3, -⟩ := X2.out.c4
  obtain ⟨d0, d1, d2, d3, -⟩ := Y2.out.c4
  go_wp2_with (go_at_call 47; refine (within_any _ _ _ _).mono ?_; rintro e w' ⟨rfl, rfl⟩)
  clear v1 v2 hi c0 c1 c2 c3 d0 d1 d2 d3
  go_loopw [8] (fun u w' => ∃ t : Int, u = .int .i64 t ∧ later ≤ t ∧ 
      Hid (find (caught P (drag W B) P' (drag W' B') later) (tk L (drag W B) (100 * P) - later).toNat later = find (caught P (drag W B) P' (drag W' B') later) (tk L (drag W B) (100 * P) - t).toNat t) ∧
      RideAt w' w.heap.size 0 L W P B ∧ RideAt w' (w.heap.size + 1) 0 L W' P' B' ∧ Below w.heap.size w w')
    (fun u _ => (tk L (drag W B) (100 * P) - intOf u).toNat)
  case atStart => exact ⟨later, rfl, by omega, rfl, RideAt.ofBlk X2.out, RideAt.ofBlk Y2.out, D2.out⟩
  case round =>
    obtain ⟨t, rfl, t0, HF, HB, HB', hbel⟩ := hrel
    clear X2 Y2 D2
    obtain ⟨c0, c1, c2, c3⟩ := HB.z
    go_wp2_with fail
    refine (ticks_any L W P B _ V.out).mono ?_
    rintro e w3 ⟨rfl, hb3⟩
    have X3 := HB.bel hb3
    have Y3 := HB'.bel hb3
    have B3 := bel_next hbel hb3
    clear hb3 HB HB' hbel c0 c1 c2 c3
    obtain ⟨c0, c1, c2, c3⟩ := X3.z
    obtain ⟨d0, d1, d2, d3⟩ := Y3.z
    by_cases ht : t < tk L (drag W B) (100 * P)
    · have m1 := catch_bd (t := t) (a := P) (b := drag W' B') (by omega) (by omega) (by omega) (by omega) (by omega) (by omega)
      have m2 := catch_bd (t := t - later) (a := P') (b := drag W B) (by omega) (by omega) (by omega) (by omega) (by omega) (by omega)
      rw [Int.mul_comm t P] at m1
      rw [Int.mul_comm (t - later) P'] at m2
      have e1 : (tk L (drag W B) (100 * P) - t).toNat = (tk L (drag W B) (100 * P) - (t + 1)).toNat + 1 := by omega
      have r1 : IntKind.i64.wrap (t - later) = t - later := IntWalk.i64_in _ (by omega)
      have r2 : IntKind.i64.wrap (P' * (t - later)) = P' * (t - later) := IntWalk.i64_in _ (by omega)
      have r3 : IntKind.i64.wrap (P' * (t - later) * drag W B) = P' * (t - later) * drag W B := IntWalk.i64_in _ (by omega)
      have r4 : IntKind.i64.wrap (P * t) = P * t := IntWalk.i64_in _ (by omega)
      have r5 : IntKind.i64.wrap (P * t * drag W' B') = P * t * drag W' B' := IntWalk.i64_in _ (by omega)
      cases hc : decide (P * t * drag W' B' ≤ P' * (t - later) * drag W B)
      · have HS : Hid (find (caught P (drag W B) P' (drag W' B') later) (tk L (drag W B) (100 * P) - later).toNat later = find (caught P (drag W B) P' (drag W' B') later) (tk L (drag W B) (100 * P) - (t + 1)).toNat (t + 1)) := by
          show _ = _; rw [HF.out, e1]; exact find_no hc
        clear e1
        go_wp2_with fail
        go_region_held3 (fun w' => w'.cell? ⟨w.heap.size, 0, none⟩ = some (.int .i64 L) ∧ w'.cell? ⟨w.heap.size, 1, none⟩ = some (.int .i64 W) ∧ w'.cell? ⟨w.heap.size, 2, none⟩ = some (.int .i64 P) ∧ w'.cell? ⟨w.heap.size, 3, none⟩ = some (.int .i64 B) ∧
            w'.cell? ⟨w.heap.size + 1, 0, none⟩ = some (.int .i64 L) ∧ w'.cell? ⟨w.heap.size + 1, 1, none⟩ = some (.int .i64 W') ∧ w'.cell? ⟨w.heap.size + 1, 2, none⟩ = some (.int .i64 P') ∧ w'.cell? ⟨w.heap.size + 1, 3, none⟩ = some (.int .i64 B') ∧
            Below w.heap.size w w')
          (first
            | (refine ⟨c0, c1, c2, c3, d0, d1, d2, d3, ?_⟩; go_grown; done)
            | (go_split_ands; refine ⟨?_, ?_, ?_, ?_, ?_, ?_, ?_, ?_, ?_⟩ <;> first | exact bel_cell hb4 (by assumption) | exact bel_next (by assumption) hb4))
          (first
            | (go_at_call 55; ((with_reducible refine (drag_any L W P B _ V.out).mono ?_); rintro e w4 ⟨rfl, hb4⟩))
            | (go_at_call 55; ((with_reducible refine (drag_any L W' P' B' _ V'.out).mono ?_); rintro e w4 ⟨rfl, hb4⟩)))
        obtain ⟨x0, x1, x2, x3, y0, y1, y2, y3, D4⟩ := ‹_ ∧ _ ∧ _ ∧ _ ∧ _ ∧ _ ∧ _ ∧ _ ∧ _›
        go_wp2_with fail
        go_roundw
        case rel => exact ⟨t + 1, rfl, by omega, HS, ⟨x0, x1, x2, x3⟩, ⟨y0, y1, y2, y3⟩, D4⟩
        case measure => simp [intOf]; omega
      · have HS : Hid (find (caught P (drag W B) P' (drag W' B') later) (tk L (drag W B) (100 * P) - later).toNat later = some t) := by
          show _ = _; rw [HF.out, e1]; exact find_yes hc
        clear e1
        go_wp2_with fail
        go_region_held3 (fun w' => w'.cell? ⟨w.heap.size, 0, none⟩ = some (.int .i64 L) ∧ w'.cell? ⟨w.heap.size, 1, none⟩ = some (.int .i64 W) ∧ w'.cell? ⟨w.heap.size, 2, none⟩ = some (.int .i64 P) ∧ w'.cell? ⟨w.heap.size, 3, none⟩ = some (.int .i64 B) ∧
            w'.cell? ⟨w.heap.size + 1, 0, none⟩ = some (.int .i64 L) ∧ w'.cell? ⟨w.heap.size + 1, 1, none⟩ = some (.int .i64 W') ∧ w'.cell? ⟨w.heap.size + 1, 2, none⟩ = some (.int .i64 P') ∧ w'.cell? ⟨w.heap.size + 1, 3, none⟩ = some (.int .i64 B') ∧
            Below w.heap.size w w')
          (first
            | (refine ⟨c0, c1, c2, c3, d0, d1, d2, d3, ?_⟩; go_grown; done)
            | (go_split_ands; refine ⟨?_, ?_, ?_, ?_, ?_, ?_, ?_, ?_, ?_⟩ <;> first | exact bel_cell hb4 (by assumption) | exact bel_next (by assumption) hb4))
          (first
            | (go_at_call 55; ((with_reducible refine (drag_any L W P B _ V.out).mono ?_); rintro e w4 ⟨rfl, hb4⟩))
            | (go_at_call 55; ((with_reducible refine (drag_any L W' P' B' _ V'.out).mono ?_); rintro e w4 ⟨rfl, hb4⟩)))
        obtain ⟨x0, x1, x2, x3, y0, y1, y2, y3, D4⟩ := ‹_ ∧ _ ∧ _ ∧ _ ∧ _ ∧ _ ∧ _ ∧ _ ∧ _›
        go_wp2_with fail
        go_ret2
        exact ⟨by rw [HS.out]; rfl, D4⟩
    · have HS : Hid (find (caught P (drag W B) P' (drag W' B') later) (tk L (drag W B) (100 * P) - later).toNat later = none) := by
        show _ = _; rw [HF.out, show (tk L (drag W B) (100 * P) - t).toNat = 0 by omega]; rfl
      go_wp2_with fail
      go_ret2
      exact ⟨by rw [HS.out]; rfl, B3⟩

theorem implCatchUp_v1 (L W P B L' W' P' B' later : Int) (w : World) (v1 : vr L W P B = false) :
    Calls Try.prog 23 #[.agg #[.int .i64 L, .int .i64 W, .int .i64 P, .int .i64 B], .agg #[.int .i64 L', .int .i64 W', .int .i64 P', .int .i64 B'], .int .i64 later] w (Ret w (.tuple #[.int .i64 0, .int .i64 1])) := by
  go_enter Try.func23, Try.ntmps23
  go_wp2_with fail
  refine (implValidRide_any L W P B _).mono ?_
  rintro e w1 ⟨rfl, hb1⟩
  go_wp2_with fail
  go_ret2
  exact ⟨rfl, (((Below.refl _ _).alloc (Nat.le_refl _) _).alloc (by simp) _).trans (hb1.mono (by simp; omega))⟩

/-- The other ways on which nothing is sought. -/
theorem implCatchUp_no (L W P B L' W' P' B' later : Int) (w : World) (v1 : vr L W P B = true) (v2 : vr L' W' P' B' = false ∨ (vr L' W' P' B' = true ∧ (inB later 0 10000 = false ∨ (inB later 0 10000 = true ∧ L ≠ L')))) :
    Calls Try.prog 23 #[.agg #[.int .i64 L, .int .i64 W, .int .i64 P, .int .i64 B], .agg #[.int .i64 L', .int .i64 W', .int .i64 P', .int .i64 B'], .int .i64 later] w
      (Ret w (.tuple #[.int .i64 0, .int .i64 (if vr L' W' P' B' then (if inB later 0 10000 then 8 else 2) else 1)])) := by
  rcases v2 with v2 | ⟨v2, hi | ⟨hi, hl⟩⟩
  · rw [v2]
    go_enter Try.func23, Try.ntmps23
    go_wp2_with fail
    refine (implValidRide_any L W P B _).mono ?_
    rintro e w1 ⟨rfl, hb1⟩
    have X1 : Hid (Blk w1 w.heap.size 26 #[.int .i64 L, .int .i64 W, .int .i64 P, .int .i64 B]) := ((Blk.new _ _ _).alloc _).below hb1 (by simp; omega)
    have Y1 : Hid (Blk w1 (w.heap.size + 1) 26 #[.int .i64 L', .int .i64 W', .int .i64 P', .int .i64 B']) := (Blk.newAt (by simp)).below hb1 (by simp)
    have D1 : Below w.heap.size w w1 := (((Below.refl _ _).alloc (Nat.le_refl _) _).alloc (by simp) _).trans (hb1.mono (by simp; omega))
    clear hb1
    obtain ⟨c0, c1, c2, c3, -⟩ := Y1.out.c4
    go_wp2_with fail
    refine (implValidRide_any L' W' P' B' _).mono ?_
    rintro e w2 ⟨rfl, hb2⟩
    have D2 := bel_next D1 hb2
    have X2 := hid_blk X1 hb2
    have Y2 := hid_blk Y1 hb2
    obtain ⟨x0, x1, x2, x3, -⟩ := X2.out.c4
    obtain ⟨y0, y1, y2, y3, -⟩ := Y2.out.c4
    clear hb2
    go_wp2_with (go_at_call 47; refine (within_any _ _ _ _).mono ?_; rintro e w' ⟨rfl, rfl⟩)
    go_ret2
    exact ⟨by simp, D2⟩
  · rw [v2]
    rw [hi]
    go_enter Try.func23, Try.ntmps23
    go_wp2_with fail
    refine (implValidRide_any L W P B _).mono ?_
    rintro e w1 ⟨rfl, hb1⟩
    have X1 : Hid (Blk w1 w.heap.size 26 #[.int .i64 L, .int .i64 W, .int .i64 P, .int .i64 B]) := ((Blk.new _ _ _).alloc _).below hb1 (by simp; omega)
    have Y1 : Hid (Blk w1 (w.heap.size + 1) 26 #[.int .i64 L', .int .i64 W', .int .i64 P', .int .i64 B']) := (Blk.newAt (by simp)).below hb1 (by simp)
    have D1 : Below w.heap.size w w1 := (((Below.refl _ _).alloc (Nat.le_refl _) _).alloc (by simp) _).trans (hb1.mono (by simp; omega))
    clear hb1
    obtain ⟨c0, c1, c2, c3, -⟩ := Y1.out.c4
    go_wp2_with fail
    refine (implValidRide_any L' W' P' B' _).mono ?_
    rintro e w2 ⟨rfl, hb2⟩
    have D2 := bel_next D1 hb2
    have X2 := hid_blk X1 hb2
    have Y2 := hid_blk Y1 hb2
    obtain ⟨x0, x1, x2, x3, -⟩ := X2.out.c4
    obtain ⟨y0, y1, y2, y3, -⟩ := Y2.out.c4
    clear hb2
    go_wp2_with (go_at_call 47; refine (within_any _ _ _ _).mono ?_; rintro e w' ⟨rfl, rfl⟩)
    go_ret2
    exact ⟨by simp, D2⟩
  · have hb : (L != L') = true := by simpa using hl
    rw [v2]
    rw [hi]
    go_enter Try.func23, Try.ntmps23
    go_wp2_with fail
    refine (implValidRide_any L W P B _).mono ?_
    rintro e w1 ⟨rfl, hb1⟩
    have X1 : Hid (Blk w1 w.heap.size 26 #[.int .i64 L, .int .i64 W, .int .i64 P, .int .i64 B]) := ((Blk.new _ _ _).alloc _).below hb1 (by simp; omega)
    have Y1 : Hid (Blk w1 (w.heap.size + 1) 26 #[.int .i64 L', .int .i64 W', .int .i64 P', .int .i64 B']) := (Blk.newAt (by simp)).below hb1 (by simp)
    have D1 : Below w.heap.size w w1 := (((Below.refl _ _).alloc (Nat.le_refl _) _).alloc (by simp) _).trans (hb1.mono (by simp; omega))
    clear hb1
    obtain ⟨c0, c1, c2, c3, -⟩ := Y1.out.c4
    go_wp2_with fail
    refine (implValidRide_any L' W' P' B' _).mono ?_
    rintro e w2 ⟨rfl, hb2⟩
    have D2 := bel_next D1 hb2
    have X2 := hid_blk X1 hb2
    have Y2 := hid_blk Y1 hb2
    obtain ⟨x0, x1, x2, x3, -⟩ := X2.out.c4
    obtain ⟨y0, y1, y2, y3, -⟩ := Y2.out.c4
    clear hb2
    go_wp2_with (go_at_call 47; refine (within_any _ _ _ _).mono ?_; rintro e w' ⟨rfl, rfl⟩)
    go_ret2
    exact ⟨by simp, D2⟩

theorem implCatchUp_any (L W P B L' W' P' B' later : Int) (w : World) :
    Calls Try.prog 23 #[.agg #[.int .i64 L, .int .i64 W, .int .i64 P, .int .i64 B], .agg #[.int .i64 L', .int .i64 W', .int .i64 P', .int .i64 B'], .int .i64 later] w
      (Ret w (.tuple #[.int .i64 (catchUp L W P B L' W' P' B' later).1, .int .i64 (catchUp L W P B L' W' P' B' later).2])) := by
  cases v1 : vr L W P B
  · rw [show catchUp L W P B L' W' P' B' later = (0, 1) by simp [catchUp, v1]]; exact implCatchUp_v1 L W P B L' W' P' B' later w v1
  · cases v2 : vr L' W' P' B'
    · rw [show catchUp L W P B L' W' P' B' later = (0, 1) by simp [catchUp, v2]]; simpa [v2] using implCatchUp_no L W P B L' W' P' B' later w v1 (.inl v2)
    · cases hi : inB later 0 10000
      · rw [show catchUp L W P B L' W' P' B' later = (0, 2) by simp [catchUp, v1, v2, hi]]; simpa [v2, hi] using implCatchUp_no L W P B L' W' P' B' later w v1 (.inr ⟨v2, .inl hi⟩)
      · by_cases hl : L = L'
        · subst hl
          rw [show catchUp L W P B L W' P' B' later = found (find (caught P (drag W B) P' (drag W' B') later) (tk L (drag W B) (100 * P) - later).toNat later) by simp [catchUp, v1, v2, hi]]
          exact implCatchUp_yes L W P B W' P' B' later w v1 v2 hi
        · rw [show catchUp L W P B L' W' P' B' later = (0, 8) by simp [catchUp, v1, v2, hi, hl]]; simpa [v2, hi] using implCatchUp_no L W P B L' W' P' B' later w v1 (.inr ⟨v2, .inr ⟨hi, hl⟩⟩)

end Go.Proofs.Ytnipibccbegfoaa
