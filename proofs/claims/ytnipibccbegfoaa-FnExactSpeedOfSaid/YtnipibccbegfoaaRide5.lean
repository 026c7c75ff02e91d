/-
  CONTRACTS of CatchUp.
-/
import Derived.Test.YtnipibccbegfoaaRide3
namespace Go.Proofs.Ytnipibccbegfoaa
open Go.RowKit

theorem catch_bd {t a b : Int} (t0 : 0 ≤ t) (t1 : t ≤ 20001) (a0 : 0 ≤ a) (a1 : a ≤ 10000) (b0 : 0 ≤ b) (b1 : b ≤ 1000) :
    0 ≤ t * a ∧ t * a ≤ 200010000 ∧ 0 ≤ t * a * b ∧ t * a * b ≤ 200010000000 := by
  have h1 := mul_bd t0 t1 a0 a1
  have h2 := mul_bd h1.1 h1.2 b0 b1
  exact ⟨h1.1, by omega, h2.1, by omega⟩

set_option maxHeartbeats 2000000 in
theorem specCatchUp_yes (L W P B W' P' B' later : Int) (w : World) (v1 : vr L W P B = true) (v2 : vr L W' P' B' = true) (hi : inB later 0 10000 = true) :
    Calls Try.prog 22 #[.agg #[.int .i64 L, .int .i64 W, .int .i64 P, .int .i64 B], .agg #[.int .i64 L, .int .i64 W', .int .i64 P', .int .i64 B'], .int .i64 later] w
      (Ret w (.tuple #[.int .i64 (found (find (caught P (drag W B) P' (drag W' B') later) (tk L (drag W B) (100 * P) - later).toNat later)).1, .int .i64 (found (find (caught P (drag W B) P' (drag W' B') later) (tk L (drag W B) (100 * P) - later).toNat later)).2])) := by
  have V := Lib.hid (vr_true v1)
  have V' := Lib.hid (vr_true v2)
  have hin := inB_true hi
  have hD := drag_bd V.out.w0 V.out.w1 V.out.b0 V.out.b1
  have hD' := drag_bd V'.out.w0 V'.out.w1 V'.out.b0 V'.out.b1
  have hN : 100 ≤ 100 * P ∧ 100 * P ≤ 10000 := by have := V.out.p0; have := V.out.p1; omega
  have hN' : 100 ≤ 100 * P' ∧ 100 * P' ≤ 10000 := by have := V'.out.p0; have := V'.out.p1; omega
  have hT := tk_bd V.out.l0 V.out.l1 hD.1 hD.2 hN.1 hN.2
  have hb : (L != L) = false := by simp
  go_enter Try.func22, Try.ntmps22
  go_wp2_with (first
    | (go_at_call 46; ((with_reducible refine (l03Ok_any w.heap.size 0 L W P B _ ⟨by go_cell, by go_cell, by go_cell, by go_cell⟩).mono ?_); rintro e w' ⟨rfl, rfl⟩))
    | (go_at_call 46; ((with_reducible refine (l03Ok_any (w.heap.size + 1) 0 L W' P' B' _ ⟨by go_cell, by go_cell, by go_cell, by go_cell⟩).mono ?_); rintro e w' ⟨rfl, rfl⟩))
    | (go_at_call 52; refine (l00In_any _ _ _ _).mono ?_; rintro e w' ⟨rfl, rfl⟩)
    | (go_at_call 50; refine (l03Ticks_any _ 0 L W P B _ ⟨by go_cell, by go_cell, by go_cell, by go_cell⟩ V.out).mono ?_; rintro e w' ⟨rfl, n, rfl⟩))
  clear v1 v2 hi
  go_loopw [9] (fun u w' => ∃ t : Int, u = .int .i64 t ∧ later ≤ t ∧ (t ≤ tk L (drag W B) (100 * P) ∨ t = later) ∧
      Hid (find (caught P (drag W B) P' (drag W' B') later) (tk L (drag W B) (100 * P) - later).toNat later = find (caught P (drag W B) P' (drag W' B') later) (tk L (drag W B) (100 * P) - t).toNat t) ∧
      Hid (Blk w' w.heap.size 26 #[.int .i64 L, .int .i64 W, .int .i64 P, .int .i64 B]) ∧ Hid (Blk w' (w.heap.size + 1) 26 #[.int .i64 L, .int .i64 W', .int .i64 P', .int .i64 B']) ∧ Below w.heap.size w w')
    (fun u _ => (tk L (drag W B) (100 * P) - intOf u).toNat)
  case atStart => exact ⟨later, rfl, by omega, Or.inr rfl, rfl, Blk.drewN ((Blk.new _ _ _).alloc _) _, Blk.drewN (Blk.newAt (by simp)) _, by go_grown <;> refine below_drewN ?_ _ <;> go_grown⟩
  case round =>
    obtain ⟨t, rfl, t0, -, HF, HB, HB', hbel⟩ := hrel
    obtain ⟨c0, c1, c2, c3, -⟩ := HB.out.c4
    obtain ⟨d0, d1, d2, d3, -⟩ := HB'.out.c4
    by_cases ht : t < tk L (drag W B) (100 * P)
    · have m1 := catch_bd (t := t) (a := 100 * P) (b := drag W' B') (by omega) (by omega) (by omega) (by omega) (by omega) (by omega)
      have m2 := catch_bd (t := t - later) (a := 100 * P') (b := drag W B) (by omega) (by omega) (by omega) (by omega) (by omega) (by omega)
      have e1 : (tk L (drag W B) (100 * P) - t).toNat = (tk L (drag W B) (100 * P) - (t + 1)).toNat + 1 := by omega
      cases hc : decide (t * (100 * P) * drag W' B' ≤ (t - later) * (100 * P') * drag W B)
      · have HS : Hid (find (caught P (drag W B) P' (drag W' B') later) (tk L (drag W B) (100 * P) - later).toNat later = find (caught P (drag W B) P' (drag W' B') later) (tk L (drag W B) (100 * P) - (t + 1)).toNat (t + 1)) := by
          show _ = _; rw [HF.out, e1]; exact find_no (by rw [← caught_eq]; exact hc)
        clear e1
        go_wp2_with (first
          | (go_at_call 53; ((with_reducible refine (l03Num_any w.heap.size 0 L W P B _ (RideAt.drewN (RideAt.ofBlk HB.out) _) V.out.p0 V.out.p1).mono ?_); rintro e w' ⟨rfl, rfl⟩))
          | (go_at_call 53; ((with_reducible refine (l03Num_any w.heap.size 0 L W P B _ (RideAt.ofBlk HB.out) V.out.p0 V.out.p1).mono ?_); rintro e w' ⟨rfl, rfl⟩))
          | (go_at_call 53; ((with_reducible refine (l03Num_any (w.heap.size + 1) 0 L W' P' B' _ (RideAt.drewN (RideAt.ofBlk HB'.out) _) V'.out.p0 V'.out.p1).mono ?_); rintro e w' ⟨rfl, rfl⟩))
          | (go_at_call 54; ((with_reducible refine (l03Den_any w.heap.size 0 L W P B _ (RideAt.drewN (RideAt.ofBlk HB.out) _) V.out).mono ?_); rintro e w' ⟨rfl, n1, rfl⟩))
          | (go_at_call 54; ((with_reducible refine (l03Den_any (w.heap.size + 1) 0 L W' P' B' _ (RideAt.ofBlk HB'.out) V'.out).mono ?_); rintro e w' ⟨rfl, n2, rfl⟩)))
        go_roundw
        case rel => exact ⟨t + 1, rfl, by omega, by omega, HS, Blk.drewN HB.out _, Blk.drewN HB'.out _, below_drewN hbel _⟩
        case measure => simp [intOf]; omega
      · have HS : Hid (find (caught P (drag W B) P' (drag W' B') later) (tk L (drag W B) (100 * P) - later).toNat later = some t) := by
          show _ = _; rw [HF.out, e1]; exact find_yes (by rw [← caught_eq]; exact hc)
        clear e1
        go_wp2_with (first
          | (go_at_call 53; ((with_reducible refine (l03Num_any w.heap.size 0 L W P B _ (RideAt.drewN (RideAt.ofBlk HB.out) _) V.out.p0 V.out.p1).mono ?_); rintro e w' ⟨rfl, rfl⟩))
          | (go_at_call 53; ((with_reducible refine (l03Num_any w.heap.size 0 L W P B _ (RideAt.ofBlk HB.out) V.out.p0 V.out.p1).mono ?_); rintro e w' ⟨rfl, rfl⟩))
          | (go_at_call 53; ((with_reducible refine (l03Num_any (w.heap.size + 1) 0 L W' P' B' _ (RideAt.drewN (RideAt.ofBlk HB'.out) _) V'.out.p0 V'.out.p1).mono ?_); rintro e w' ⟨rfl, rfl⟩))
          | (go_at_call 54; ((with_reducible refine (l03Den_any w.heap.size 0 L W P B _ (RideAt.drewN (RideAt.ofBlk HB.out) _) V.out).mono ?_); rintro e w' ⟨rfl, n1, rfl⟩))
          | (go_at_call 54; ((with_reducible refine (l03Den_any (w.heap.size + 1) 0 L W' P' B' _ (RideAt.ofBlk HB'.out) V'.out).mono ?_); rintro e w' ⟨rfl, n2, rfl⟩)))
        go_ret2
        exact ⟨by rw [HS.out]; rfl, below_drewN hbel _⟩
    · have HS : Hid (find (caught P (drag W B) P' (drag W' B') later) (tk L (drag W B) (100 * P) - later).toNat later = none) := by
        show _ = _; rw [HF.out, show (tk L (drag W B) (100 * P) - t).toNat = 0 by omega]; rfl
      go_wp2
      go_ret2
      exact ⟨by rw [HS.out]; rfl, hbel⟩

/-- The ways on which nothing is sought. -/
theorem specCatchUp_v1 (L W P B L' W' P' B' later : Int) (w : World) (v1 : vr L W P B = false) :
    Calls Try.prog 22 #[.agg #[.int .i64 L, .int .i64 W, .int .i64 P, .int .i64 B], .agg #[.int .i64 L', .int .i64 W', .int .i64 P', .int .i64 B'], .int .i64 later] w (Ret w (.tuple #[.int .i64 0, .int .i64 1])) := by
  go_enter Try.func22, Try.ntmps22
  go_wp2_with (first
    | (go_at_call 46; ((with_reducible refine (l03Ok_any w.heap.size 0 L W P B _ ⟨by go_cell, by go_cell, by go_cell, by go_cell⟩).mono ?_); rintro e w' ⟨rfl, rfl⟩)))
  go_ret2
  exact ⟨rfl, by go_grown⟩
theorem specCatchUp_v2 (L W P B L' W' P' B' later : Int) (w : World) (v1 : vr L W P B = true) (v2 : vr L' W' P' B' = false) :
    Calls Try.prog 22 #[.agg #[.int .i64 L, .int .i64 W, .int .i64 P, .int .i64 B], .agg #[.int .i64 L', .int .i64 W', .int .i64 P', .int .i64 B'], .int .i64 later] w (Ret w (.tuple #[.int .i64 0, .int .i64 1])) := by
  go_enter Try.func22, Try.ntmps22
  go_wp2_with (first
    | (go_at_call 46; ((with_reducible refine (l03Ok_any w.heap.size 0 L W P B _ ⟨by go_cell, by go_cell, by go_cell, by go_cell⟩).mono ?_); rintro e w' ⟨rfl, rfl⟩))
    | (go_at_call 46; ((with_reducible refine (l03Ok_any (w.heap.size + 1) 0 L' W' P' B' _ ⟨by go_cell, by go_cell, by go_cell, by go_cell⟩).mono ?_); rintro e w' ⟨rfl, rfl⟩)))
  go_ret2
  exact ⟨rfl, by go_grown⟩
theorem specCatchUp_in (L W P B L' W' P' B' later : Int) (w : World) (v1 : vr L W P B = true) (v2 : vr L' W' P' B' = true) (hi : inB later 0 10000 = false) :
    Calls Try.prog 22 #[.agg #[.int .i64 L, .int .i64 W, .int .i64 P, .int .i64 B], .agg #[.int .i64 L', .int .i64 W', .int .i64 P', .int .i64 B'], .int .i64 later] w (Ret w (.tuple #[.int .i64 0, .int .i64 2])) := by
  go_enter Try.func22, Try.ntmps22
  go_wp2_with (first
    | (go_at_call 46; ((with_reducible refine (l03Ok_any w.heap.size 0 L W P B _ ⟨by go_cell, by go_cell, by go_cell, by go_cell⟩).mono ?_); rintro e w' ⟨rfl, rfl⟩))
    | (go_at_call 46; ((with_reducible refine (l03Ok_any (w.heap.size + 1) 0 L' W' P' B' _ ⟨by go_cell, by go_cell, by go_cell, by go_cell⟩).mono ?_); rintro e w' ⟨rfl, rfl⟩))
    | (go_at_call 52; refine (l00In_any _ _ _ _).mono ?_; rintro e w' ⟨rfl, rfl⟩))
  go_ret2
  exact ⟨rfl, by go_grown⟩
theorem specCatchUp_len (L W P B L' W' P' B' later : Int) (w : World) (v1 : vr L W P B = true) (v2 : vr L' W' P' B' = true) (hi : inB later 0 10000 = true) (hl : L ≠ L') :
    Calls Try.prog 22 #[.agg #[.int .i64 L, .int .i64 W, .int .i64 P, .int .i64 B], .agg #[.int .i64 L', .int .i64 W', .int .i64 P', .int .i64 B'], .int .i64 later] w (Ret w (.tuple #[.int .i64 0, .int .i64 8])) := by
  have hb : (L != L') = true := by simpa using hl
  go_enter Try.func22, Try.ntmps22
  go_wp2_with (first
    | (go_at_call 46; ((with_reducible refine (l03Ok_any w.heap.size 0 L W P B _ ⟨by go_cell, by go_cell, by go_cell, by go_cell⟩).mono ?_); rintro e w' ⟨rfl, rfl⟩))
    | (go_at_call 46; ((with_reducible refine (l03Ok_any (w.heap.size + 1) 0 L' W' P' B' _ ⟨by go_cell, by go_cell, by go_cell, by go_cell⟩).mono ?_); rintro e w' ⟨rfl, rfl⟩))
    | (go_at_call 52; refine (l00In_any _ _ _ _).mono ?_; rintro e w' ⟨rfl, rfl⟩))
  go_ret2
  exact ⟨rfl, by go_grown⟩

theorem specCatchUp_any (L W P B L' W' P' B' later : Int) (w : World) :
    Calls Try.prog 22 #[.agg #[.int .i64 L, .int .i64 W, .int .i64 P, .int .i64 B], .agg #[.int .i64 L', .int .i64 W', .int .i64 P', .int .i64 B'], .int .i64 later] w
      (Ret w (.tuple #[.int .i64 (catchUp L W P B L' W' P' B' later).1, .int .i64 (catchUp L W P B L' W' P' B' later).2])) := by
  cases v1 : vr L W P B
  · rw [show catchUp L W P B L' W' P' B' later = (0, 1) by simp [catchUp, v1]]; exact specCatchUp_v1 L W P B L' W' P' B' later w v1
  · cases v2 : vr L' W' P' B'
    · rw [show catchUp L W P B L' W' P' B' later = (0, 1) by simp [catchUp, v2]]; exact specCatchUp_v2 L W P B L' W' P' B' later w v1 v2
    · cases hi : inB later 0 10000
      · rw [show catchUp L W P B L' W' P' B' later = (0, 2) by simp [catchUp, v1, v2, hi]]; exact specCatchUp_in L W P B L' W' P' B' later w v1 v2 hi
      · by_cases hl : L = L'
        · subst hl
          rw [show catchUp L W P B L W' P' B' later = found (find (caught P (drag W B) P' (drag W' B') later) (tk L (drag W B) (100 * P) - later).toNat later) by simp [catchUp, v1, v2, hi]]
          exact specCatchUp_yes L W P B W' P' B' later w v1 v2 hi
        · rw [show catchUp L W P B L' W' P' B' later = (0, 8) by simp [catchUp, v1, v2, hi, hl]]; exact specCatchUp_len L W P B L' W' P' B' later w v1 v2 hi hl

end Go.Proofs.Ytnipibccbegfoaa
