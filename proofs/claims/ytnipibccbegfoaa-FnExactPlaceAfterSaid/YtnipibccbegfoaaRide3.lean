/-
  CONTRACTS of CatchUp, PressureFor, HeaviestFor.
-/
import Derived.Test.YtnipibccbegfoaaRide
namespace Go.Proofs.Ytnipibccbegfoaa
open Go.RowKit

theorem RideAt.ofBlk {w : World} {g : Nat} {t : TypeId} {L W P B : Int} (h : Blk w g t #[.int .i64 L, .int .i64 W, .int .i64 P, .int .i64 B]) : RideAt w g 0 L W P B :=
  ⟨h.cell 0, h.cell 1, h.cell 2, h.cell 3⟩

theorem l03Goal_any (b o : Nat) (L W P B ticks : Int) (w : World) (h : RideAt w b o L W P B) :
    Calls Try.prog 56 #[.pointer (some ⟨b, o, none⟩), .int .i64 ticks] w (Ret0 w (.int .i64 (goal L W P B ticks))) := by
  cases hv : vr L W P B
  · have E := Lib.hid (show goal L W P B ticks = 1 by simp [goal, hv])
    go_enter Try.func56, Try.ntmps56
    go_wp2_with (go_at_call 46; refine (l03Ok_any b o L W P B _ h).mono ?_; rintro e w' ⟨rfl, rfl⟩)
    go_ret
    exact ⟨ret_int E.out.symm, rfl⟩
  · cases hi : inB ticks 0 1000000
    · have E := Lib.hid (show goal L W P B ticks = 2 by simp [goal, hv, hi])
      go_enter Try.func56, Try.ntmps56
      go_wp2_with (first
        | (go_at_call 46; refine (l03Ok_any b o L W P B _ h).mono ?_; rintro e w' ⟨rfl, rfl⟩)
        | (go_at_call 52; refine (l00In_any _ _ _ _).mono ?_; rintro e w' ⟨rfl, rfl⟩))
      go_ret
      exact ⟨ret_int E.out.symm, rfl⟩
    · have E := Lib.hid (show goal L W P B ticks = 0 by simp [goal, hv, hi])
      go_enter Try.func56, Try.ntmps56
      go_wp2_with (first
        | (go_at_call 46; refine (l03Ok_any b o L W P B _ h).mono ?_; rintro e w' ⟨rfl, rfl⟩)
        | (go_at_call 52; refine (l00In_any _ _ _ _).mono ?_; rintro e w' ⟨rfl, rfl⟩))
      go_ret
      exact ⟨ret_int E.out.symm, rfl⟩

/-- The code of a validity and a number of ticks. -/
theorem ticksCode_any (v : Bool) (ticks : Int) (w : World) : Calls Try.prog 57 #[.bool v, .int .i64 ticks] w (Ret0 w (.int .i64 (if v then (if inB ticks 0 1000000 then 0 else 2) else 1))) := by
  cases v
  · go_enter Try.func57, Try.ntmps57
    go_wp2
    go_ret
    exact ⟨rfl, rfl⟩
  · cases hi : inB ticks 0 1000000
    · go_enter Try.func57, Try.ntmps57
      go_wp2_with (go_at_call 47; refine (within_any _ _ _ _).mono ?_; rintro e w' ⟨rfl, rfl⟩)
      go_ret
      exact ⟨rfl, rfl⟩
    · go_enter Try.func57, Try.ntmps57
      go_wp2_with (go_at_call 47; refine (within_any _ _ _ _).mono ?_; rintro e w' ⟨rfl, rfl⟩)
      go_ret
      exact ⟨rfl, rfl⟩

theorem goal_zero {L W P B ticks : Int} (h : goal L W P B ticks = 0) : VR L W P B ∧ inB ticks 0 1000000 = true := by
  unfold goal at h
  split at h
  · rename_i h1
    split at h
    · exact ⟨vr_true h1, by assumption⟩
    · omega
  · omega

theorem specPressureFor_no (L W P B ticks : Int) (w : World) (h : goal L W P B ticks ≠ 0) :
    Calls Try.prog 26 #[.agg #[.int .i64 L, .int .i64 W, .int .i64 P, .int .i64 B], .int .i64 ticks] w (Ret w (.tuple #[.int .i64 0, .int .i64 (goal L W P B ticks)])) := by
  have hb : (goal L W P B ticks != 0) = true := by simpa using h
  go_enter Try.func26, Try.ntmps26
  go_wp2_with (go_at_call 56; refine (l03Goal_any _ 0 L W P B ticks _ ⟨by go_cell, by go_cell, by go_cell, by go_cell⟩).mono ?_; rintro e w' ⟨rfl, rfl⟩)
  go_ret2
  exact ⟨rfl, by go_grown⟩

set_option maxHeartbeats 1000000 in
theorem specPressureFor_yes (L W P B ticks : Int) (w : World) (h : goal L W P B ticks = 0) :
    Calls Try.prog 26 #[.agg #[.int .i64 L, .int .i64 W, .int .i64 P, .int .i64 B], .int .i64 ticks] w (Ret w (.tuple #[.int .i64 (pressureFor L W P B ticks).1, .int .i64 (pressureFor L W P B ticks).2])) := by
  obtain ⟨V0, hi⟩ := goal_zero h
  have V := Lib.hid V0
  have hin := inB_true hi
  have E := Lib.hid (show pressureFor L W P B ticks = found (find (fun p => decide (tk L (drag W B) (100 * p) ≤ ticks)) 100 1) by simp [pressureFor, h])
  have hb : (goal L W P B ticks != 0) = false := by simpa using h
  clear h hi V0
  go_enter Try.func26, Try.ntmps26
  go_wp2_with (go_at_call 56; refine (l03Goal_any _ 0 L W P B ticks _ ⟨by go_cell, by go_cell, by go_cell, by go_cell⟩).mono ?_; rintro e w' ⟨rfl, rfl⟩)
  go_loopw [7] (fun u w' => ∃ p : Int, u = .int .i64 p ∧ 1 ≤ p ∧ p ≤ 101 ∧ Hid (find (fun p => decide (tk L (drag W B) (100 * p) ≤ ticks)) 100 1 = find (fun p => decide (tk L (drag W B) (100 * p) ≤ ticks)) (101 - p).toNat p) ∧
    Hid (Blk w' w.heap.size 26 #[.int .i64 L, .int .i64 W, .int .i64 P, .int .i64 B]) ∧ Below w.heap.size w w') (fun u _ => (101 - intOf u).toNat)
  case atStart => exact ⟨1, rfl, by omega, by omega, rfl, Blk.new _ _ _, by go_grown⟩
  case round =>
    obtain ⟨p, rfl, p0, p1, HF, HB, hbel⟩ := hrel
    obtain ⟨c0, c1, c2, c3, -⟩ := HB.out.c4
    have s1 := HB.out.lt
    by_cases hp : p ≤ 100
    · have V1 : Hid (VR L W p B) := ⟨V.out.l0, V.out.l1, V.out.w0, V.out.w1, p0, hp, V.out.b0, V.out.b1⟩
      have e1 : (101 - p).toNat = (101 - (p + 1)).toNat + 1 := by omega
      cases ht : decide (tk L (drag W B) (100 * p) ≤ ticks)
      · have HS : Hid (find (fun p => decide (tk L (drag W B) (100 * p) ≤ ticks)) 100 1 = find (fun p => decide (tk L (drag W B) (100 * p) ≤ ticks)) (101 - (p + 1)).toNat (p + 1)) := by
          show _ = _; rw [HF.out, e1]; exact find_no ht
        clear e1
        go_wp2_with (go_at_call 50; refine (l03Ticks_any _ 0 L W p B _ ⟨by go_cell, by go_cell, by go_cell, by go_cell⟩ V1.out).mono ?_; rintro e w' ⟨rfl, n, rfl⟩)
        go_roundw
        case rel => exact ⟨p + 1, rfl, by omega, by omega, HS, Blk.drewN (HB.out.alloc _) _, by go_grown <;> refine below_drewN ?_ _ <;> go_grown⟩
        case measure => simp [intOf]; omega
      · have HS : Hid (find (fun p => decide (tk L (drag W B) (100 * p) ≤ ticks)) 100 1 = some p) := by
          show _ = _; rw [HF.out, e1]; exact find_yes ht
        clear e1
        go_wp2_with (go_at_call 50; refine (l03Ticks_any _ 0 L W p B _ ⟨by go_cell, by go_cell, by go_cell, by go_cell⟩ V1.out).mono ?_; rintro e w' ⟨rfl, n, rfl⟩)
        go_ret2
        exact ⟨by rw [E.out, HS.out]; rfl, by go_grown <;> refine below_drewN ?_ _ <;> go_grown⟩
    · have HS : Hid (find (fun p => decide (tk L (drag W B) (100 * p) ≤ ticks)) 100 1 = none) := by
        show _ = _; rw [HF.out, show (101 - p).toNat = 0 by omega]; rfl
      go_wp2
      go_ret2
      exact ⟨by rw [E.out, HS.out]; rfl, hbel⟩

theorem specHeaviestFor_no (L W P B ticks : Int) (w : World) (h : goal L W P B ticks ≠ 0) :
    Calls Try.prog 24 #[.agg #[.int .i64 L, .int .i64 W, .int .i64 P, .int .i64 B], .int .i64 ticks] w (Ret w (.tuple #[.int .i64 0, .int .i64 (goal L W P B ticks)])) := by
  have hb : (goal L W P B ticks != 0) = true := by simpa using h
  go_enter Try.func24, Try.ntmps24
  go_wp2_with (go_at_call 56; refine (l03Goal_any _ 0 L W P B ticks _ ⟨by go_cell, by go_cell, by go_cell, by go_cell⟩).mono ?_; rintro e w' ⟨rfl, rfl⟩)
  go_ret2
  exact ⟨rfl, by go_grown⟩

set_option maxHeartbeats 1000000 in
theorem specHeaviestFor_yes (L W P B ticks : Int) (w : World) (h : goal L W P B ticks = 0) :
    Calls Try.prog 24 #[.agg #[.int .i64 L, .int .i64 W, .int .i64 P, .int .i64 B], .int .i64 ticks] w (Ret w (.tuple #[.int .i64 (heaviestFor L W P B ticks).1, .int .i64 (heaviestFor L W P B ticks).2])) := by
  obtain ⟨V0, hi⟩ := goal_zero h
  have V := Lib.hid V0
  have hin := inB_true hi
  have E := Lib.hid (show heaviestFor L W P B ticks = found' (find (fun k => decide (tk L (drag (-k) B) (100 * P) ≤ ticks)) 501 (-500)) by simp [heaviestFor, h])
  have hb : (goal L W P B ticks != 0) = false := by simpa using h
  clear h hi V0
  go_enter Try.func24, Try.ntmps24
  go_wp2_with (go_at_call 56; refine (l03Goal_any _ 0 L W P B ticks _ ⟨by go_cell, by go_cell, by go_cell, by go_cell⟩).mono ?_; rintro e w' ⟨rfl, rfl⟩)
  go_loopw [7] (fun u w' => ∃ p : Int, u = .int .i64 p ∧ -1 ≤ p ∧ p ≤ 500 ∧ Hid (find (fun k => decide (tk L (drag (-k) B) (100 * P) ≤ ticks)) 501 (-500) = find (fun k => decide (tk L (drag (-k) B) (100 * P) ≤ ticks)) (p + 1).toNat (-p)) ∧
    Hid (Blk w' w.heap.size 26 #[.int .i64 L, .int .i64 W, .int .i64 P, .int .i64 B]) ∧ Below w.heap.size w w') (fun u _ => (intOf u + 1).toNat)
  case atStart => exact ⟨500, rfl, by omega, by omega, rfl, Blk.new _ _ _, by go_grown⟩
  case round =>
    obtain ⟨p, rfl, p0, p1, HF, HB, hbel⟩ := hrel
    obtain ⟨c0, c1, c2, c3, -⟩ := HB.out.c4
    have s1 := HB.out.lt
    by_cases hp : 0 ≤ p
    · have V1 : Hid (VR L p P B) := ⟨V.out.l0, V.out.l1, hp, p1, V.out.p0, V.out.p1, V.out.b0, V.out.b1⟩
      have e1 : (p + 1).toNat = (p - 1 + 1).toNat + 1 := by omega
      cases ht : decide (tk L (drag p B) (100 * P) ≤ ticks)
      · have HS : Hid (find (fun k => decide (tk L (drag (-k) B) (100 * P) ≤ ticks)) 501 (-500) = find (fun k => decide (tk L (drag (-k) B) (100 * P) ≤ ticks)) (p - 1 + 1).toNat (-(p - 1))) := by
          show _ = _; rw [HF.out, e1, show -(p - 1) = -p + 1 by omega]; exact find_no (by simpa using ht)
        clear e1
        go_wp2_with (go_at_call 50; refine (l03Ticks_any _ 0 L p P B _ ⟨by go_cell, by go_cell, by go_cell, by go_cell⟩ V1.out).mono ?_; rintro e w' ⟨rfl, n, rfl⟩)
        go_roundw
        case rel => exact ⟨p - 1, rfl, by omega, by omega, HS, Blk.drewN (HB.out.alloc _) _, by go_grown <;> refine below_drewN ?_ _ <;> go_grown⟩
        case measure => simp [intOf]; omega
      · have HS : Hid (find (fun k => decide (tk L (drag (-k) B) (100 * P) ≤ ticks)) 501 (-500) = some (-p)) := by
          show _ = _; rw [HF.out, e1]; exact find_yes (by simpa using ht)
        clear e1
        go_wp2_with (go_at_call 50; refine (l03Ticks_any _ 0 L p P B _ ⟨by go_cell, by go_cell, by go_cell, by go_cell⟩ V1.out).mono ?_; rintro e w' ⟨rfl, n, rfl⟩)
        go_ret2
        exact ⟨by rw [E.out, HS.out]; simp [found'], by go_grown <;> refine below_drewN ?_ _ <;> go_grown⟩
    · have HS : Hid (find (fun k => decide (tk L (drag (-k) B) (100 * P) ≤ ticks)) 501 (-500) = none) := by
        show _ = _; rw [HF.out, show (p + 1).toNat = 0 by omega]; rfl
      go_wp2
      go_ret2
      exact ⟨by rw [E.out, HS.out]; rfl, hbel⟩

theorem implPressureFor_no (L W P B ticks : Int) (w : World) (h : goal L W P B ticks ≠ 0) :
    Calls Try.prog 27 #[.agg #[.int .i64 L, .int .i64 W, .int .i64 P, .int .i64 B], .int .i64 ticks] w (Ret w (.tuple #[.int .i64 0, .int .i64 (goal L W P B ticks)])) := by
  have hb : ((if vr L W P B then (if inB ticks 0 1000000 then 0 else 2) else 1 : Int) != 0) = true := by simpa [goal] using h
  go_enter Try.func27, Try.ntmps27
  go_wp2_with fail
  refine (implValidRide_any L W P B _).mono ?_
  rintro e w1 ⟨rfl, hb1⟩
  go_wp2_with (go_at_call 57; refine (ticksCode_any _ _ _).mono ?_; rintro e w' ⟨rfl, rfl⟩; rw [show (if vr L W P B then (if inB ticks 0 1000000 then 0 else 2) else 1 : Int) = goal L W P B ticks from rfl] at *)
  go_ret2
  exact ⟨rfl, ((Below.refl _ _).alloc (Nat.le_refl _) _).trans (hb1.mono (by simp))⟩

end Go.Proofs.Ytnipibccbegfoaa
