/-
  CONTRACTS of the program's own PressureFor, HeaviestFor, CatchUp.
-/
import Derived.Test.YtnipibccbegfoaaRide3
namespace Go.Proofs.Ytnipibccbegfoaa
open Go.RowKit

set_option maxHeartbeats 1000000 in
theorem implPressureFor_yes (L W P B ticks : Int) (w : World) (h : goal L W P B ticks = 0) :
    Calls Try.prog 27 #[.agg #[.int .i64 L, .int .i64 W, .int .i64 P, .int .i64 B], .int .i64 ticks] w (Ret w (.tuple #[.int .i64 (pressureFor L W P B ticks).1, .int .i64 (pressureFor L W P B ticks).2])) := by
  obtain ⟨V0, hi⟩ := goal_zero h
  have V := Lib.hid V0
  have hin := inB_true hi
  have E := Lib.hid (show pressureFor L W P B ticks = found (find (fun p => decide (tk L (drag W B) (100 * p) ≤ ticks)) 100 1) by simp [pressureFor, h])
  have hb : ((if vr L W P B then (if inB ticks 0 1000000 then 0 else 2) else 1 : Int) != 0) = false := by simpa [goal] using h
  have hb' : (if vr L W P B then (if inB ticks 0 1000000 then 0 else 2) else 1 : Int) = 0 := h
  clear h hi V0
  go_enter Try.func27, Try.ntmps27
  go_wp2_with fail
  refine (implValidRide_any L W P B _).mono ?_
  rintro e w1 ⟨rfl, hb1⟩
  have B1 : Hid (Blk w1 w.heap.size 26 #[.int .i64 L, .int .i64 W, .int .i64 P, .int .i64 B]) := (Blk.new _ _ _).below hb1 (by simp)
  have D1 : Below w.heap.size w w1 := ((Below.refl _ _).alloc (Nat.le_refl _) _).trans (hb1.mono (by simp))
  obtain ⟨c0, c1, c2, c3, f0, f1, f2, f3⟩ := B1.out.c4
  have s1 := B1.out.lt
  clear hb1
  go_wp2_with (go_at_call 57; refine (ticksCode_any _ _ _).mono ?_; rintro e w' ⟨rfl, rfl⟩; rw [hb'])
  go_loopw [] (fun w' => ∃ p : Int, 1 ≤ p ∧ p ≤ 101 ∧ Hid (find (fun p => decide (tk L (drag W B) (100 * p) ≤ ticks)) 100 1 = find (fun p => decide (tk L (drag W B) (100 * p) ≤ ticks)) (101 - p).toNat p) ∧
    Hid (Blk w' w.heap.size 26 #[.int .i64 L, .int .i64 W, .int .i64 p, .int .i64 B]) ∧ Below w.heap.size w w') (fun w' => (101 - intOf ((w'.cell? ⟨w.heap.size, 2, none⟩).getD undef)).toNat)
  case atStart => exact ⟨1, by omega, by omega, rfl, B1.out.set_ 2 _, D1.setCell (by simp) _⟩
  case round =>
    obtain ⟨p, p0, p1, HF, HB, hbel⟩ := hrel
    clear c0 c1 c2 c3 f0 f1 f2 f3 s1 B1 D1
    obtain ⟨c0, c1, c2, c3, f0, f1, f2, f3⟩ := HB.out.c4
    have s1 := HB.out.lt
    by_cases hp : p ≤ 100
    · have V1 : Hid (VR L W p B) := ⟨V.out.l0, V.out.l1, V.out.w0, V.out.w1, p0, hp, V.out.b0, V.out.b1⟩
      have e1 : (101 - p).toNat = (101 - (p + 1)).toNat + 1 := by omega
      cases ht : decide (tk L (drag W B) (100 * p) ≤ ticks)
      · have HS : Hid (find (fun p => decide (tk L (drag W B) (100 * p) ≤ ticks)) 100 1 = find (fun p => decide (tk L (drag W B) (100 * p) ≤ ticks)) (101 - (p + 1)).toNat (p + 1)) := by
          show _ = _; rw [HF.out, e1]; exact find_no ht
        clear e1
        go_wp2_with fail
        refine (ticks_any L W p B _ V1.out).mono ?_
        rintro e w2 ⟨rfl, hb2⟩
        have B2 : Hid (Blk w2 w.heap.size 26 #[.int .i64 L, .int .i64 W, .int .i64 p, .int .i64 B]) := HB.out.below hb2 s1
        obtain ⟨d0, d1, d2, d3, g0, g1, g2, g3⟩ := B2.out.c4
        have s2 := B2.out.lt
        go_wp2
        go_roundw
        case rel => exact ⟨p + 1, by omega, by omega, HS, B2.out.set_ 2 _, (hbel.trans (hb2.mono (by omega))).setCell (by simp) _⟩
        case measure =>
          rw [((B2.out.set_ 2 (.int .i64 (p + 1))).cell 2)]
          simp [intOf, c2]; omega
      · have HS : Hid (find (fun p => decide (tk L (drag W B) (100 * p) ≤ ticks)) 100 1 = some p) := by
          show _ = _; rw [HF.out, e1]; exact find_yes ht
        clear e1
        go_wp2_with fail
        refine (ticks_any L W p B _ V1.out).mono ?_
        rintro e w2 ⟨rfl, hb2⟩
        obtain ⟨d0, d1, d2, d3, g0, g1, g2, g3⟩ := (HB.out.below hb2 s1).c4
        go_wp2
        go_ret2
        exact ⟨by rw [E.out, HS.out]; rfl, hbel.trans (hb2.mono (by omega))⟩
    · have HS : Hid (find (fun p => decide (tk L (drag W B) (100 * p) ≤ ticks)) 100 1 = none) := by
        show _ = _; rw [HF.out, show (101 - p).toNat = 0 by omega]; rfl
      go_wp2
      go_ret2
      exact ⟨by rw [E.out, HS.out]; rfl, hbel⟩

theorem implHeaviestFor_no (L W P B ticks : Int) (w : World) (h : goal L W P B ticks ≠ 0) :
    Calls Try.prog 25 #[.agg #[.int .i64 L, .int .i64 W, .int .i64 P, .int .i64 B], .int .i64 ticks] w (Ret w (.tuple #[.int .i64 0, .int .i64 (goal L W P B ticks)])) := by
  have hb : ((if vr L W P B then (if inB ticks 0 1000000 then 0 else 2) else 1 : Int) != 0) = true := by simpa [goal] using h
  go_enter Try.func25, Try.ntmps25
  go_wp2_with fail
  refine (implValidRide_any L W P B _).mono ?_
  rintro e w1 ⟨rfl, hb1⟩
  go_wp2_with (go_at_call 57; refine (ticksCode_any _ _ _).mono ?_; rintro e w' ⟨rfl, rfl⟩; rw [show (if vr L W P B then (if inB ticks 0 1000000 then 0 else 2) else 1 : Int) = goal L W P B ticks from rfl] at *)
  go_ret2
  exact ⟨rfl, ((Below.refl _ _).alloc (Nat.le_refl _) _).trans (hb1.mono (by simp))⟩

set_option maxHeartbeats 1000000 in
theorem implHeaviestFor_yes (L W P B ticks : Int) (w : World) (h : goal L W P B ticks = 0) :
    Calls Try.prog 25 #[.agg #[.int .i64 L, .int .i64 W, .int .i64 P, .int .i64 B], .int .i64 ticks] w (Ret w (.tuple #[.int .i64 (heaviestFor L W P B ticks).1, .int .i64 (heaviestFor L W P B ticks).2])) := by
  obtain ⟨V0, hi⟩ := goal_zero h
  have V := Lib.hid V0
  have hin := inB_true hi
  have E := Lib.hid (show heaviestFor L W P B ticks = found' (find (fun k => decide (tk L (drag (-k) B) (100 * P) ≤ ticks)) 501 (-500)) by simp [heaviestFor, h])
  have hb' : (if vr L W P B then (if inB ticks 0 1000000 then 0 else 2) else 1 : Int) = 0 := h
  clear h hi V0
  go_enter Try.func25, Try.ntmps25
  go_wp2_with fail
  refine (implValidRide_any L W P B _).mono ?_
  rintro e w1 ⟨rfl, hb1⟩
  have B1 : Hid (Blk w1 w.heap.size 26 #[.int .i64 L, .int .i64 W, .int .i64 P, .int .i64 B]) := (Blk.new _ _ _).below hb1 (by simp)
  have D1 : Below w.heap.size w w1 := ((Below.refl _ _).alloc (Nat.le_refl _) _).trans (hb1.mono (by simp))
  obtain ⟨c0, c1, c2, c3, f0, f1, f2, f3⟩ := B1.out.c4
  have s1 := B1.out.lt
  clear hb1
  go_wp2_with (go_at_call 57; refine (ticksCode_any _ _ _).mono ?_; rintro e w' ⟨rfl, rfl⟩; rw [hb'])
  go_loopw [] (fun w' => ∃ p : Int, -1 ≤ p ∧ p ≤ 500 ∧ Hid (find (fun k => decide (tk L (drag (-k) B) (100 * P) ≤ ticks)) 501 (-500) = find (fun k => decide (tk L (drag (-k) B) (100 * P) ≤ ticks)) (p + 1).toNat (-p)) ∧
    Hid (Blk w' w.heap.size 26 #[.int .i64 L, .int .i64 p, .int .i64 P, .int .i64 B]) ∧ Below w.heap.size w w') (fun w' => (intOf ((w'.cell? ⟨w.heap.size, 1, none⟩).getD undef) + 1).toNat)
  case atStart => exact ⟨500, by omega, by omega, rfl, B1.out.set_ 1 _, D1.setCell (by simp) _⟩
  case round =>
    obtain ⟨p, p0, p1, HF, HB, hbel⟩ := hrel
    clear c0 c1 c2 c3 f0 f1 f2 f3 s1 B1 D1
    obtain ⟨c0, c1, c2, c3, f0, f1, f2, f3⟩ := HB.out.c4
    have s1 := HB.out.lt
    by_cases hp : 0 ≤ p
    · have V1 : Hid (VR L p P B) := ⟨V.out.l0, V.out.l1, hp, p1, V.out.p0, V.out.p1, V.out.b0, V.out.b1⟩
      have e1 : (p + 1).toNat = (p - 1 + 1).toNat + 1 := by omega
      cases ht : decide (tk L (drag p B) (100 * P) ≤ ticks)
      · have HS : Hid (find (fun k => decide (tk L (drag (-k) B) (100 * P) ≤ ticks)) 501 (-500) = find (fun k => decide (tk L (drag (-k) B) (100 * P) ≤ ticks)) (p - 1 + 1).toNat (-(p - 1))) := by
          show _ = _; rw [HF.out, e1, show -(p - 1) = -p + 1 by omega]; exact find_no (by simpa using ht)
        clear e1
        go_wp2_with fail
        refine (ticks_any L p P B _ V1.out).mono ?_
        rintro e w2 ⟨rfl, hb2⟩
        have B2 : Hid (Blk w2 w.heap.size 26 #[.int .i64 L, .int .i64 p, .int .i64 P, .int .i64 B]) := HB.out.below hb2 s1
        obtain ⟨d0, d1, d2, d3, g0, g1, g2, g3⟩ := B2.out.c4
        have s2 := B2.out.lt
        go_wp2
        go_roundw
        case rel => exact ⟨p - 1, by omega, by omega, HS, B2.out.set_ 1 _, (hbel.trans (hb2.mono (by omega))).setCell (by simp) _⟩
        case measure =>
          rw [((B2.out.set_ 1 (.int .i64 (p - 1))).cell 1)]
          simp [intOf, c1]; omega
      · have HS : Hid (find (fun k => decide (tk L (drag (-k) B) (100 * P) ≤ ticks)) 501 (-500) = some (-p)) := by
          show _ = _; rw [HF.out, e1]; exact find_yes (by simpa using ht)
        clear e1
        go_wp2_with fail
        refine (ticks_any L p P B _ V1.out).mono ?_
        rintro e w2 ⟨rfl, hb2⟩
        obtain ⟨d0, d1, d2, d3, g0, g1, g2, g3⟩ := (HB.out.below hb2 s1).c4
        go_wp2
        go_ret2
        exact ⟨by rw [E.out, HS.out]; simp [found'], hbel.trans (hb2.mono (by omega))⟩
    · have HS : Hid (find (fun k => decide (tk L (drag (-k) B) (100 * P) ≤ ticks)) 501 (-500) = none) := by
        show _ = _; rw [HF.out, show (p + 1).toNat = 0 by omega]; rfl
      go_wp2
      go_ret2
      exact ⟨by rw [E.out, HS.out]; rfl, hbel⟩

theorem specPressureFor_any (L W P B ticks : Int) (w : World) : Calls Try.prog 26 #[.agg #[.int .i64 L, .int .i64 W, .int .i64 P, .int .i64 B], .int .i64 ticks] w (Ret w (.tuple #[.int .i64 (pressureFor L W P B ticks).1, .int .i64 (pressureFor L W P B ticks).2])) := by
  by_cases h : goal L W P B ticks = 0
  · exact specPressureFor_yes L W P B ticks w h
  · rw [show pressureFor L W P B ticks = (0, goal L W P B ticks) by simp [pressureFor, h]]; exact specPressureFor_no L W P B ticks w h
theorem implPressureFor_any (L W P B ticks : Int) (w : World) : Calls Try.prog 27 #[.agg #[.int .i64 L, .int .i64 W, .int .i64 P, .int .i64 B], .int .i64 ticks] w (Ret w (.tuple #[.int .i64 (pressureFor L W P B ticks).1, .int .i64 (pressureFor L W P B ticks).2])) := by
  by_cases h : goal L W P B ticks = 0
  · exact implPressureFor_yes L W P B ticks w h
  · rw [show pressureFor L W P B ticks = (0, goal L W P B ticks) by simp [pressureFor, h]]; exact implPressureFor_no L W P B ticks w h
theorem specHeaviestFor_any (L W P B ticks : Int) (w : World) : Calls Try.prog 24 #[.agg #[.int .i64 L, .int .i64 W, .int .i64 P, .int .i64 B], .int .i64 ticks] w (Ret w (.tuple #[.int .i64 (heaviestFor L W P B ticks).1, .int .i64 (heaviestFor L W P B ticks).2])) := by
  by_cases h : goal L W P B ticks = 0
  · exact specHeaviestFor_yes L W P B ticks w h
  · rw [show heaviestFor L W P B ticks = (0, goal L W P B ticks) by simp [heaviestFor, h]]; exact specHeaviestFor_no L W P B ticks w h
theorem implHeaviestFor_any (L W P B ticks : Int) (w : World) : Calls Try.prog 25 #[.agg #[.int .i64 L, .int .i64 W, .int .i64 P, .int .i64 B], .int .i64 ticks] w (Ret w (.tuple #[.int .i64 (heaviestFor L W P B ticks).1, .int .i64 (heaviestFor L W P B ticks).2])) := by
  by_cases h : goal L W P B ticks = 0
  · exact implHeaviestFor_yes L W P B ticks w h
  · rw [show heaviestFor L W P B ticks = (0, goal L W P B ticks) by simp [heaviestFor, h]]; exact implHeaviestFor_no L W P B ticks w h

end Go.Proofs.Ytnipibccbegfoaa
