/-
  CONTRACTS of the functions on rides that are called from without.
-/
import Derived.Test.YtnipibccbegfoaaRide
namespace Go.Proofs.Ytnipibccbegfoaa
open Go.RowKit

theorem specTicksOfRide_any (L W P B : Int) (w : World) : Calls Try.prog 20 #[.agg #[.int .i64 L, .int .i64 W, .int .i64 P, .int .i64 B]] w (Ret w (.tuple #[.int .i64 (ticksOfRide L W P B).1, .int .i64 (ticksOfRide L W P B).2])) := by
  cases hv : vr L W P B
  · have e : ticksOfRide L W P B = (0, 1) := by simp [ticksOfRide, hv]
    have E := Lib.hid e
    clear e
    go_enter Try.func20, Try.ntmps20
    go_wp2_with (go_at_call 46; refine (l03Ok_any _ 0 L W P B _ ⟨by go_cell, by go_cell, by go_cell, by go_cell⟩).mono ?_; rintro e w' ⟨rfl, rfl⟩)
    go_ret2
    exact ⟨by rw [E.out]; rfl, by go_grown⟩
  · have e : ticksOfRide L W P B = (tk L (drag W B) (100 * P), 0) := by simp [ticksOfRide, hv]
    have E := Lib.hid e
    have V := Lib.hid (vr_true hv)
    clear e
    go_enter Try.func20, Try.ntmps20
    go_wp2_with (first
      | (go_at_call 46; refine (l03Ok_any _ 0 L W P B _ ⟨by go_cell, by go_cell, by go_cell, by go_cell⟩).mono ?_; rintro e w' ⟨rfl, rfl⟩)
      | (go_at_call 50; refine (l03Ticks_any _ 0 L W P B _ ⟨by go_cell, by go_cell, by go_cell, by go_cell⟩ V.out).mono ?_; rintro e w' ⟨rfl, n, rfl⟩))
    go_ret2
    exact ⟨by rw [E.out]; rfl, by go_grown <;> refine below_drewN ?_ _ <;> go_grown⟩

theorem implTicksOfRide_any (L W P B : Int) (w : World) : Calls Try.prog 21 #[.agg #[.int .i64 L, .int .i64 W, .int .i64 P, .int .i64 B]] w (Ret w (.tuple #[.int .i64 (ticksOfRide L W P B).1, .int .i64 (ticksOfRide L W P B).2])) := by
  cases hv : vr L W P B
  · have e : ticksOfRide L W P B = (0, 1) := by simp [ticksOfRide, hv]
    have E := Lib.hid e
    clear e
    go_enter Try.func21, Try.ntmps21
    go_wp2_with (go_at_call 17; refine (implValidRide_any L W P B _).mono ?_; rintro e w1 ⟨rfl, hb1⟩)
    go_ret2
    exact ⟨by rw [E.out]; rfl, ((Below.refl _ _).alloc (Nat.le_refl _) _).trans (hb1.mono (by simp))⟩
  · have e : ticksOfRide L W P B = (tk L (drag W B) (100 * P), 0) := by simp [ticksOfRide, hv]
    have E := Lib.hid e
    have V := Lib.hid (vr_true hv)
    clear e
    go_enter Try.func21, Try.ntmps21
    go_wp2_with fail
    refine (implValidRide_any L W P B _).mono ?_
    rintro e w1 ⟨rfl, hb1⟩
    obtain ⟨hc1, hf1⟩ := bcell hb1
    have s1 : w.heap.size < w1.heap.size := by have := hb1.size; simp at this; omega
    go_wp2_with (go_at_call 51; refine (ticks_any L W P B _ V.out).mono ?_; rintro e w2 ⟨rfl, hb2⟩)
    go_ret2
    exact ⟨by rw [E.out]; rfl, (((Below.refl _ _).alloc (Nat.le_refl _) _).trans (hb1.mono (by simp))).trans (hb2.mono (by omega))⟩

theorem specSpeedOf_any (L W P B : Int) (w : World) : Calls Try.prog 28 #[.agg #[.int .i64 L, .int .i64 W, .int .i64 P, .int .i64 B]] w
    (Ret w (.tuple #[.agg #[.int .i64 (speedOf L W P B).1, .int .i64 (speedOf L W P B).2.1], .int .i64 (speedOf L W P B).2.2])) := by
  cases hv : vr L W P B
  · have e : speedOf L W P B = (0, 0, 1) := by simp [speedOf, hv]
    have E := Lib.hid e
    clear e
    go_enter Try.func28, Try.ntmps28
    go_wp2_with (go_at_call 46; refine (l03Ok_any _ 0 L W P B _ ⟨by go_cell, by go_cell, by go_cell, by go_cell⟩).mono ?_; rintro e w' ⟨rfl, rfl⟩)
    go_returns
    exact ⟨by rw [E.out], by go_grown⟩
  · have e : speedOf L W P B = (100 * P / gcdI (100 * P) (drag W B), drag W B / gcdI (100 * P) (drag W B), 0) := by simp [speedOf, hv]
    have E := Lib.hid e
    have V := Lib.hid (vr_true hv)
    have hD := drag_bd V.out.w0 V.out.w1 V.out.b0 V.out.b1
    have p0 := V.out.p0
    have p1 := V.out.p1
    clear e
    go_enter Try.func28, Try.ntmps28
    go_wp2_with (first
      | (go_at_call 46; refine (l03Ok_any _ 0 L W P B _ ⟨by go_cell, by go_cell, by go_cell, by go_cell⟩).mono ?_; rintro e w' ⟨rfl, rfl⟩)
      | (go_at_call 53; refine (l03Num_any _ 0 L W P B _ ⟨by go_cell, by go_cell, by go_cell, by go_cell⟩ p0 p1).mono ?_; rintro e w' ⟨rfl, rfl⟩)
      | (go_at_call 54; refine (l03Den_any _ 0 L W P B _ ⟨by go_cell, by go_cell, by go_cell, by go_cell⟩ V.out).mono ?_; rintro e w' ⟨rfl, n, rfl⟩)
      | (go_at_call 58; refine (l02Make_any _ _ _ (by omega) (by omega) (by omega) (by omega)).mono ?_; rintro e w1 ⟨rfl, hb1⟩; obtain ⟨hc1, hf1⟩ := bcell hb1; have s1 : w.heap.size + 1 < w1.heap.size := by have := hb1.size; simp at this; omega))
    have k0 : w1.cell? ⟨w.heap.size + 1, 0, none⟩ = some (.int .i64 0) := (hb1.cell (by simp)).trans (by first | go_cell | (simp [go_sem]; done))
    have k1 : w1.cell? ⟨w.heap.size + 1, 1, none⟩ = some (.int .i64 0) := (hb1.cell (by simp)).trans (by first | go_cell | (simp [go_sem]; done))
    refine bodyPost_ret (v := .tuple #[.agg #[.int .i64 (100 * P / gcdI (100 * P) (drag W B)), .int .i64 (drag W B / gcdI (100 * P) (drag W B))], .int .i64 0]) (by simp [results, Try.results28, go_sem, k0, k1]) rfl ?_
    refine ⟨by rw [E.out], ?_⟩
    refine (Below.setCell (Below.setCell (Below.trans ?_ (hb1.mono ?_)) ?_ _) ?_ _) <;> (go_grown <;> refine below_drewN ?_ _ <;> go_grown)

theorem implSpeedOf_no (L W P B : Int) (w : World) (hv : vr L W P B = false) : Calls Try.prog 29 #[.agg #[.int .i64 L, .int .i64 W, .int .i64 P, .int .i64 B]] w
    (Ret w (.tuple #[.agg #[.int .i64 0, .int .i64 0], .int .i64 1])) := by
  go_enter Try.func29, Try.ntmps29
  go_wp2_with fail
  refine (implValidRide_any L W P B _).mono ?_
  rintro e w1 ⟨rfl, hb1⟩
  have s1 : w.heap.size + 1 < w1.heap.size := by have := hb1.size; simp at this; omega
  obtain ⟨k0, k1, f0, f1⟩ := ((Blk.new _ _ _).below hb1 (by simp)).c2
  simp only [World.size_alloc] at k0 k1 f0 f1
  go_wp2_with fail
  refine bodyPost_ret (v := .tuple #[.agg #[.int .i64 0, .int .i64 0], .int .i64 1]) (by simp [results, Try.results29, go_sem, k0, k1]) rfl ?_
  refine ⟨rfl, ?_⟩
  refine (Below.setCell (Below.setCell (Below.trans ?_ (hb1.mono ?_)) ?_ _) ?_ _) <;> go_grown

set_option maxHeartbeats 1000000 in
theorem implSpeedOf_yes (L W P B : Int) (w : World) (hv : vr L W P B = true) : Calls Try.prog 29 #[.agg #[.int .i64 L, .int .i64 W, .int .i64 P, .int .i64 B]] w
    (Ret w (.tuple #[.agg #[.int .i64 (100 * P / gcdI (100 * P) (drag W B)), .int .i64 (drag W B / gcdI (100 * P) (drag W B))], .int .i64 0])) := by
  have V := Lib.hid (vr_true hv)
  have hD := drag_bd V.out.w0 V.out.w1 V.out.b0 V.out.b1
  have p0 := V.out.p0
  have p1 := V.out.p1
  have e2 : IntKind.i64.wrap (100 * P) = 100 * P := IntWalk.i64_in _ (by omega)
  go_enter Try.func29, Try.ntmps29
  go_wp2_with fail
  refine (implValidRide_any L W P B _).mono ?_
  rintro e w1 ⟨rfl, hb1⟩
  have s1 : w.heap.size + 1 < w1.heap.size := by have := hb1.size; simp at this; omega
  have R : Hid (Blk w1 w.heap.size _ _) := ((Blk.new _ _ _).alloc _).below hb1 (by simp; omega)
  have Q : Hid (Blk w1 (w.heap.size + 1) _ _) := (Blk.newAt (by simp)).below hb1 (by simp)
  obtain ⟨c0, c1, c2, c3, -, -, -, -⟩ := R.out.c4
  have B1 : Below w.heap.size w w1 := (((Below.refl _ _).alloc (Nat.le_refl _) _).alloc (by simp) _).trans (hb1.mono (by simp; omega))
  clear hb1
  go_wp2_with fail
  have t1 : w.heap.size < w1.heap.size := by omega
  go_region_with (first
    | (go_at_call 55; refine (drag_any L W P B _ V.out).mono ?_; rintro e w2 ⟨rfl, hb2⟩; obtain ⟨c0, c1, c2, c3, -⟩ := (Blk.below (Blk.drew R.out) hb2 t1).c4; have Q2 : Hid (Blk w2 (w.heap.size + 1) _ _) := Blk.below (Blk.drew Q.out) hb2 s1; have s2 : w.heap.size + 1 < w2.heap.size := (by have := hb2.size; simp at this; omega))
    | (go_at_call 59; refine (lowest_any _ _ _ (by omega) (by omega) (by omega) (by omega)).mono ?_; rintro e w3 ⟨rfl, hb3⟩; obtain ⟨k0, k1, g0, g1⟩ := (Blk.below Q2.out hb3 s2).c2))
  all_goals
    go_wp2_with fail
    refine bodyPost_ret (v := .tuple #[.agg #[.int .i64 (100 * P / gcdI (100 * P) (drag W B)), .int .i64 (drag W B / gcdI (100 * P) (drag W B))], .int .i64 0]) (by simp [results, Try.results29, go_sem, k0, k1]) rfl ?_
    refine ⟨rfl, ?_⟩
    exact (((B1.drew.trans (hb2.mono (by show _ ≤ w1.heap.size; omega))).trans (hb3.mono (by omega))).setCell (by simp) _).setCell (by simp) _

theorem implSpeedOf_any (L W P B : Int) (w : World) : Calls Try.prog 29 #[.agg #[.int .i64 L, .int .i64 W, .int .i64 P, .int .i64 B]] w
    (Ret w (.tuple #[.agg #[.int .i64 (speedOf L W P B).1, .int .i64 (speedOf L W P B).2.1], .int .i64 (speedOf L W P B).2.2])) := by
  cases hv : vr L W P B
  · have e : speedOf L W P B = (0, 0, 1) := by simp [speedOf, hv]
    rw [e]; exact implSpeedOf_no L W P B w hv
  · have e : speedOf L W P B = (100 * P / gcdI (100 * P) (drag W B), drag W B / gcdI (100 * P) (drag W B), 0) := by simp [speedOf, hv]
    rw [e]; exact implSpeedOf_yes L W P B w hv

theorem eqFraction_any (a b : Int) (w : World) : Calls Try.prog 30 #[.agg #[.int .i64 a, .int .i64 b], .agg #[.int .i64 a, .int .i64 b]] w (Ret w (.bool true)) := by
  go_enter Try.func30, Try.ntmps30
  go_wp2
  go_ret
  exact ⟨rfl, by go_grown⟩

end Go.Proofs.Ytnipibccbegfoaa
