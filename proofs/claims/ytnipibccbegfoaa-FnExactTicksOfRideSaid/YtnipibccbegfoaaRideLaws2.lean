/-
  THE WALKS of the laws on rides (printed by tools/gen_ridelaws.py).
-/
import Derived.Test.YtnipibccbegfoaaRide2
import Derived.Test.YtnipibccbegfoaaRide4
import Derived.Test.YtnipibccbegfoaaRide6
namespace Go.Proofs.Ytnipibccbegfoaa
open Go.RowKit

set_option maxHeartbeats 1000000 in
theorem walk_FnExactTicksOfRide (L W P B : Int)  (w : World) : Calls Try.prog 6 #[.agg #[.int .i64 L, .int .i64 W, .int .i64 P, .int .i64 B]] w (Ret w (.bool true)) := by
  go_enter Try.func6, Try.ntmps6
  go_wp2_with fail
  refine (toRide_any L W P B _).mono ?_
  rintro e w1 ⟨rfl, hb1⟩
  have D1 : Below w.heap.size w w1 := bel_next ((Below.refl _ _).alloc (Nat.le_refl _) _) hb1
  have X1 : Hid (Blk w1 w.heap.size 24 #[.int .i64 L, .int .i64 W, .int .i64 P, .int .i64 B]) := bel_blk (Blk.new _ _ _) hb1
  clear hb1
  obtain ⟨c_0, c_1, c_2, c_3, -⟩ := X1.out.c4
  go_wp2_with fail
  refine (specTicksOfRide_any L W P B _).mono ?_
  rintro e w2 ⟨rfl, hb2⟩
  have D2 := bel_next D1 hb2
  have X2 := hid_blk X1 hb2
  clear hb2
  clear c_0 c_1 c_2 c_3
  obtain ⟨c_0, c_1, c_2, c_3, -⟩ := X2.out.c4
  go_wp2_with fail
  refine (toRide_any L W P B _).mono ?_
  rintro e w3 ⟨rfl, hb3⟩
  have D3 := bel_next D2 hb3
  have X3 := hid_blk X2 hb3
  clear hb3
  clear c_0 c_1 c_2 c_3
  obtain ⟨c_0, c_1, c_2, c_3, -⟩ := X3.out.c4
  go_wp2_with fail
  refine (implTicksOfRide_any L W P B _).mono ?_
  rintro e w4 ⟨rfl, hb4⟩
  have D4 := bel_next D3 hb4
  have X4 := hid_blk X3 hb4
  clear hb4
  clear c_0 c_1 c_2 c_3
  obtain ⟨c_0, c_1, c_2, c_3, -⟩ := X4.out.c4
  go_wp2_with fail
  go_ret
  exact ⟨rfl, D4⟩

set_option maxHeartbeats 1000000 in
theorem walk_FnExactPressureFor (L W P B : Int) (ticks : Int) (_l_ticks : -9223372036854775808 ≤ ticks) (_u_ticks : ticks ≤ 9223372036854775807) (w : World) : Calls Try.prog 9 #[.agg #[.int .i64 L, .int .i64 W, .int .i64 P, .int .i64 B], .int .i64 ticks] w (Ret w (.bool true)) := by
  clear _l_ticks _u_ticks
  go_enter Try.func9, Try.ntmps9
  go_wp2_with fail
  refine (toRide_any L W P B _).mono ?_
  rintro e w1 ⟨rfl, hb1⟩
  have D1 : Below w.heap.size w w1 := bel_next ((Below.refl _ _).alloc (Nat.le_refl _) _) hb1
  have X1 : Hid (Blk w1 w.heap.size 24 #[.int .i64 L, .int .i64 W, .int .i64 P, .int .i64 B]) := bel_blk (Blk.new _ _ _) hb1
  clear hb1
  obtain ⟨c_0, c_1, c_2, c_3, -⟩ := X1.out.c4
  go_wp2_with fail
  refine (specPressureFor_any L W P B ticks _).mono ?_
  rintro e w2 ⟨rfl, hb2⟩
  have D2 := bel_next D1 hb2
  have X2 := hid_blk X1 hb2
  clear hb2
  clear c_0 c_1 c_2 c_3
  obtain ⟨c_0, c_1, c_2, c_3, -⟩ := X2.out.c4
  go_wp2_with fail
  refine (toRide_any L W P B _).mono ?_
  rintro e w3 ⟨rfl, hb3⟩
  have D3 := bel_next D2 hb3
  have X3 := hid_blk X2 hb3
  clear hb3
  clear c_0 c_1 c_2 c_3
  obtain ⟨c_0, c_1, c_2, c_3, -⟩ := X3.out.c4
  go_wp2_with fail
  refine (implPressureFor_any L W P B ticks _).mono ?_
  rintro e w4 ⟨rfl, hb4⟩
  have D4 := bel_next D3 hb4
  have X4 := hid_blk X3 hb4
  clear hb4
  clear c_0 c_1 c_2 c_3
  obtain ⟨c_0, c_1, c_2, c_3, -⟩ := X4.out.c4
  go_wp2_with fail
  go_ret
  exact ⟨rfl, D4⟩

set_option maxHeartbeats 1000000 in
theorem walk_FnExactHeaviestFor (L W P B : Int) (ticks : Int) (_l_ticks : -9223372036854775808 ≤ ticks) (_u_ticks : ticks ≤ 9223372036854775807) (w : World) : Calls Try.prog 8 #[.agg #[.int .i64 L, .int .i64 W, .int .i64 P, .int .i64 B], .int .i64 ticks] w (Ret w (.bool true)) := by
  clear _l_ticks _u_ticks
  go_enter Try.func8, Try.ntmps8
  go_wp2_with fail
  refine (toRide_any L W P B _).mono ?_
  rintro e w1 ⟨rfl, hb1⟩
  have D1 : Below w.heap.size w w1 := bel_next ((Below.refl _ _).alloc (Nat.le_refl _) _) hb1
  have X1 : Hid (Blk w1 w.heap.size 24 #[.int .i64 L, .int .i64 W, .int .i64 P, .int .i64 B]) := bel_blk (Blk.new _ _ _) hb1
  clear hb1
  obtain ⟨c_0, c_1, c_2, c_3, -⟩ := X1.out.c4
  go_wp2_with fail
  refine (specHeaviestFor_any L W P B ticks _).mono ?_
  rintro e w2 ⟨rfl, hb2⟩
  have D2 := bel_next D1 hb2
  have X2 := hid_blk X1 hb2
  clear hb2
  clear c_0 c_1 c_2 c_3
  obtain ⟨c_0, c_1, c_2, c_3, -⟩ := X2.out.c4
  go_wp2_with fail
  refine (toRide_any L W P B _).mono ?_
  rintro e w3 ⟨rfl, hb3⟩
  have D3 := bel_next D2 hb3
  have X3 := hid_blk X2 hb3
  clear hb3
  clear c_0 c_1 c_2 c_3
  obtain ⟨c_0, c_1, c_2, c_3, -⟩ := X3.out.c4
  go_wp2_with fail
  refine (implHeaviestFor_any L W P B ticks _).mono ?_
  rintro e w4 ⟨rfl, hb4⟩
  have D4 := bel_next D3 hb4
  have X4 := hid_blk X3 hb4
  clear hb4
  clear c_0 c_1 c_2 c_3
  obtain ⟨c_0, c_1, c_2, c_3, -⟩ := X4.out.c4
  go_wp2_with fail
  go_ret
  exact ⟨rfl, D4⟩


set_option maxHeartbeats 1000000 in
theorem walk_FnExactSpeedOf (L W P B : Int) (w : World) : Calls Try.prog 10 #[.agg #[.int .i64 L, .int .i64 W, .int .i64 P, .int .i64 B]] w (Ret w (.bool true)) := by
  go_enter Try.func10, Try.ntmps10
  go_wp2_with fail
  refine (toRide_any L W P B _).mono ?_
  rintro e w1 ⟨rfl, hb1⟩
  have D1 : Below w.heap.size w w1 := bel_next ((Below.refl _ _).alloc (Nat.le_refl _) _) hb1
  have X1 : Hid (Blk w1 w.heap.size 24 #[.int .i64 L, .int .i64 W, .int .i64 P, .int .i64 B]) := bel_blk (Blk.new _ _ _) hb1
  clear hb1
  go_wp2_with fail
  refine (specSpeedOf_any L W P B _).mono ?_
  rintro e w2 ⟨rfl, hb2⟩
  have D2 := bel_next D1 hb2
  have X2 := hid_blk X1 hb2
  clear hb2
  obtain ⟨c0, c1, c2, c3, -⟩ := X2.out.c4
  have s2 := X2.out.lt
  go_wp2_with fail
  refine (toRide_any L W P B _).mono ?_
  rintro e w3 ⟨rfl, hb3⟩
  have D3 : Below w.heap.size w w3 := bel_next (D2.alloc (by omega) _) hb3
  have F3 : Hid (Blk w3 w2.heap.size 37 #[.int .i64 (speedOf L W P B).1, .int .i64 (speedOf L W P B).2.1]) := bel_blk (Blk.new _ _ _) hb3
  clear hb3 c0 c1 c2 c3 D1 D2 X1 X2 s2
  go_wp2_with fail
  refine (implSpeedOf_any L W P B _).mono ?_
  rintro e w4 ⟨rfl, hb4⟩
  have D4 := bel_next D3 hb4
  have F4 := hid_blk F3 hb4
  obtain ⟨c0, c1, -⟩ := F4.out.c2
  have s4 := F4.out.lt
  clear hb4 F3 D3
  go_wp2_with fail
  refine (eqFraction_any _ _ _).mono ?_
  rintro e w5 ⟨rfl, hb5⟩
  have D5 : Below w.heap.size w w5 := bel_next (D4.alloc D4.size _) hb5
  go_wp2_with fail
  go_ret
  exact ⟨rfl, D5⟩

set_option maxHeartbeats 2000000 in
theorem walk_FnExactCatchUp (L W P B L' W' P' B' later : Int) (_l : -9223372036854775808 ≤ later) (_u : later ≤ 9223372036854775807) (w : World) :
    Calls Try.prog 7 #[.agg #[.int .i64 L, .int .i64 W, .int .i64 P, .int .i64 B], .agg #[.int .i64 L', .int .i64 W', .int .i64 P', .int .i64 B'], .int .i64 later] w (Ret w (.bool true)) := by
  clear _l _u
  go_enter Try.func7, Try.ntmps7
  go_wp2_with fail
  go_region_held3 (fun w' => w'.cell? ⟨w.heap.size, 0, none⟩ = some (.int .i64 L) ∧ w'.cell? ⟨w.heap.size, 1, none⟩ = some (.int .i64 W) ∧ w'.cell? ⟨w.heap.size, 2, none⟩ = some (.int .i64 P) ∧ w'.cell? ⟨w.heap.size, 3, none⟩ = some (.int .i64 B) ∧
      w'.cell? ⟨w.heap.size + 1, 0, none⟩ = some (.int .i64 L') ∧ w'.cell? ⟨w.heap.size + 1, 1, none⟩ = some (.int .i64 W') ∧ w'.cell? ⟨w.heap.size + 1, 2, none⟩ = some (.int .i64 P') ∧ w'.cell? ⟨w.heap.size + 1, 3, none⟩ = some (.int .i64 B') ∧
      Below w.heap.size w w')
    (first
      | (refine ⟨?_, ?_, ?_, ?_, ?_, ?_, ?_, ?_, ?_⟩ <;> first | go_cell | (go_grown; done))
      | (go_split_ands; refine ⟨?_, ?_, ?_, ?_, ?_, ?_, ?_, ?_, ?_⟩ <;> first | exact bel_cell hb4 (by assumption) | exact bel_next (by assumption) hb4))
    (first
      | (go_at_call 16; ((with_reducible refine (toRide_any L W P B _).mono ?_); rintro e w4 ⟨rfl, hb4⟩))
      | (go_at_call 16; ((with_reducible refine (toRide_any L' W' P' B' _).mono ?_); rintro e w4 ⟨rfl, hb4⟩))
      | (go_at_call 22; refine (specCatchUp_any L W P B L' W' P' B' later _).mono ?_; rintro e w4 ⟨rfl, hb4⟩))
  obtain ⟨x0, x1, x2, x3, y0, y1, y2, y3, D⟩ := ‹_ ∧ _ ∧ _ ∧ _ ∧ _ ∧ _ ∧ _ ∧ _ ∧ _›
  go_wp2_with fail
  go_region_held3 (fun w' => w'.cell? ⟨w.heap.size, 0, none⟩ = some (.int .i64 L) ∧ w'.cell? ⟨w.heap.size, 1, none⟩ = some (.int .i64 W) ∧ w'.cell? ⟨w.heap.size, 2, none⟩ = some (.int .i64 P) ∧ w'.cell? ⟨w.heap.size, 3, none⟩ = some (.int .i64 B) ∧
      w'.cell? ⟨w.heap.size + 1, 0, none⟩ = some (.int .i64 L') ∧ w'.cell? ⟨w.heap.size + 1, 1, none⟩ = some (.int .i64 W') ∧ w'.cell? ⟨w.heap.size + 1, 2, none⟩ = some (.int .i64 P') ∧ w'.cell? ⟨w.heap.size + 1, 3, none⟩ = some (.int .i64 B') ∧
      Below w.heap.size w w')
    (first
      | (refine ⟨x0, x1, x2, x3, y0, y1, y2, y3, ?_⟩; go_grown; done)
      | (go_split_ands; refine ⟨?_, ?_, ?_, ?_, ?_, ?_, ?_, ?_, ?_⟩ <;> first | exact bel_cell hb4 (by assumption) | exact bel_next (by assumption) hb4))
    (first
      | (go_at_call 16; ((with_reducible refine (toRide_any L W P B _).mono ?_); rintro e w4 ⟨rfl, hb4⟩))
      | (go_at_call 16; ((with_reducible refine (toRide_any L' W' P' B' _).mono ?_); rintro e w4 ⟨rfl, hb4⟩))
      | (go_at_call 23; refine (implCatchUp_any L W P B L' W' P' B' later _).mono ?_; rintro e w4 ⟨rfl, hb4⟩))
  obtain ⟨x0, x1, x2, x3, y0, y1, y2, y3, D⟩ := ‹_ ∧ _ ∧ _ ∧ _ ∧ _ ∧ _ ∧ _ ∧ _ ∧ _›
  go_wp2_with fail
  go_ret
  exact ⟨rfl, D⟩

end Go.Proofs.Ytnipibccbegfoaa
