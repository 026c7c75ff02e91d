/-
  THE WALKS of the laws on rides.
-/
import Derived.Test.YtnipibccbegfoaaRide
namespace Go.Proofs.Ytnipibccbegfoaa
open Go.RowKit

theorem walk_FnExactValidRide (L W P B : Int) (w : World) : Calls Try.prog 4 #[.agg #[.int .i64 L, .int .i64 W, .int .i64 P, .int .i64 B]] w (Ret w (.bool true)) := by
  go_enter Try.func4, Try.ntmps4
  go_wp2_with fail
  refine (toRide_any L W P B _).mono ?_
  rintro e w1 ⟨rfl, hb1⟩
  obtain ⟨hc1, hf1⟩ := bcell hb1
  have s1 : w.heap.size < w1.heap.size := by have := hb1.size; simp at this; omega
  go_wp2_with fail
  refine (specValidRide_any L W P B _).mono ?_
  rintro e w2 ⟨rfl, hb2⟩
  obtain ⟨hc2, hf2⟩ := bcell hb2
  have s2 : w.heap.size < w2.heap.size := by have := hb2.size; omega
  go_wp2_with fail
  refine (toRide_any L W P B _).mono ?_
  rintro e w3 ⟨rfl, hb3⟩
  go_wp2_with fail
  refine (implValidRide_any L W P B _).mono ?_
  rintro e w4 ⟨rfl, hb4⟩
  go_wp2_with fail
  go_ret
  exact ⟨rfl, ((((Below.refl _ _).alloc (Nat.le_refl _) _).trans (hb1.mono (by simp))).trans (hb2.mono (by omega))).trans ((hb3.mono (by omega)).trans (hb4.mono (by have := hb3.size; omega)))⟩

end Go.Proofs.Ytnipibccbegfoaa
