/-
  CONTRACTS of the functions on rides.
-/
import Derived.Test.YtnipibccbegfoaaRows
import Derived.Test.YtnipibccbegfoaaBase
import Derived.Test.YtnipibccbegfoaaPlainA
namespace Go.Proofs.Ytnipibccbegfoaa
open Go.RowKit

theorem l00In_any (n lo hi : Int) (w : World) : Calls Try.prog 52 #[.int .i64 n, .int .i64 lo, .int .i64 hi] w (Ret0 w (.bool (inB n lo hi))) := by
  go_enter Try.func52, Try.ntmps52
  go_wp2
  all_goals go_ret
  all_goals exact ⟨ret_bool (by simp [inB]; try omega), rfl⟩

theorem within_any (n lo hi : Int) (w : World) : Calls Try.prog 47 #[.int .i64 n, .int .i64 lo, .int .i64 hi] w (Ret0 w (.bool (inB n lo hi))) := by
  go_enter Try.func47, Try.ntmps47
  go_wp2
  all_goals go_ret
  all_goals exact ⟨ret_bool (by simp [inB]; try omega), rfl⟩

/-- The cells of a ride at an address. -/
structure RideAt (w : World) (b o : Nat) (L W P B : Int) : Prop where
  c0 : w.cell? ⟨b, o, none⟩ = some (.int .i64 L)
  c1 : w.cell? ⟨b, o + 1, none⟩ = some (.int .i64 W)
  c2 : w.cell? ⟨b, o + 2, none⟩ = some (.int .i64 P)
  c3 : w.cell? ⟨b, o + 3, none⟩ = some (.int .i64 B)
theorem RideAt.drewN {w : World} {b o : Nat} {L W P B : Int} (h : RideAt w b o L W P B) (n : Nat) : RideAt (w.drewN n) b o L W P B := ⟨h.c0, h.c1, h.c2, h.c3⟩
theorem RideAt.below {w w' : World} {b o k : Nat} {L W P B : Int} (h : RideAt w b o L W P B) (hb : Below k w w') (hk : b < k) : RideAt w' b o L W P B :=
  ⟨(hb.cell (p := ⟨b, o, none⟩) hk).trans h.c0, (hb.cell (p := ⟨b, o + 1, none⟩) hk).trans h.c1, (hb.cell (p := ⟨b, o + 2, none⟩) hk).trans h.c2, (hb.cell (p := ⟨b, o + 3, none⟩) hk).trans h.c3⟩

theorem l03Ok_any (b o : Nat) (L W P B : Int) (w : World) (h : RideAt w b o L W P B) :
    Calls Try.prog 46 #[.pointer (some ⟨b, o, none⟩)] w (Ret0 w (.bool (vr L W P B))) := by
  obtain ⟨h0, h1, h2, h3⟩ := h
  go_enter Try.func46, Try.ntmps46
  go_wp2_with (go_at_call 52; refine (l00In_any _ _ _ _).mono ?_; rintro e w' ⟨rfl, rfl⟩)
  all_goals go_ret
  all_goals exact ⟨ret_bool (by simp [vr, *]), rfl⟩

theorem specValidRide_any (L W P B : Int) (w : World) : Calls Try.prog 15 #[.agg #[.int .i64 L, .int .i64 W, .int .i64 P, .int .i64 B]] w (Ret w (.bool (vr L W P B))) := by
  go_enter Try.func15, Try.ntmps15
  go_wp2_with (go_at_call 46; refine (l03Ok_any _ 0 L W P B _ ⟨by go_cell, by go_cell, by go_cell, by go_cell⟩).mono ?_; rintro e w' ⟨rfl, rfl⟩)
  go_ret
  exact ⟨rfl, by go_grown⟩

theorem implValidRide_any (L W P B : Int) (w : World) : Calls Try.prog 17 #[.agg #[.int .i64 L, .int .i64 W, .int .i64 P, .int .i64 B]] w (Ret w (.bool (vr L W P B))) := by
  go_enter Try.func17, Try.ntmps17
  go_wp2_with (go_at_call 47; refine (within_any _ _ _ _).mono ?_; rintro e w' ⟨rfl, rfl⟩)
  all_goals go_ret
  all_goals exact ⟨ret_bool (by simp [vr, *]), by go_grown⟩

theorem toRide_any (L W P B : Int) (w : World) : Calls Try.prog 16 #[.agg #[.int .i64 L, .int .i64 W, .int .i64 P, .int .i64 B]] w (Ret w (.agg #[.int .i64 L, .int .i64 W, .int .i64 P, .int .i64 B])) := by
  go_enter Try.func16, Try.ntmps16
  go_wp2
  go_returns
  exact ⟨rfl, by go_grown⟩

theorem l03Num_any (b o : Nat) (L W P B : Int) (w : World) (h : RideAt w b o L W P B) (p0 : 1 ≤ P) (p1 : P ≤ 100) :
    Calls Try.prog 53 #[.pointer (some ⟨b, o, none⟩)] w (Ret0 w (.int .i64 (100 * P))) := by
  obtain ⟨h0, h1, h2, h3⟩ := h
  go_enter Try.func53, Try.ntmps53
  go_wp2
  go_ret
  exact ⟨rfl, rfl⟩

theorem l03Den_any (b o : Nat) (L W P B : Int) (w : World) (h : RideAt w b o L W P B) (v : VR L W P B) :
    Calls Try.prog 54 #[.pointer (some ⟨b, o, none⟩)] w (RetN w (.int .i64 (drag W B))) := by
  obtain ⟨h0, h1, h2, h3⟩ := h
  obtain ⟨_, _, w0, w1, p0, p1, b0, b1⟩ := v
  have e1 : IntKind.i64.wrap (100 + W) = 100 + W := IntWalk.i64_in _ (by omega)
  have e2 : IntKind.i64.wrap (10 * B) = 10 * B := IntWalk.i64_in _ (by omega)
  have e3 : IntKind.i64.wrap (100 + W + 10 * B) = 100 + W + 10 * B := IntWalk.i64_in _ (by omega)
  go_enter Try.func54, Try.ntmps54
  go_wp2
  go_quiet (fail)
  go_wp2
  go_ret
  exact ⟨rfl, _, rfl⟩

theorem l03Ticks_any (b o : Nat) (L W P B : Int) (w : World) (h : RideAt w b o L W P B) (v : VR L W P B) :
    Calls Try.prog 50 #[.pointer (some ⟨b, o, none⟩)] w (RetN w (.int .i64 (tk L (drag W B) (100 * P)))) := by
  have hD := drag_bd v.w0 v.w1 v.b0 v.b1
  have hN : 100 ≤ 100 * P ∧ 100 * P ≤ 10000 := by have := v.p0; have := v.p1; omega
  have hM := mul_bd (a := L) (b := drag W B) (x := 2000) (y := 1000) (by have := v.l0; omega) v.l1 (by omega) hD.2
  have e1 : IntKind.i64.wrap (L * drag W B) = L * drag W B := IntWalk.i64_in _ (by omega)
  have e2 : IntKind.i64.wrap (L * drag W B + 100 * P) = L * drag W B + 100 * P := IntWalk.i64_in _ (by omega)
  have e3 : IntKind.i64.wrap (L * drag W B + 100 * P - 1) = L * drag W B + 100 * P - 1 := IntWalk.i64_in _ (by omega)
  have i1 : 0 ≤ L * drag W B + 100 * P - 1 := by omega
  have i2 : 1 ≤ 100 * P := by omega
  have h0 := h.c0
  have H := Lib.hid h
  have V := Lib.hid v
  clear h v
  go_enter Try.func50, Try.ntmps50
  go_wp2
  go_quiet (first
    | (go_at_call 54; exact qN (l03Den_any b o L W P B _ (H.out.drewN _) V.out))
    | (go_at_call 53; exact q0 (l03Num_any b o L W P B _ (H.out.drewN _) V.out.p0 V.out.p1)))
  go_wp2
  go_ret
  exact ⟨rfl, _, rfl⟩

end Go.Proofs.Ytnipibccbegfoaa
