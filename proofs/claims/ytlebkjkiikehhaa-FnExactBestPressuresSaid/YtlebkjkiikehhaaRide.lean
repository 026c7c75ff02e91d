/-
  CONTRACTS of the functions on rides.
-/
import Derived.Test.YtlebkjkiikehhaaRows
import Derived.Test.YtlebkjkiikehhaaBase
import Derived.Test.YtlebkjkiikehhaaPlainA
namespace Go.Proofs.Ytlebkjkiikehhaa
open Go.RowKit

theorem l00In_any (n lo hi : Int) (w : World) : Calls Try.prog 65 #[.int .i64 n, .int .i64 lo, .int .i64 hi] w (Ret0 w (.bool (inB n lo hi))) := by
  go_enter Try.func65, Try.ntmps65
  go_wp2
  all_goals go_ret
  all_goals exact ⟨ret_bool (by simp [inB]; try omega), rfl⟩

theorem within_any (n lo hi : Int) (w : World) : Calls Try.prog 85 #[.int .i64 n, .int .i64 lo, .int .i64 hi] w (Ret0 w (.bool (inB n lo hi))) := by
  go_enter Try.func85, Try.ntmps85
  go_wp2
  all_goals go_ret
  all_goals exact ⟨ret_bool (by simp [inB]; try omega), rfl⟩

/-- The cells of a ride at an address. -/
structure RideAt (w : World) (b o : Nat) (L W P B : Int) : Prop where
  c0 : w.cell? ⟨b, o, none⟩ = some (.int .i64 L)
  c1 : w.cell? ⟨b, o + 1, none⟩ = some (.int .i64 W)
  c2 : w.cell? ⟨b, o + 2, none⟩ = some (.int .i64 P)
  c3 : w.cell? ⟨b, o + 3, none⟩ = some (.int .i64 B)
theorem RideAt.drewN {w : World} {b o : Nat} {L W P B : Int} (h : RideAt w b o L W P B) (n : Nat) : RideAt (w.drewN n) b o L W P B := ⟨h.c0, h.c1, h.c2, h.c3⟩
theorem RideAt.below {w w' : World} {b o k : Nat} {L W P B : Int} (h : RideAt w b o L W P B) (hb : Below k w w') (hk : b < k) : RideAt w' b o L W P B :=
  ⟨(hb.cell (p := ⟨b, o, none⟩) hk).trans h.c0, (hb.cell (p := ⟨b, o + 1, none⟩) hk).trans h.c1, (hb.cell (p := ⟨b, o + 2, none⟩) hk).trans h.c2, (hb.cell (p := ⟨b, o + 3, none⟩) hk).trans h.c3⟩

theorem l03Ok_any (b o : Nat) (L W P B : Int) (w : World) (h : RideAt w b o L W P B) :
    Calls Try.prog 98 #[.pointer (some ⟨b, o, none⟩)] w (Ret0 w (.bool (vr L W P B))) := by
  obtain ⟨h0, h1, h2, h3⟩ := h
  go_enter Try.func98, Try.ntmps98
  go_wp2_with (go_at_call 65; refine (l00In_any _ _ _ _).mono ?_; rintro e w' ⟨rfl, rfl⟩)
  all_goals go_ret
  all_goals exact ⟨ret_bool (by simp [vr, *]), rfl⟩

theorem implValidRide_any (L W P B : Int) (w : World) : Calls Try.prog 103 #[.agg #[.int .i64 L, .int .i64 W, .int .i64 P, .int .i64 B]] w (Ret w (.bool (vr L W P B))) := by
  go_enter Try.func103, Try.ntmps103
  go_wp2_with (go_at_call 85; refine (within_any _ _ _ _).mono ?_; rintro e w' ⟨rfl, rfl⟩)
  all_goals go_ret
  all_goals exact ⟨ret_bool (by simp [vr, *]), by go_grown⟩

theorem toRide_any (L W P B : Int) (w : World) : Calls Try.prog 67 #[.agg #[.int .i64 L, .int .i64 W, .int .i64 P, .int .i64 B]] w (Ret w (.agg #[.int .i64 L, .int .i64 W, .int .i64 P, .int .i64 B])) := by
  go_enter Try.func67, Try.ntmps67
  go_wp2
  go_returns
  exact ⟨rfl, by go_grown⟩

theorem l03Num_any (b o : Nat) (L W P B : Int) (w : World) (h : RideAt w b o L W P B) (p0 : 1 ≤ P) (p1 : P ≤ 100) :
    Calls Try.prog 100 #[.pointer (some ⟨b, o, none⟩)] w (Ret0 w (.int .i64 (100 * P))) := by
  obtain ⟨h0, h1, h2, h3⟩ := h
  go_enter Try.func100, Try.ntmps100
  go_wp2
  go_ret
  exact ⟨rfl, rfl⟩

theorem l03Den_any (b o : Nat) (L W P B : Int) (w : World) (h : RideAt w b o L W P B) (v : VR L W P B) :
    Calls Try.prog 99 #[.pointer (some ⟨b, o, none⟩)] w (RetN w (.int .i64 (drag W B))) := by
  obtain ⟨h0, h1, h2, h3⟩ := h
  obtain ⟨_, _, w0, w1, p0, p1, b0, b1⟩ := v
  have e1 : IntKind.i64.wrap (100 + W) = 100 + W := IntWalk.i64_in _ (by omega)
  have e2 : IntKind.i64.wrap (10 * B) = 10 * B := IntWalk.i64_in _ (by omega)
  have e3 : IntKind.i64.wrap (100 + W + 10 * B) = 100 + W + 10 * B := IntWalk.i64_in _ (by omega)
  go_enter Try.func99, Try.ntmps99
  go_wp2
  go_quiet (fail)
  go_wp2
  go_ret
  exact ⟨rfl, _, rfl⟩

theorem l03Ticks_any (b o : Nat) (L W P B : Int) (w : World) (h : RideAt w b o L W P B) (v : VR L W P B) :
    Calls Try.prog 66 #[.pointer (some ⟨b, o, none⟩)] w (RetN w (.int .i64 (tk L (drag W B) (100 * P)))) := by
  have hD := drag_bd v.w0 v.w1 v.b0 v.b1
  have hN : 100 ≤ 100 * P ∧ 100 * P ≤ 10000 := by have := v.p0; have := v.p1; omega
  have hM := mul_bd (a := L) (b := drag W B) (x := 2000) (y := 1000) (by have := v.l0; omega) v.l1 (by omega) hD.2
  have e1 : IntKind.i64.wrap (L * drag W B) = L * drag W B := IntWalk.i64_in _ (by omega)
  have e2 : IntKind.i64.wrap (L * drag W B + 100 * P) = L * drag W B + 100 * P := IntWalk.i64_in _ (by omega)
  have e3 : IntKind.i64.wrap (L * drag W B + 100 * P - 1) = L * drag W B + 100 * P - 1 := IntWalk.i64_in _ (by omega)
  have i1 : 0 ≤ L * drag W B + 100 * P - 1 := by omega
  have i2 : 1 ≤ 100 * P := by omega
  have h0 := h.c0
  have H := Lib.hid h
  have V := Lib.hid v
  clear h v
  go_enter Try.func66, Try.ntmps66
  go_wp2
  go_quiet (first
    | (go_at_call 99; exact qN (l03Den_any b o L W P B _ (H.out.drewN _) V.out))
    | (go_at_call 100; exact q0 (l03Num_any b o L W P B _ (H.out.drewN _) V.out.p0 V.out.p1)))
  go_wp2
  go_ret
  exact ⟨rfl, _, rfl⟩

theorem drag_any (L W P B : Int) (w : World) (v : VR L W P B) : Calls Try.prog 105 #[.agg #[.int .i64 L, .int .i64 W, .int .i64 P, .int .i64 B]] w (Ret w (.int .i64 (drag W B))) := by
  obtain ⟨_, _, w0, w1, p0, p1, b0, b1⟩ := v
  go_enter Try.func105, Try.ntmps105
  go_wp2
  go_ret
  exact ⟨rfl, by go_grown⟩

theorem roundedUp_any (a d : Int) (w : World) (a0 : 0 ≤ a) (a1 : a ≤ 1000000000000) (d0 : 1 ≤ d) (d1 : d ≤ 1000000000000) : Calls Try.prog 104 #[.int .i64 a, .int .i64 d] w (Ret0 w (.int .i64 ((a + d - 1) / d))) := by
  go_enter Try.func104, Try.ntmps104
  go_wp2
  go_ret
  exact ⟨rfl, rfl⟩

theorem ticks_any (L W P B : Int) (w : World) (v : VR L W P B) : Calls Try.prog 72 #[.agg #[.int .i64 L, .int .i64 W, .int .i64 P, .int .i64 B]] w (Ret w (.int .i64 (tk L (drag W B) (100 * P)))) := by
  have hD := drag_bd v.w0 v.w1 v.b0 v.b1
  have hN : 100 ≤ 100 * P ∧ 100 * P ≤ 10000 := by have := v.p0; have := v.p1; omega
  have hM := mul_bd (a := L) (b := drag W B) (x := 2000) (y := 1000) (by have := v.l0; omega) v.l1 (by omega) hD.2
  have e1 : IntKind.i64.wrap (L * drag W B) = L * drag W B := IntWalk.i64_in _ (by omega)
  have e2 : IntKind.i64.wrap (100 * P) = 100 * P := IntWalk.i64_in _ (by omega)
  have V := Lib.hid v
  clear v
  go_enter Try.func72, Try.ntmps72
  go_wp2
  go_region_held3 (fun w' => w'.cell? ⟨w.heap.size, 0, none⟩ = some (.int .i64 L) ∧ w'.cell? ⟨w.heap.size, 1, none⟩ = some (.int .i64 W) ∧ w'.cell? ⟨w.heap.size, 2, none⟩ = some (.int .i64 P) ∧ w'.cell? ⟨w.heap.size, 3, none⟩ = some (.int .i64 B) ∧ Below w.heap.size w w' ∧ w.heap.size < w'.heap.size)
    (first
      | (refine ⟨?_, ?_, ?_, ?_, ?_, ?_⟩ <;> first | (simp [*]; done) | (go_grown; done))
      | (go_split_ands; refine ⟨?_, ?_, ?_, ?_, ?_, ?_⟩ <;> first | (simp [*]; done) | (go_grown; done) | (refine Below.trans (by assumption) (Below.mono hb1 ?_); omega) | omega))
    (first
      | (go_at_call 105; refine (drag_any L W P B _ V.out).mono ?_; rintro e w1 ⟨rfl, hb1⟩; obtain ⟨hc1, hf1⟩ := bcell hb1; have hz1 := hb1.size)
      | (go_at_call 104; refine (roundedUp_any _ _ _ (by omega) (by omega) (by omega) (by omega)).mono ?_; rintro e w1 ⟨rfl, rfl⟩))
  go_wp2
  go_ret
  exact ⟨rfl, by rename_i hh; exact hh.2.2.2.2.1⟩

/-! ### fractions -/
end Go.Proofs.Ytlebkjkiikehhaa
