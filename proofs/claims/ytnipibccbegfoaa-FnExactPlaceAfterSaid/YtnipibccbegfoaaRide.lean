/-
  CONTRACTS of the functions on rides.
-/
import Derived.Test.YtnipibccbegfoaaRows
import Derived.Test.YtnipibccbegfoaaBase
import Derived.Test.YtnipibccbegfoaaPlainA
namespace Go.Proofs.Ytnipibccbegfoaa
open Go.RowKit

theorem l00In_any (n lo hi : Int) (w : World) : Calls Try.prog 52 #[.int .i64 n, .int .i64 lo, .int .i64 hi] w (Ret0 w (.bool (inB n lo hi))) := by
  go_enter Try.func52, Try.ntmps52
  go_wp2
  all_goals go_ret
  all_goals exact ⟨ret_bool (by simp [inB]; try omega), rfl⟩

theorem within_any (n lo hi : Int) (w : World) : Calls Try.prog 47 #[.int .i64 n, .int .i64 lo, .int .i64 hi] w (Ret0 w (.bool (inB n lo hi))) := by
  go_enter Try.func47, Try.ntmps47
  go_wp2
  all_goals go_ret
  all_goals exact ⟨ret_bool (by simp [inB]; try omega), rfl⟩

/-- The cells of a ride at an address. -/
structure RideAt (w : World) (b o : Nat) (L W P B : Int) : Prop where
  c0 : w.cell? ⟨b, o, none⟩ = some (.int .i64 L)
  c1 : w.cell? ⟨b, o + 1, none⟩ = some (.int .i64 W)
  c2 : w.cell? ⟨b, o + 2, none⟩ = some (.int .i64 P)
  c3 : w.cell? ⟨b, o + 3, none⟩ = some (.int .i64 B)
theorem RideAt.drewN {w : World} {b o : Nat} {L W P B : Int} (h : RideAt w b o L W P B) (n : Nat) : RideAt (w.drewN n) b o L W P B := ⟨h.c0, h.c1, h.c2, h.c3⟩
theorem RideAt.below {w w' : World} {b o k : Nat} {L W P B : Int} (h : RideAt w b o L W P B) (hb : Below k w w') (hk : b < k) : RideAt w' b o L W P B :=
  ⟨(hb.cell (p := ⟨b, o, none⟩) hk).trans h.c0, (hb.cell (p := ⟨b, o + 1, none⟩) hk).trans h.c1, (hb.cell (p := ⟨b, o + 2, none⟩) hk).trans h.c2, (hb.cell (p := ⟨b, o + 3, none⟩) hk).trans h.c3⟩

theorem l03Ok_any (b o : Nat) (L W P B : Int) (w : World) (h : RideAt w b o L W P B) :
    Calls Try.prog 46 #[.pointer (some ⟨b, o, none⟩)] w (Ret0 w (.bool (vr L W P B))) := by
  obtain ⟨h0, h1, h2, h3⟩ := h
  go_enter Try.func46, Try.ntmps46
  go_wp2_with (go_at_call 52; refine (l00In_any _ _ _ _).mono ?_; rintro e w' ⟨rfl, rfl⟩)
  all_goals go_ret
  all_goals exact ⟨ret_bool (by simp [vr, *]), rfl⟩

theorem specValidRide_any (L W P B : Int) (w : World) : Calls Try.prog 15 #[.agg #[.int .i64 L, .int .i64 W, .int .i64 P, .int .i64 B]] w (Ret w (.bool (vr L W P B))) := by
  go_enter Try.func15, Try.ntmps15
  go_wp2_with (go_at_call 46; refine (l03Ok_any _ 0 L W P B _ ⟨by go_cell, by go_cell, by go_cell, by go_cell⟩).mono ?_; rintro e w' ⟨rfl, rfl⟩)
  go_ret
  exact ⟨rfl, by go_grown⟩

theorem implValidRide_any (L W P B : Int) (w : World) : Calls Try.prog 17 #[.agg #[.int .i64 L, .int .i64 W, .int .i64 P, .int .i64 B]] w (Ret w (.bool (vr L W P B))) := by
  go_enter Try.func17, Try.ntmps17
  go_wp2_with (go_at_call 47; refine (within_any _ _ _ _).mono ?_; rintro e w' ⟨rfl, rfl⟩)
  all_goals go_ret
  all_goals exact ⟨ret_bool (by simp [vr, *]), by go_grown⟩

theorem toRide_any (L W P B : Int) (w : World) : Calls Try.prog 16 #[.agg #[.int .i64 L, .int .i64 W, .int .i64 P, .int .i64 B]] w (Ret w (.agg #[.int .i64 L, .int .i64 W, .int .i64 P, .int .i64 B])) := by
  go_enter Try.func16, Try.ntmps16
  go_wp2
  go_returns
  exact ⟨rfl, by go_grown⟩

theorem l03Num_any (b o : Nat) (L W P B : Int) (w : World) (h : RideAt w b o L W P B) (p0 : 1 ≤ P) (p1 : P ≤ 100) :
    Calls Try.prog 53 #[.pointer (some ⟨b, o, none⟩)] w (Ret0 w (.int .i64 (100 * P))) := by
  obtain ⟨h0, h1, h2, h3⟩ := h
  go_enter Try.func53, Try.ntmps53
  go_wp2
  go_ret
  exact ⟨rfl, rfl⟩

theorem l03Den_any (b o : Nat) (L W P B : Int) (w : World) (h : RideAt w b o L W P B) (v : VR L W P B) :
    Calls Try.prog 54 #[.pointer (some ⟨b, o, none⟩)] w (RetN w (.int .i64 (drag W B))) := by
  obtain ⟨h0, h1, h2, h3⟩ := h
  obtain ⟨_, _, w0, w1, p0, p1, b0, b1⟩ := v
  have e1 : IntKind.i64.wrap (100 + W) = 100 + W := IntWalk.i64_in _ (by omega)
  have e2 : IntKind.i64.wrap (10 * B) = 10 * B := IntWalk.i64_in _ (by omega)
  have e3 : IntKind.i64.wrap (100 + W + 10 * B) = 100 + W + 10 * B := IntWalk.i64_in _ (by omega)
  go_enter Try.func54, Try.ntmps54
  go_wp2
  go_quiet (fail)
  go_wp2
  go_ret
  exact ⟨rfl, _, rfl⟩

theorem l03Ticks_any (b o : Nat) (L W P B : Int) (w : World) (h : RideAt w b o L W P B) (v : VR L W P B) :
    Calls Try.prog 50 #[.pointer (some ⟨b, o, none⟩)] w (RetN w (.int .i64 (tk L (drag W B) (100 * P)))) := by
  have hD := drag_bd v.w0 v.w1 v.b0 v.b1
  have hN : 100 ≤ 100 * P ∧ 100 * P ≤ 10000 := by have := v.p0; have := v.p1; omega
  have hM := mul_bd (a := L) (b := drag W B) (x := 2000) (y := 1000) (by have := v.l0; omega) v.l1 (by omega) hD.2
  have e1 : IntKind.i64.wrap (L * drag W B) = L * drag W B := IntWalk.i64_in _ (by omega)
  have e2 : IntKind.i64.wrap (L * drag W B + 100 * P) = L * drag W B + 100 * P := IntWalk.i64_in _ (by omega)
  have e3 : IntKind.i64.wrap (L * drag W B + 100 * P - 1) = L * drag W B + 100 * P - 1 := IntWalk.i64_in _ (by omega)
  have i1 : 0 ≤ L * drag W B + 100 * P - 1 := by omega
  have i2 : 1 ≤ 100 * P := by omega
  have h0 := h.c0
  have H := Lib.hid h
  have V := Lib.hid v
  clear h v
  go_enter Try.func50, Try.ntmps50
  go_wp2
  go_quiet (first
    | (go_at_call 54; exact qN (l03Den_any b o L W P B _ (H.out.drewN _) V.out))
    | (go_at_call 53; exact q0 (l03Num_any b o L W P B _ (H.out.drewN _) V.out.p0 V.out.p1)))
  go_wp2
  go_ret
  exact ⟨rfl, _, rfl⟩

theorem drag_any (L W P B : Int) (w : World) (v : VR L W P B) : Calls Try.prog 55 #[.agg #[.int .i64 L, .int .i64 W, .int .i64 P, .int .i64 B]] w (Ret w (.int .i64 (drag W B))) := by
  obtain ⟨_, _, w0, w1, p0, p1, b0, b1⟩ := v
  go_enter Try.func55, Try.ntmps55
  go_wp2
  go_ret
  exact ⟨rfl, by go_grown⟩

theorem roundedUp_any (a d : Int) (w : World) (a0 : 0 ≤ a) (a1 : a ≤ 1000000000000) (d0 : 1 ≤ d) (d1 : d ≤ 1000000000000) : Calls Try.prog 65 #[.int .i64 a, .int .i64 d] w (Ret0 w (.int .i64 ((a + d - 1) / d))) := by
  go_enter Try.func65, Try.ntmps65
  go_wp2
  go_ret
  exact ⟨rfl, rfl⟩

theorem ticks_any (L W P B : Int) (w : World) (v : VR L W P B) : Calls Try.prog 51 #[.agg #[.int .i64 L, .int .i64 W, .int .i64 P, .int .i64 B]] w (Ret w (.int .i64 (tk L (drag W B) (100 * P)))) := by
  have hD := drag_bd v.w0 v.w1 v.b0 v.b1
  have hN : 100 ≤ 100 * P ∧ 100 * P ≤ 10000 := by have := v.p0; have := v.p1; omega
  have hM := mul_bd (a := L) (b := drag W B) (x := 2000) (y := 1000) (by have := v.l0; omega) v.l1 (by omega) hD.2
  have e1 : IntKind.i64.wrap (L * drag W B) = L * drag W B := IntWalk.i64_in _ (by omega)
  have e2 : IntKind.i64.wrap (100 * P) = 100 * P := IntWalk.i64_in _ (by omega)
  have V := Lib.hid v
  clear v
  go_enter Try.func51, Try.ntmps51
  go_wp2
  go_region_held3 (fun w' => w'.cell? ⟨w.heap.size, 0, none⟩ = some (.int .i64 L) ∧ w'.cell? ⟨w.heap.size, 1, none⟩ = some (.int .i64 W) ∧ w'.cell? ⟨w.heap.size, 2, none⟩ = some (.int .i64 P) ∧ w'.cell? ⟨w.heap.size, 3, none⟩ = some (.int .i64 B) ∧ Below w.heap.size w w' ∧ w.heap.size < w'.heap.size)
    (first
      | (refine ⟨?_, ?_, ?_, ?_, ?_, ?_⟩ <;> first | (simp [*]; done) | (go_grown; done))
      | (go_split_ands; refine ⟨?_, ?_, ?_, ?_, ?_, ?_⟩ <;> first | (simp [*]; done) | (go_grown; done) | (refine Below.trans (by assumption) (Below.mono hb1 ?_); omega) | omega))
    (first
      | (go_at_call 55; refine (drag_any L W P B _ V.out).mono ?_; rintro e w1 ⟨rfl, hb1⟩; obtain ⟨hc1, hf1⟩ := bcell hb1; have hz1 := hb1.size)
      | (go_at_call 65; refine (roundedUp_any _ _ _ (by omega) (by omega) (by omega) (by omega)).mono ?_; rintro e w1 ⟨rfl, rfl⟩))
  go_wp2
  go_ret
  exact ⟨rfl, by rename_i hh; exact hh.2.2.2.2.1⟩

/-! ### fractions -/
theorem l00Gcd_any (a b : Int) (w : World) (a0 : 0 ≤ a) (a1 : a ≤ 1000000000000) (b0 : 0 ≤ b) (b1 : b ≤ 1000000000000) :
    Calls Try.prog 66 #[.int .i64 a, .int .i64 b] w (Ret0 w (.int .i64 (gcdI a b))) := by
  go_enter Try.func66, Try.ntmps66
  go_wp2
  go_loop [0, 1] (fun u v => ∃ x y : Int, u = .int .i64 x ∧ v = .int .i64 y ∧ 0 ≤ x ∧ x ≤ 1000000000000 ∧ 0 ≤ y ∧ y ≤ 1000000000000 ∧ Hid (gcdI x y = gcdI a b)) (fun _ v => (intOf v).toNat)
  case atStart => exact ⟨a, b, rfl, rfl, a0, a1, b0, b1, rfl⟩
  case round =>
    obtain ⟨x, y, rfl, rfl, x0, x1, y0, y1, HG⟩ := hrel
    by_cases hy : y = 0
    · subst hy
      have H0 : Hid (gcdI a b = x) := by show _ = _; rw [← HG.out]; exact gcdI_zero x0
      go_wp2
      go_ret
      exact ⟨ret_int H0.out.symm, rfl⟩
    · have h1 := Int.emod_lt_of_pos x (show 0 < y by omega)
      have h2 := Int.emod_nonneg x hy
      have HS : Hid (gcdI y (x % y) = gcdI a b) := (gcdI_step x0 (by omega)).trans HG.out
      have hy1 : 1 ≤ y := by omega
      go_wp2
      go_round
      case rel => exact ⟨y, x % y, rfl, rfl, by omega, by omega, by omega, by omega, HS⟩
      case measure => simp [intOf]; omega

theorem gcd_any (a b : Int) (w : World) (a0 : 0 ≤ a) (a1 : a ≤ 1000000000000) (b0 : 0 ≤ b) (b1 : b ≤ 1000000000000) :
    Calls Try.prog 68 #[.int .i64 a, .int .i64 b] w (RetN w (.int .i64 (gcdI a b))) := by
  go_enter Try.func68, Try.ntmps68
  go_wp2
  go_loopw [0, 1] (fun u v w' => ∃ x y : Int, u = .int .i64 x ∧ v = .int .i64 y ∧ 0 ≤ x ∧ x ≤ 1000000000000 ∧ 0 ≤ y ∧ y ≤ 1000000000000 ∧ Hid (gcdI x y = gcdI a b) ∧ ∃ n, w' = w.drewN n) (fun _ v _ => (intOf v).toNat)
  case atStart => exact ⟨a, b, rfl, rfl, a0, a1, b0, b1, rfl, 0, rfl⟩
  case round =>
    obtain ⟨x, y, rfl, rfl, x0, x1, y0, y1, HG, n, rfl⟩ := hrel
    by_cases hy : y = 0
    · subst hy
      have H0 : Hid (gcdI a b = x) := by show _ = _; rw [← HG.out]; exact gcdI_zero x0
      go_wp2
      go_ret
      exact ⟨ret_int H0.out.symm, n, rfl⟩
    · have h1 := Int.emod_lt_of_pos x (show 0 < y by omega)
      have h2 := Int.emod_nonneg x hy
      have HS : Hid (gcdI y (x % y) = gcdI a b) := (gcdI_step x0 (by omega)).trans HG.out
      have hy1 : 1 ≤ y := by omega
      go_wp2
      go_quiet (fail)
      go_wp2
      go_roundw
      case rel => exact ⟨y, x % y, rfl, rfl, by omega, by omega, by omega, by omega, HS, _, World.drewN_drewN _ _ _⟩
      case measure => simp [intOf]; omega

theorem l00Size_pos (n : Int) (w : World) (h : 0 ≤ n) : Calls Try.prog 67 #[.int .i64 n] w (Ret0 w (.int .i64 n)) := by
  go_enter Try.func67, Try.ntmps67
  go_wp2
  go_ret
  exact ⟨rfl, rfl⟩

theorem l02Make_any (a b : Int) (w : World) (a0 : 0 ≤ a) (a1 : a ≤ 1000000000000) (b0 : 1 ≤ b) (b1 : b ≤ 1000000000000) :
    Calls Try.prog 58 #[.int .i64 a, .int .i64 b] w (Ret w (.agg #[.int .i64 (a / gcdI a b), .int .i64 (b / gcdI a b)])) := by
  have g0 := gcdI_pos (a := a) (b := b) (by omega)
  have g1 := gcdI_le (a := a) (b := b) (by omega)
  go_enter Try.func58, Try.ntmps58
  go_wp2_with (first
    | (go_at_call 67; refine (l00Size_pos _ _ a0).mono ?_; rintro e w1 ⟨rfl, rfl⟩)
    | (go_at_call 66; refine (l00Gcd_any _ _ _ a0 a1 (by omega) b1).mono ?_; rintro e w1 ⟨rfl, rfl⟩))
  go_region
  go_wp2
  go_returns
  exact ⟨rfl, by go_grown⟩

theorem lowest_any (a b : Int) (w : World) (a0 : 0 ≤ a) (a1 : a ≤ 1000000000000) (b0 : 1 ≤ b) (b1 : b ≤ 1000000000000) :
    Calls Try.prog 59 #[.int .i64 a, .int .i64 b] w (Ret w (.agg #[.int .i64 (a / gcdI a b), .int .i64 (b / gcdI a b)])) := by
  have g0 := gcdI_pos (a := a) (b := b) (by omega)
  have g1 := gcdI_le (a := a) (b := b) (by omega)
  go_enter Try.func59, Try.ntmps59
  go_wp2_with (first
    | (go_at_call 68; refine (gcd_any _ _ _ a0 a1 (by omega) b1).mono ?_; rintro e w1 ⟨rfl, n, rfl⟩))
  go_region
  go_wp2
  go_returns
  exact ⟨rfl, by go_grown <;> refine below_drewN ?_ _ <;> go_grown⟩

end Go.Proofs.Ytnipibccbegfoaa
