/-
  CONTRACTS of SlowestRide.
-/
import Derived.Test.YtnipibccbegfoaaRideList2
namespace Go.Proofs.Ytnipibccbegfoaa
open Go.RowKit

/-- Which of two rides is slower. -/
def slower (x y : Rd) : Bool := decide (x.2.2.1 * dr4 y < y.2.2.1 * dr4 x)
theorem slower_100 (x y : Rd) : decide (100 * x.2.2.1 * drag y.2.1 y.2.2.2 < 100 * y.2.2.1 * drag x.2.1 x.2.2.2) = slower x y := by
  unfold slower dr4
  rw [Int.mul_assoc, Int.mul_assoc]
  apply decide_eq_decide.2
  omega
theorem slower_self (x : Rd) : slower x x = false := by unfold slower; simp
theorem slow_step {l : List Rd} {i : Nat} (hi : i < l.length) (b : Rd × Int) : slow b i (l.drop i) = slow (if slower l[i] b.1 then (l[i], (i : Int)) else b) (i + 1 : Nat) (l.drop (i + 1)) := by
  rw [drop_at hi]
  simp only [slow, slower]
  by_cases h : l[i].2.2.1 * dr4 b.1 < b.1.2.2.1 * dr4 l[i]
  · simp [h]
  · simp [h]
theorem slowestRide_nil {l : List Rd} (hv : validL l = true) (h : l.length = 0) : slowestRide l = (0, 3) := by
  have : l = [] := List.eq_nil_of_length_eq_zero h
  subst this
  simp [slowestRide, hv]
theorem slowestRide_cons {l : List Rd} (hv : validL l = true) (h : 0 < l.length) : slowestRide l = (slow (l[0], 0) 1 (l.drop 1), 0) := by
  cases l with
  | nil => simp at h
  | cons r rs => simp [slowestRide, hv]
theorem mul100_bd {x y : Rd} (hx : VR x.1 x.2.1 x.2.2.1 x.2.2.2) (hy : VR y.1 y.2.1 y.2.2.1 y.2.2.2) :
    0 ≤ 100 * x.2.2.1 * drag y.2.1 y.2.2.2 ∧ 100 * x.2.2.1 * drag y.2.1 y.2.2.2 ≤ 10000000 := by
  have hD := drag_bd hy.w0 hy.w1 hy.b0 hy.b1
  have := hx.p0; have := hx.p1
  have h := mul_bd (a := 100 * x.2.2.1) (b := drag y.2.1 y.2.2.2) (x := 10000) (y := 1000) (by omega) (by omega) (by omega) (by omega)
  omega
theorem mul1_bd {x y : Rd} (hx : VR x.1 x.2.1 x.2.2.1 x.2.2.2) (hy : VR y.1 y.2.1 y.2.2.1 y.2.2.2) :
    0 ≤ x.2.2.1 * drag y.2.1 y.2.2.2 ∧ x.2.2.1 * drag y.2.1 y.2.2.2 ≤ 10000000 := by
  have hD := drag_bd hy.w0 hy.w1 hy.b0 hy.b1
  have := hx.p0; have := hx.p1
  have h := mul_bd (a := x.2.2.1) (b := drag y.2.1 y.2.2.2) (x := 10000) (y := 1000) (by omega) (by omega) (by omega) (by omega)
  omega

set_option maxHeartbeats 1000000 in
theorem specSlowestRide_any (A : Option Addr) (n c : Nat) (l : List Rd) (w : World) (h : RidesAt w A l) (hl : n = l.length) (hn0 : n ≤ 1048576) :
    Calls Try.prog 36 #[.slice A n c] w (Ret w (.tuple #[.int .i64 (slowestRide l).1, .int .i64 (slowestRide l).2])) := by
  have HC := Lib.hid (fun W h' => l03List_any A n c l W h' hl hn0)
  have HL := Lib.hid hl
  clear hl
  cases hv : validL l
  · have E := Lib.hid (show slowestRide l = (0, 1) by simp [slowestRide, hv])
    go_enter Try.func36, Try.ntmps36
    go_wp2_with (go_at_call 60; refine (HC.out _ h).mono ?_; rintro e w' ⟨rfl, rfl⟩)
    go_ret2
    exact ⟨by rw [E.out]; rfl, Below.refl _ _⟩
  · by_cases hz : n = 0
    · have E := Lib.hid (slowestRide_nil hv (by rw [← HL.out]; exact hz))
      have hb : ((n : Int) == 0) = true := by simpa using hz
      clear hz
      go_enter Try.func36, Try.ntmps36
      go_wp2_with (go_at_call 60; refine (HC.out _ h).mono ?_; rintro e w' ⟨rfl, rfl⟩)
      go_ret2
      exact ⟨by rw [E.out]; rfl, Below.refl _ _⟩
    · have hpos : 0 < l.length := by rw [← HL.out]; omega
      have E := Lib.hid (slowestRide_cons hv hpos)
      have hb : ((n : Int) == 0) = false := by simpa using hz
      obtain ⟨h8, hall⟩ := validL_true hv
      rw [← HL.out] at h8
      have HA := Lib.hid hall
      obtain ⟨b, o, rfl, hblt, hc⟩ := h hpos
      have HCELL := Lib.hid hc
      have H := Lib.hid h
      clear h hall hc
      go_enter Try.func36, Try.ntmps36
      go_wp2_with (go_at_call 60; refine (HC.out _ H.out).mono ?_; rintro e w' ⟨rfl, rfl⟩)
      clear hv
      go_loopw [4, 5] (fun u v w' => ∃ (i m : Nat) (hm : m < l.length), u = .int .i64 m ∧ v = .int .i64 i ∧ 1 ≤ i ∧ i ≤ n ∧ m < n ∧ Hid (slow (l[0]'hpos, 0) 1 (l.drop 1) = slow (l[m], (m : Int)) i (l.drop i)) ∧ Below w.heap.size w w') (fun _ v _ => n - (intOf v).toNat)
      case atStart => exact ⟨1, 0, hpos, rfl, rfl, by omega, by omega, by omega, rfl, Below.refl _ _⟩
      case round =>
        obtain ⟨i, m, hm, rfl, rfl, hi1, hin, hmn, HS, hbel⟩ := hrel
        by_cases hlt : i < n
        · have hil : i < l.length := by rw [← HL.out]; exact hlt
          have HRi := Lib.hid ((HCELL.out i hil).bel hbel)
          have HRm := Lib.hid ((HCELL.out m hm).bel hbel)
          have Vi := Lib.hid (VR.of4 (all_at HA.out hil))
          have Vm := Lib.hid (VR.of4 (all_at HA.out hm))
          have b1 := mul100_bd Vi.out Vm.out
          have b2 := mul100_bd Vm.out Vi.out
          have e1 : IntKind.i64.wrap (100 * l[i].2.2.1 * drag (l[m]'hm).2.1 (l[m]'hm).2.2.2) = 100 * l[i].2.2.1 * drag (l[m]'hm).2.1 (l[m]'hm).2.2.2 := IntWalk.i64_in _ (by omega)
          have e2 : IntKind.i64.wrap (100 * (l[m]'hm).2.2.1 * drag l[i].2.1 l[i].2.2.2) = 100 * (l[m]'hm).2.2.1 * drag l[i].2.1 l[i].2.2.2 := IntWalk.i64_in _ (by omega)
          have hst := slow_step hil (l[m]'hm, (m : Int))
          cases hc : slower l[i] (l[m]'hm)
          · have hc' := slower_100 l[i] (l[m]'hm)
            rw [hc] at hc'
            have HS2 : Hid (slow (l[0]'hpos, 0) 1 (l.drop 1) = slow (l[m]'hm, (m : Int)) (i + 1 : Nat) (l.drop (i + 1))) := by show _ = _; rw [HS.out, hst, hc]; rfl
            clear hc hst HS
            go_wp2_with fail
            go_quiet (first
              | (go_at_call 53; first | exact q0 (l03Num_any _ _ _ _ _ _ _ (HRi.out.ride.drewN _) Vi.out.p0 Vi.out.p1) | exact q0 (l03Num_any _ _ _ _ _ _ _ (HRm.out.ride.drewN _) Vm.out.p0 Vm.out.p1))
              | (go_at_call 54; first | exact qN (l03Den_any _ _ _ _ _ _ _ (HRi.out.ride.drewN _) Vi.out) | exact qN (l03Den_any _ _ _ _ _ _ _ (HRm.out.ride.drewN _) Vm.out)))
            go_wp2_with fail
            go_roundw
            case rel => exact ⟨i + 1, m, hm, rfl, by go_num, by omega, by omega, by omega, HS2, below_drewN hbel _⟩
            case measure => simp [intOf]; omega
          · have hc' := slower_100 l[i] (l[m]'hm)
            rw [hc] at hc'
            have HS2 : Hid (slow (l[0]'hpos, 0) 1 (l.drop 1) = slow (l[i], (i : Int)) (i + 1 : Nat) (l.drop (i + 1))) := by show _ = _; rw [HS.out, hst, hc]; rfl
            clear hc hst HS
            go_wp2_with fail
            go_quiet (first
              | (go_at_call 53; first | exact q0 (l03Num_any _ _ _ _ _ _ _ (HRi.out.ride.drewN _) Vi.out.p0 Vi.out.p1) | exact q0 (l03Num_any _ _ _ _ _ _ _ (HRm.out.ride.drewN _) Vm.out.p0 Vm.out.p1))
              | (go_at_call 54; first | exact qN (l03Den_any _ _ _ _ _ _ _ (HRi.out.ride.drewN _) Vi.out) | exact qN (l03Den_any _ _ _ _ _ _ _ (HRm.out.ride.drewN _) Vm.out)))
            go_wp2_with fail
            go_roundw
            case rel => exact ⟨i + 1, i, hil, rfl, by go_num, by omega, by omega, by omega, HS2, below_drewN hbel _⟩
            case measure => simp [intOf]; omega
        · have HS2 : Hid (slow (l[0]'hpos, 0) 1 (l.drop 1) = (m : Int)) := by
            show _ = _; rw [HS.out, List.drop_of_length_le (by rw [← HL.out]; omega)]; rfl
          go_wp2_with fail
          go_ret2
          exact ⟨by rw [E.out, HS2.out]; rfl, hbel⟩

set_option maxHeartbeats 2000000 in
theorem implSlowestRide_any (A : Option Addr) (n c : Nat) (l : List Rd) (w : World) (h : RidesAt w A l) (hl : n = l.length) (hn0 : n ≤ 1048576) :
    Calls Try.prog 37 #[.slice A n c] w (Ret w (.tuple #[.int .i64 (slowestRide l).1, .int .i64 (slowestRide l).2])) := by
  have HC := Lib.hid (fun W h' => validRides_any A n c l W h' hl hn0)
  have HL := Lib.hid hl
  clear hl
  cases hv : validL l
  · have E := Lib.hid (show slowestRide l = (0, 1) by simp [slowestRide, hv])
    go_enter Try.func37, Try.ntmps37
    go_wp2_with (go_at_call 61; refine (HC.out _ h).mono ?_; rintro e w1 ⟨rfl, hb1⟩)
    go_ret2
    exact ⟨by rw [E.out]; rfl, hb1⟩
  · by_cases hz : n = 0
    · have E := Lib.hid (slowestRide_nil hv (by rw [← HL.out]; exact hz))
      have hb : ((n : Int) == 0) = true := by simpa using hz
      clear hz
      go_enter Try.func37, Try.ntmps37
      go_wp2_with (go_at_call 61; refine (HC.out _ h).mono ?_; rintro e w1 ⟨rfl, hb1⟩)
      go_ret2
      exact ⟨by rw [E.out]; rfl, hb1⟩
    · have hpos : 0 < l.length := by rw [← HL.out]; omega
      have E := Lib.hid (slowestRide_cons hv hpos)
      have hb : ((n : Int) == 0) = false := by simpa using hz
      obtain ⟨h8, hall⟩ := validL_true hv
      rw [← HL.out] at h8
      have HA := Lib.hid hall
      obtain ⟨b, o, rfl, hblt, hc⟩ := h hpos
      have HCELL := Lib.hid hc
      have H := Lib.hid h
      clear h hall hc
      go_enter Try.func37, Try.ntmps37
      go_wp2_with (go_at_call 61; refine (HC.out _ H.out).mono ?_; rintro e w1 ⟨rfl, hb1⟩)
      clear hv
      go_loopw [4, 17] (fun u v w' => ∃ (i m : Nat) (hm : m < l.length), u = .int .i64 m ∧ v = .int .i64 i ∧ i ≤ n ∧ m < n ∧ Hid (slow (l[0]'hpos, 0) 1 (l.drop 1) = slow (l[m], (m : Int)) i (l.drop i)) ∧ Below w.heap.size w w') (fun _ v _ => n - (intOf v).toNat)
      case atStart =>
        refine ⟨0, 0, hpos, rfl, rfl, by omega, by omega, ?_, hb1⟩
        have hst := slow_step hpos (l[0]'hpos, ((0 : Nat) : Int))
        rw [slower_self] at hst
        show slow (l[0]'hpos, 0) 1 (l.drop 1) = slow (l[0]'hpos, ((0 : Nat) : Int)) ((0 : Nat) : Int) (l.drop 0)
        rw [hst]; rfl
      case round =>
        obtain ⟨i, m, hm, rfl, rfl, hin, hmn, HS, hbel⟩ := hrel
        by_cases hlt : i < n
        · have hil : i < l.length := by rw [← HL.out]; exact hlt
          obtain ⟨c0, c1, c2, c3⟩ := (HCELL.out i hil).bel hbel
          obtain ⟨m0, m1, m2, m3⟩ := (HCELL.out m hm).bel hbel
          have Vi := Lib.hid (VR.of4 (all_at HA.out hil))
          have Vm := Lib.hid (VR.of4 (all_at HA.out hm))
          have b1 := mul1_bd Vi.out Vm.out
          have b2 := mul1_bd Vm.out Vi.out
          have hst := slow_step hil (l[m]'hm, (m : Int))
          have d0 := fun ob => bel_cell ((Below.refl wr.heap.size wr).alloc (Nat.le_refl _) ob) m0
          have d1 := fun ob => bel_cell ((Below.refl wr.heap.size wr).alloc (Nat.le_refl _) ob) m1
          have d2 := fun ob => bel_cell ((Below.refl wr.heap.size wr).alloc (Nat.le_refl _) ob) m2
          have d3 := fun ob => bel_cell ((Below.refl wr.heap.size wr).alloc (Nat.le_refl _) ob) m3
          have hsz := hbel.size
          go_wp2_with fail
          have e1 : IntKind.i64.wrap (l[i].2.2.1 * drag (l[m]'hm).2.1 (l[m]'hm).2.2.2) = l[i].2.2.1 * drag (l[m]'hm).2.1 (l[m]'hm).2.2.2 := IntWalk.i64_in _ (by omega)
          have e2 : IntKind.i64.wrap ((l[m]'hm).2.2.1 * drag l[i].2.1 l[i].2.2.2) = (l[m]'hm).2.2.1 * drag l[i].2.1 l[i].2.2.2 := IntWalk.i64_in _ (by omega)
          cases hc : slower l[i] (l[m]'hm)
          · have hc' : decide (l[i].2.2.1 * drag (l[m]'hm).2.1 (l[m]'hm).2.2.2 < (l[m]'hm).2.2.1 * drag l[i].2.1 l[i].2.2.2) = false := hc
            have HS2 : Hid (slow (l[0]'hpos, 0) 1 (l.drop 1) = slow (l[m]'hm, (m : Int)) (i + 1 : Nat) (l.drop (i + 1))) := by show _ = _; rw [HS.out, hst, hc]; rfl
            clear hc hst HS
            go_region_held3 (fun w' => w'.cell? ⟨wr.heap.size, 0, none⟩ = some (.int .i64 l[i].1) ∧ w'.cell? ⟨wr.heap.size, 1, none⟩ = some (.int .i64 l[i].2.1) ∧ w'.cell? ⟨wr.heap.size, 2, none⟩ = some (.int .i64 l[i].2.2.1) ∧ w'.cell? ⟨wr.heap.size, 3, none⟩ = some (.int .i64 l[i].2.2.2) ∧
                w'.cell? ⟨b, o + m * 4, none⟩ = some (.int .i64 (l[m]'hm).1) ∧ w'.cell? ⟨b, o + m * 4 + 1, none⟩ = some (.int .i64 (l[m]'hm).2.1) ∧ w'.cell? ⟨b, o + m * 4 + 2, none⟩ = some (.int .i64 (l[m]'hm).2.2.1) ∧ w'.cell? ⟨b, o + m * 4 + 3, none⟩ = some (.int .i64 (l[m]'hm).2.2.2) ∧
                Below w.heap.size w w')
              (first
                | (refine ⟨?_, ?_, ?_, ?_, ?_, ?_, ?_, ?_, ?_⟩ <;> first | (simp [d0, d1, d2, d3]; done) | go_cell | (go_grown; done))
                | (go_split_ands; refine ⟨?_, ?_, ?_, ?_, ?_, ?_, ?_, ?_, ?_⟩ <;> first | exact bel_cell hb4 (by assumption) | exact bel_next (by assumption) hb4))
              (first
                | (go_at_call 55; ((with_reducible refine (drag_any _ _ _ _ _ Vi.out).mono ?_); rintro e w4 ⟨rfl, hb4⟩))
                | (go_at_call 55; ((with_reducible refine (drag_any _ _ _ _ _ Vm.out).mono ?_); rintro e w4 ⟨rfl, hb4⟩)))
            obtain ⟨x0, x1, x2, x3, y0, y1, y2, y3, D⟩ := ‹_ ∧ _ ∧ _ ∧ _ ∧ _ ∧ _ ∧ _ ∧ _ ∧ _›
            go_wp2_with fail
            go_roundw
            case rel => exact ⟨i + 1, m, hm, rfl, by go_num, by omega, by omega, HS2, D⟩
            case measure => simp [intOf]; omega
          · have hc' : decide (l[i].2.2.1 * drag (l[m]'hm).2.1 (l[m]'hm).2.2.2 < (l[m]'hm).2.2.1 * drag l[i].2.1 l[i].2.2.2) = true := hc
            have HS2 : Hid (slow (l[0]'hpos, 0) 1 (l.drop 1) = slow (l[i], (i : Int)) (i + 1 : Nat) (l.drop (i + 1))) := by show _ = _; rw [HS.out, hst, hc]; rfl
            clear hc hst HS
            go_region_held3 (fun w' => w'.cell? ⟨wr.heap.size, 0, none⟩ = some (.int .i64 l[i].1) ∧ w'.cell? ⟨wr.heap.size, 1, none⟩ = some (.int .i64 l[i].2.1) ∧ w'.cell? ⟨wr.heap.size, 2, none⟩ = some (.int .i64 l[i].2.2.1) ∧ w'.cell? ⟨wr.heap.size, 3, none⟩ = some (.int .i64 l[i].2.2.2) ∧
                w'.cell? ⟨b, o + m * 4, none⟩ = some (.int .i64 (l[m]'hm).1) ∧ w'.cell? ⟨b, o + m * 4 + 1, none⟩ = some (.int .i64 (l[m]'hm).2.1) ∧ w'.cell? ⟨b, o + m * 4 + 2, none⟩ = some (.int .i64 (l[m]'hm).2.2.1) ∧ w'.cell? ⟨b, o + m * 4 + 3, none⟩ = some (.int .i64 (l[m]'hm).2.2.2) ∧
                Below w.heap.size w w')
              (first
                | (refine ⟨?_, ?_, ?_, ?_, ?_, ?_, ?_, ?_, ?_⟩ <;> first | (simp [d0, d1, d2, d3]; done) | go_cell | (go_grown; done))
                | (go_split_ands; refine ⟨?_, ?_, ?_, ?_, ?_, ?_, ?_, ?_, ?_⟩ <;> first | exact bel_cell hb4 (by assumption) | exact bel_next (by assumption) hb4))
              (first
                | (go_at_call 55; ((with_reducible refine (drag_any _ _ _ _ _ Vi.out).mono ?_); rintro e w4 ⟨rfl, hb4⟩))
                | (go_at_call 55; ((with_reducible refine (drag_any _ _ _ _ _ Vm.out).mono ?_); rintro e w4 ⟨rfl, hb4⟩)))
            obtain ⟨x0, x1, x2, x3, y0, y1, y2, y3, D⟩ := ‹_ ∧ _ ∧ _ ∧ _ ∧ _ ∧ _ ∧ _ ∧ _ ∧ _›
            go_wp2_with fail
            go_roundw
            case rel => exact ⟨i + 1, i, hil, rfl, by go_num, by omega, by omega, HS2, D⟩
            case measure => simp [intOf]; omega
        · have HS2 : Hid (slow (l[0]'hpos, 0) 1 (l.drop 1) = (m : Int)) := by
            show _ = _; rw [HS.out, List.drop_of_length_le (by rw [← HL.out]; omega)]; rfl
          go_wp2_with fail
          go_ret2
          exact ⟨by rw [E.out, HS2.out]; rfl, hbel⟩

end Go.Proofs.Ytnipibccbegfoaa
