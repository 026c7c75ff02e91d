/-
  CONTRACTS of PlaceAfter.
-/
import Derived.Test.YtnipibccbegfoaaRideList3
import Derived.Test.YtnipibccbegfoaaRide3
namespace Go.Proofs.Ytnipibccbegfoaa
open Go.RowKit

def pv (x : Int × (Int × Int) × Int) : Value := .tuple #[.int .i64 x.1, .agg #[.int .i64 x.2.1.1, .int .i64 x.2.1.2], .int .i64 x.2.2]
theorem place_step {l : List Rd} {i : Nat} (hi : i < l.length) (t : Int) : place i t (l.drop i) = if t < tk4 l[i] then some ((i : Int), t, l[i]) else place (i + 1 : Nat) (t - tk4 l[i]) (l.drop (i + 1)) := by
  rw [drop_at hi]
  simp only [place]
  rfl
theorem placeMul_bd {x : Rd} (hx : VR x.1 x.2.1 x.2.2.1 x.2.2.2) {t : Int} (t0 : 0 ≤ t) (t1 : t ≤ 1000000) :
    0 ≤ t * (100 * x.2.2.1) ∧ t * (100 * x.2.2.1) ≤ 10000000000 := by
  have := hx.p0; have := hx.p1
  have h := mul_bd (a := t) (b := 100 * x.2.2.1) (x := 1000000) (y := 10000) (by omega) (by omega) (by omega) (by omega)
  omega

def placed : Option (Int × Int × Rd) → Int × (Int × Int) × Int
  | none => (0, (0, 0), 3)
  | some (i, t, r) => (i, (100 * r.2.2.1 * t / gcdI (100 * r.2.2.1 * t) (dr4 r), dr4 r / gcdI (100 * r.2.2.1 * t) (dr4 r)), 0)
theorem placeAfter_yes {l : List Rd} {ticks : Int} (hv : validL l = true) (hi : inB ticks 0 1000000 = true) : placeAfter l ticks = placed (place 0 ticks l) := by
  unfold placeAfter
  rw [if_pos hv, if_pos hi]
  rcases place 0 ticks l with _ | ⟨i, t, r⟩ <;> rfl

set_option maxHeartbeats 2000000 in
theorem specPlaceAfter_any (A : Option Addr) (n c : Nat) (l : List Rd) (ticks : Int) (w : World) (h : RidesAt w A l) (hl : n = l.length) (hn0 : n ≤ 1048576) :
    Calls Try.prog 38 #[.slice A n c, .int .i64 ticks] w (Ret w (pv (placeAfter l ticks))) := by
  have HC := Lib.hid (fun W h' => l03List_any A n c l W h' hl hn0)
  have HL := Lib.hid hl
  clear hl
  cases hv : validL l
  · have E := Lib.hid (show placeAfter l ticks = (0, (0, 0), 1) by simp [placeAfter, hv])
    have H := Lib.hid h
    clear h
    go_enter Try.func38, Try.ntmps38
    go_wp2_with (go_at_call 60; refine (HC.out _ (H.out.alloc _)).mono ?_; rintro e w' ⟨rfl, rfl⟩)
    go_returns
    exact ⟨by rw [E.out]; rfl, by go_grown⟩
  · cases hi : inB ticks 0 1000000
    · have E := Lib.hid (show placeAfter l ticks = (0, (0, 0), 2) by simp [placeAfter, hv, hi])
      have H := Lib.hid h
      clear h
      go_enter Try.func38, Try.ntmps38
      go_wp2_with (first
        | (go_at_call 60; refine (HC.out _ (H.out.alloc _)).mono ?_; rintro e w' ⟨rfl, rfl⟩)
        | (go_at_call 52; refine (l00In_any _ _ _ _).mono ?_; rintro e w' ⟨rfl, rfl⟩))
      go_returns
      exact ⟨by rw [E.out]; rfl, by go_grown⟩
    · have E := Lib.hid (placeAfter_yes hv hi)
      obtain ⟨h8, hall⟩ := validL_true hv
      rw [← HL.out] at h8
      have HA := Lib.hid hall
      have H := Lib.hid h
      have hin0 := inB_true hi
      clear h hall
      go_enter Try.func38, Try.ntmps38
      go_wp2_with (first
        | (go_at_call 60; refine (HC.out _ (H.out.alloc _)).mono ?_; rintro e w' ⟨rfl, rfl⟩)
        | (go_at_call 52; refine (l00In_any _ _ _ _).mono ?_; rintro e w' ⟨rfl, rfl⟩))
      clear hv hi
      go_loopw [1, 7] (fun u v w' => ∃ (i : Nat) (t : Int), u = .int .i64 t ∧ v = .int .i64 i ∧ i ≤ n ∧ 0 ≤ t ∧ t ≤ 1000000 ∧ Hid (place 0 ticks l = place i t (l.drop i)) ∧ Hid (Blk w' w.heap.size 37 #[.int .i64 0, .int .i64 0]) ∧ Below w.heap.size w w') (fun _ v _ => n - (intOf v).toNat)
      case atStart => exact ⟨0, ticks, rfl, rfl, by omega, by omega, by omega, rfl, Blk.new _ _ _, by go_grown⟩
      case round =>
        obtain ⟨i, t, rfl, rfl, hin, t0, t1, HS, HB, hbel⟩ := hrel
        clear hin0
        by_cases hlt : i < n
        · have hil : i < l.length := by rw [← HL.out]; exact hlt
          obtain ⟨b, o, rfl, hblt, hc⟩ := H.out (by omega)
          have HR := Lib.hid ((hc i hil).bel hbel)
          have HV := Lib.hid (VR.of4 (all_at HA.out hil))
          have hbd := vr4_bd (all_at HA.out hil)
          have hst := place_step hil t
          have hD := drag_bd HV.out.w0 HV.out.w1 HV.out.b0 HV.out.b1
          have hm := placeMul_bd HV.out t0 t1
          have e1 : IntKind.i64.wrap (t * (100 * l[i].2.2.1)) = t * (100 * l[i].2.2.1) := IntWalk.i64_in _ (by omega)
          by_cases ht : t < tk4 l[i]
          · have HS2 : Hid (place 0 ticks l = some ((i : Int), t, l[i])) := by show _ = _; rw [HS.out, hst, if_pos ht]
            clear hst
            go_wp2_with (go_at_call 50; refine (l03Ticks_any _ _ _ _ _ _ _ HR.out.ride HV.out).mono ?_; rintro e w2 ⟨rfl, m, rfl⟩; rw [show tk l[i].1 (drag l[i].2.1 l[i].2.2.2) (100 * l[i].2.2.1) = tk4 l[i] from rfl])
            have HB2 : Hid (Blk (wr.drewN m) w.heap.size _ _) := HB.out.drewN m
            have hbel2 := below_drewN hbel m
            have HR2 := Lib.hid ((hc i hil).bel hbel2)
            clear HB HR hbel
            generalize wr.drewN m = wq at HB2 hbel2 HR2 ⊢
            go_region_with (first
              | (go_at_call 53; refine (l03Num_any _ _ _ _ _ _ _ (by first | exact HR2.out.ride.drewN _ | exact HR2.out.drew.ride | exact HR2.out.ride) HV.out.p0 HV.out.p1).mono ?_; rintro e w2 ⟨rfl, rfl⟩)
              | (go_at_call 54; refine (l03Den_any _ _ _ _ _ _ _ (by first | exact HR2.out.ride.drewN _ | exact HR2.out.drew.ride | exact HR2.out.ride) HV.out).mono ?_; rintro e w2 ⟨rfl, q, rfl⟩)
              | (go_at_call 58; refine (l02Make_any _ _ _ (by omega) (by omega) (by omega) (by omega)).mono ?_; rintro e w3 ⟨rfl, hb3⟩; obtain ⟨k0, k1, f0, f1⟩ := (bel_blk (HB2.out.drewN _) hb3).c2))
            go_wp2_with fail
            refine bodyPost_ret (v := pv (i, (t * (100 * l[i].2.2.1) / gcdI (t * (100 * l[i].2.2.1)) (drag l[i].2.1 l[i].2.2.2), drag l[i].2.1 l[i].2.2.2 / gcdI (t * (100 * l[i].2.2.1)) (drag l[i].2.1 l[i].2.2.2)), 0)) (by simp [results, Try.results38, go_sem, k0, k1, pv]) rfl ?_
            refine ⟨by rw [E.out, HS2.out, placed, Int.mul_comm (100 * l[i].2.2.1) t]; rfl, ?_⟩
            exact (((below_drewN hbel2 _).trans (hb3.mono (below_drewN hbel2 _).size)).setCell (by simp) _).setCell (by simp) _
          · have HS2 : Hid (place 0 ticks l = place (i + 1 : Nat) (t - tk4 l[i]) (l.drop (i + 1))) := by show _ = _; rw [HS.out, hst, if_neg ht]
            clear hst
            go_wp2_with (go_at_call 50; refine (l03Ticks_any _ _ _ _ _ _ _ HR.out.ride HV.out).mono ?_; rintro e w2 ⟨rfl, m, rfl⟩; rw [show tk l[i].1 (drag l[i].2.1 l[i].2.2.2) (100 * l[i].2.2.1) = tk4 l[i] from rfl])
            go_roundw
            case rel => exact ⟨i + 1, t - tk4 l[i], rfl, by go_num, by omega, by omega, by omega, HS2, HB.out.drewN _, below_drewN hbel _⟩
            case measure => simp [intOf]; omega
        · have HS2 : Hid (place 0 ticks l = none) := by
            show _ = _; rw [HS.out, List.drop_of_length_le (by rw [← HL.out]; omega)]; rfl
          obtain ⟨k0, k1, f0, f1⟩ := HB.out.c2
          go_wp2_with fail
          refine bodyPost_ret (v := pv (0, (0, 0), 3)) (by simp [results, Try.results38, go_sem, k0, k1, pv]) rfl ?_
          refine ⟨by rw [E.out, HS2.out]; rfl, ?_⟩
          exact (hbel.setCell (by simp) _).setCell (by simp) _

theorem implPlaceAfter_no (A : Option Addr) (n c : Nat) (l : List Rd) (ticks : Int) (w : World) (h : RidesAt w A l) (hl : n = l.length) (hn0 : n ≤ 1048576) (k : Int)
    (hk : (if validL l then (if inB ticks 0 1000000 then 0 else 2) else 1 : Int) = k) (hk0 : (k != 0) = true) :
    Calls Try.prog 39 #[.slice A n c, .int .i64 ticks] w (Ret w (pv (0, (0, 0), k))) := by
  have HC := Lib.hid (fun W h' => validRides_any A n c l W h' hl hn0)
  have HK := Lib.hid hk
  have H := Lib.hid h
  clear hl hk h
  go_enter Try.func39, Try.ntmps39
  go_wp2_with fail
  refine (HC.out _ (H.out.alloc _)).mono ?_
  rintro e w1 ⟨rfl, hb1⟩
  obtain ⟨k0, k1, f0, f1⟩ := (bel_blk (Blk.new _ _ _) hb1).c2
  have D1 : Below w.heap.size w w1 := bel_next ((Below.refl _ _).alloc (Nat.le_refl _) _) hb1
  clear hb1
  go_wp2_with fail
  refine (ticksCode_any _ _ _).mono ?_
  rintro e w' ⟨rfl, rfl⟩
  rw [HK.out]
  go_wp2_with fail

  refine bodyPost_ret (v := pv (0, (0, 0), k)) (by simp [results, Try.results39, go_sem, k0, k1, pv]) rfl ?_
  exact ⟨rfl, (D1.setCell (by simp) _).setCell (by simp) _⟩

set_option maxHeartbeats 4000000 in
theorem implPlaceAfter_yes (A : Option Addr) (n c : Nat) (l : List Rd) (ticks : Int) (w : World) (h : RidesAt w A l) (hl : n = l.length) (hn0 : n ≤ 1048576) (hv : validL l = true) (hi : inB ticks 0 1000000 = true) :
    Calls Try.prog 39 #[.slice A n c, .int .i64 ticks] w (Ret w (pv (placeAfter l ticks))) := by
  have HC := Lib.hid (fun W h' => validRides_any A n c l W h' hl hn0)
  have HL := Lib.hid hl
  have E := Lib.hid (placeAfter_yes hv hi)
  obtain ⟨h8, hall⟩ := validL_true hv
  rw [← HL.out] at h8
  have HA := Lib.hid hall
  have H := Lib.hid h
  have hin0 := inB_true hi
  have HV1 := Lib.hid hv
  have HI1 := Lib.hid hi
  clear h hall hl hv hi
  go_enter Try.func39, Try.ntmps39
  go_wp2_with fail
  refine (HC.out _ (H.out.alloc _)).mono ?_
  rintro e w1 ⟨rfl, hb1⟩
  have X1 : Hid (Blk w1 w.heap.size _ _) := bel_blk (Blk.new _ _ _) hb1
  have D1 : Below w.heap.size w w1 := bel_next ((Below.refl _ _).alloc (Nat.le_refl _) _) hb1
  clear hb1
  go_wp2_with (go_at_call 57; refine (ticksCode_any _ _ _).mono ?_; rintro e w' ⟨rfl, rfl⟩; rw [HV1.out, HI1.out])
  go_loopw [1, 20] (fun u v w' => ∃ (i : Nat) (t : Int), u = .int .i64 t ∧ v = .int .i64 i ∧ i ≤ n ∧ 0 ≤ t ∧ t ≤ 1000000 ∧ Hid (place 0 ticks l = place i t (l.drop i)) ∧ Hid (Blk w' w.heap.size 37 #[.int .i64 0, .int .i64 0]) ∧ Below w.heap.size w w') (fun _ v _ => n - (intOf v).toNat)
  case atStart => exact ⟨0, ticks, rfl, rfl, by omega, by omega, by omega, rfl, X1, D1⟩
  case round =>
    obtain ⟨i, t, rfl, rfl, hin, t0, t1, HS, HB, hbel⟩ := hrel
    clear hin0 X1 D1
    by_cases hlt : i < n
    · have hil : i < l.length := by rw [← HL.out]; exact hlt
      obtain ⟨b, o, rfl, hblt, hc⟩ := H.out (by omega)
      obtain ⟨c0, c1, c2, c3⟩ := (hc i hil).bel hbel
      have HV := Lib.hid (VR.of4 (all_at HA.out hil))
      have hbd := vr4_bd (all_at HA.out hil)
      have hst := place_step hil t
      have hD := drag_bd HV.out.w0 HV.out.w1 HV.out.b0 HV.out.b1
      have hm := placeMul_bd HV.out t0 t1
      rw [Int.mul_comm] at hm
      have hP := And.intro HV.out.p0 HV.out.p1
      clear hc
      go_wp2_with fail
      refine (ticks_any _ _ _ _ _ HV.out).mono ?_
      rintro e w2 ⟨rfl, hb2⟩
      rw [show tk l[i].1 (drag l[i].2.1 l[i].2.2.2) (100 * l[i].2.2.1) = tk4 l[i] from rfl]
      have D2 : Below w.heap.size w w2 := bel_next (hbel.alloc hbel.size _) hb2
      have Q2 : Hid (Blk w2 w.heap.size _ _) := bel_blk (HB.out.alloc _) hb2
      have X2 : Hid (Blk w2 wr.heap.size 26 #[.int .i64 l[i].1, .int .i64 l[i].2.1, .int .i64 l[i].2.2.1, .int .i64 l[i].2.2.2]) := bel_blk (Blk.new _ _ _) hb2
      obtain ⟨c0, c1, c2, c3, -⟩ := X2.out.c4
      have s2 := X2.out.lt
      clear hb2 HB hbel
      by_cases ht : t < tk4 l[i]
      · have HS2 : Hid (place 0 ticks l = some ((i : Int), t, l[i])) := by show _ = _; rw [HS.out, hst, if_pos ht]
        have e1 : IntKind.i64.wrap (100 * l[i].2.2.1) = 100 * l[i].2.2.1 := IntWalk.i64_in _ (by omega)
        have e2 : IntKind.i64.wrap (100 * l[i].2.2.1 * t) = 100 * l[i].2.2.1 * t := IntWalk.i64_in _ (by omega)
        clear hst
        go_wp2_with fail
        go_region_with (first
          | (go_at_call 55; refine (drag_any _ _ _ _ _ HV.out).mono ?_; rintro e w3 ⟨rfl, hb3⟩; obtain ⟨c0, c1, c2, c3, -⟩ := (bel_blk (Blk.drew X2.out) hb3).c4; have Q3 : Hid (Blk w3 w.heap.size _ _) := bel_blk (Blk.drew Q2.out) hb3; have D3 : Below w.heap.size w w3 := bel_next D2.drew hb3)
          | (go_at_call 59; refine (lowest_any _ _ _ (by omega) (by omega) (by omega) (by omega)).mono ?_; rintro e w4 ⟨rfl, hb4⟩; obtain ⟨k0, k1, g0, g1⟩ := (bel_blk Q3.out hb4).c2))
        all_goals
          go_wp2_with fail
          refine bodyPost_ret (v := pv (i, (100 * l[i].2.2.1 * t / gcdI (100 * l[i].2.2.1 * t) (drag l[i].2.1 l[i].2.2.2), drag l[i].2.1 l[i].2.2.2 / gcdI (100 * l[i].2.2.1 * t) (drag l[i].2.1 l[i].2.2.2)), 0)) (by simp [results, Try.results39, go_sem, k0, k1, pv]) rfl ?_
          refine ⟨by rw [E.out, HS2.out, placed]; rfl, ?_⟩
          exact ((bel_next D3 hb4).setCell (by simp) _).setCell (by simp) _
      · have HS2 : Hid (place 0 ticks l = place (i + 1 : Nat) (t - tk4 l[i]) (l.drop (i + 1))) := by show _ = _; rw [HS.out, hst, if_neg ht]
        clear hst
        go_wp2_with fail
        refine (ticks_any _ _ _ _ _ HV.out).mono ?_
        rintro e w3 ⟨rfl, hb3⟩
        rw [show tk l[i].1 (drag l[i].2.1 l[i].2.2.2) (100 * l[i].2.2.1) = tk4 l[i] from rfl]
        go_wp2_with fail
        go_roundw
        case rel => exact ⟨i + 1, t - tk4 l[i], rfl, by go_num, by omega, by omega, by omega, HS2, hid_blk Q2 hb3, bel_next D2 hb3⟩
        case measure => simp [intOf]; omega
    · have HS2 : Hid (place 0 ticks l = none) := by
        show _ = _; rw [HS.out, List.drop_of_length_le (by rw [← HL.out]; omega)]; rfl
      obtain ⟨k0, k1, f0, f1⟩ := HB.out.c2
      go_wp2_with fail
      refine bodyPost_ret (v := pv (0, (0, 0), 3)) (by simp [results, Try.results39, go_sem, k0, k1, pv]) rfl ?_
      refine ⟨by rw [E.out, HS2.out]; rfl, ?_⟩
      exact (hbel.setCell (by simp) _).setCell (by simp) _

theorem implPlaceAfter_any (A : Option Addr) (n c : Nat) (l : List Rd) (ticks : Int) (w : World) (h : RidesAt w A l) (hl : n = l.length) (hn0 : n ≤ 1048576) :
    Calls Try.prog 39 #[.slice A n c, .int .i64 ticks] w (Ret w (pv (placeAfter l ticks))) := by
  cases hv : validL l
  · rw [show placeAfter l ticks = (0, (0, 0), 1) by simp [placeAfter, hv]]
    exact implPlaceAfter_no A n c l ticks w h hl hn0 1 (by simp [hv]) (by decide)
  · cases hi : inB ticks 0 1000000
    · rw [show placeAfter l ticks = (0, (0, 0), 2) by simp [placeAfter, hv, hi]]
      exact implPlaceAfter_no A n c l ticks w h hl hn0 2 (by simp [hv, hi]) (by decide)
    · exact implPlaceAfter_yes A n c l ticks w h hl hn0 hv hi

end Go.Proofs.Ytnipibccbegfoaa
