/-
  CONTRACTS: the ticks of all runs in each tube (printed by tools/gen_used.py).
-/
import Derived.Test.YtlebkjkiikehhaaUsed
import Derived.Laws.OwnMore
namespace Go.Proofs.Ytlebkjkiikehhaa
open Go.RowKit

set_option maxHeartbeats 4000000 in
set_option maxRecDepth 100000 in
theorem specUsed_any (A0 : Option Addr) (m c0 : Nat) (ts : List Int) (A : Option Addr) (n c : Nat) (l : List Rn) (w : World) (h0 : IntsAt w A0 ts) (hl0 : m = ts.length) (hm : m ≤ 1048576) (h : RunsAt w A l) (hl : n = l.length) (hs : Small l) :
    Calls Try.prog 18 #[.slice A0 m c0, .slice A n c] w (MadeIC w 2 (usedR ts l).1 (usedR ts l).2) := by
  obtain ⟨i0, hi, hz0, hz1, hz2⟩ := info_parts info_int64M
  have hmk := fun W (hm4 : m ≤ 24) => run_make_rowN (P := Try.prog) 39 2 i0 _ Try.underlying39 hi hz0 .i64 .i64 m m (Nat.le_refl _) (by rw [hz2]; omega) (by omega) W
  have HMK := Lib.hid hmk
  have HI := Lib.hid hz1
  have H := Lib.hid h
  have HL := Lib.hid hl
  have H0 := Lib.hid h0
  have HL0 := Lib.hid hl0
  have HS := Lib.hid hs
  have hn0 : n ≤ 1048576 := by rw [hl]; exact hs.1
  clear h hl h0 hl0 hs hz1 hz2 hz0 hi hmk
  go_enter Try.func18, Try.ntmps18
  go_wp2_with fail
  refine (l06Ok_any A0 m c0 ts A n c l _ H0.out HL0.out hm H.out HL.out HS.out).mono ?_
  rintro e w1 ⟨rfl, rfl⟩
  have hb1 := Below.refl w.heap.size w
  cases hv : runsOk ts l
  · have E : Hid (usedR ts l = ([], 1)) := by show _ = _; simp [usedR, hv]
    clear hv
    go_wp2_with fail
    refine bodyPost_ret (v := .tuple #[.slice none 0 0, .int .i64 1]) (by simp [results, Try.results18, go_sem]) rfl ?_
    rw [E.out]
    exact ⟨none, 0, rfl, own_none _ _ _, hb1⟩
  · have E : Hid (usedR ts l = (usedF ts (List.replicate ts.length 0) l, 0)) := by show _ = _; simp [usedR, hv]
    obtain ⟨hvt, hl12, hev⟩ := runsOk_true hv
    obtain ⟨m1, m2, hts⟩ := validT_true hvt
    rw [← HL.out] at hl12
    rw [← HL0.out] at m1 m2 E
    have HEV := Lib.hid hev
    have HTS := Lib.hid hts
    have hmk := HMK.out w m2
    obtain ⟨b2, o2, rfl, hb2lt, hc2⟩ := H0.out (by rw [← HL0.out]; omega)
    have HC2 := Lib.hid hc2
    clear hc2
    obtain ⟨F, hF⟩ : ∃ F, usedF ts (List.replicate m 0) l = F := ⟨_, rfl⟩
    rw [hF] at E
    have HF : Hid (usedF ts (List.replicate m 0) (l.drop 0) = F) := hF
    have hB0 : (madeCells (Value.int .i64 0).cells (m * i0.size)) = ints (List.replicate m 0) := by
      rw [HI.out, Nat.mul_one]
      apply Array.toList_inj.1
      show (madeCells #[Value.int .i64 0] m).toList = _
      rw [toList_madeCells_one]
      simp [ints]
    rw [hB0] at hmk
    have HO0 : Hid (OwnU (w.alloc (.cells (ints (List.replicate m 0)) 2)) w.heap.size m 2 (List.replicate m 0)) := OwnU.ofBlk (Blk.new _ _ _) (by simp) (by unfold maxLen; omega)
    clear hv hvt hev hts hF hB0
    go_wp2_with fail
    go_loopw [7] (fun u w' => ∃ (i : Nat) (ys : List Int), u = .int .i64 i ∧ i ≤ n ∧ Hid (ys.length = m) ∧ Hid (OwnU w' w.heap.size m 2 ys) ∧ Hid (Sums ys (12000 * i)) ∧ Hid (usedF ts ys (l.drop i) = F) ∧ Below w.heap.size w w') (fun u _ => n - (intOf u).toNat)
    case atStart => exact ⟨0, _, rfl, by omega, by show _ = _; simp, HO0, Sums.zero _, HF, by go_grown⟩
    case round =>
      clear HF HO0 hmk
      obtain ⟨i, ys, rfl, hin, HYL, HO, HSU, HF, hbel⟩ := hrel
      by_cases hlt : i < n
      · have hil : i < l.length := by rw [← HL.out]; exact hlt
        have D := bel_next hb1 hbel
        obtain ⟨b, o, rfl, hblt, hc⟩ := H.out (by omega)
        obtain ⟨A1, c1, t0, t1, hw1, -⟩ := hc i hil
        have hst := usedF_step (ts := ts) (out := ys) hil
        obtain ⟨hway, -, -⟩ := runOk_true (HEV.out i hil)
        obtain ⟨r, hr⟩ : ∃ r, l[i] = r := ⟨_, rfl⟩
        rw [hr] at t0 t1 hw1 hst hway
        obtain ⟨n1, n2, hwy⟩ := wayOk_true hway
        obtain ⟨k, hk⟩ : ∃ k, r.1.length = k := ⟨_, rfl⟩
        rw [hk] at t0 n1 n2
        have HK := Lib.hid hk
        obtain ⟨Y, hY⟩ : ∃ Y, useF ts ys r.1 = Y := ⟨_, rfl⟩
        have HFY : Hid (usedF ts Y (l.drop (i + 1)) = F) := by show _ = _; rw [← hY, ← hst]; exact HF.out
        have HY : Hid (useF ts ys (r.1.drop 0) = Y) := hY
        have HWY := Lib.hid hwy
        obtain ⟨wp, rfl⟩ : ∃ wp : World, wp = wr := ⟨_, rfl⟩
        have T0 := Lib.hid t0
        obtain ⟨b1, o1, rfl, hb1lt, hc1⟩ := hw1 (by omega)
        have HC1 := Lib.hid hc1
        replace t0 := bel_cell D t0
        replace t1 := bel_cell D t1
        clear hway hwy hk hY hst hr hc hc1 HF
        go_wp2_with fail
        go_loopw [8] (fun u w' => ∃ (j : Nat) (zs : List Int), u = .int .i64 j ∧ j ≤ k ∧ Hid (zs.length = m) ∧ Hid (OwnU w' w.heap.size m 2 zs) ∧ Hid (Sums zs (12000 * i + 1000 * j)) ∧ Hid (useF ts zs (r.1.drop j) = Y) ∧ Below w.heap.size w w') (fun u _ => k - (intOf u).toNat)
        case atStart => exact ⟨0, ys, rfl, by omega, HYL, HO.out.bel (by first | exact Below.refl _ _ | go_grown), HSU, HY, bel_next hbel (by first | exact Below.refl _ _ | go_grown)⟩
        case round =>
          clear HY HYL HO HSU t0 t1 hbel D
          obtain ⟨j, zs, rfl, hjk, HYL, HO, HSU, HY, hbel⟩ := hrel
          have D := bel_next hb1 hbel
          have r0 := bel_cell D T0.out
          by_cases hjl : j < k
          · have hjl2 : j < r.1.length := by rw [HK.out]; exact hjl
            have r1 := bel_cell D (HC1.out j hjl2)
            obtain ⟨y0, y1⟩ := HWY.out j hjl2
            obtain ⟨q, hq⟩ : ∃ q : Nat, r.1[j] = q := ⟨r.1[j].toNat, by omega⟩
            have hst := useF_step (ts := ts) (out := zs) hjl2
            rw [hq] at r1 y0 y1 hst
            rw [Int.toNat_natCast] at hst
            have hqm : q < ts.length := by omega
            have hqz : q < zs.length := by rw [HYL.out, HL0.out]; exact hqm
            have r2 := bel_cell D (HC2.out q hqm)
            obtain ⟨z0, z1⟩ := HTS.out q hqm
            obtain ⟨x0, f0, g0⟩ := HO.out.cellAt hqz
            obtain ⟨v0, v1⟩ := HSU.out q hqz
            have hg1 : ts.getD q 0 = ts[q] := by simp [hqm]
            have hg2 : zs.getD q 0 = zs[q] := by simp [hqz]
            rw [hg1, hg2] at hst
            have HSU2 : Hid (Sums (zs.set q (zs[q] + ts[q])) (12000 * i + 1000 * j + 1000)) := HSU.out.set hqz (by omega) z1
            have HO2 := fun (W : World) (h : OwnU W w.heap.size m 2 zs) => h.set q hqz (zs[q] + ts[q])
            obtain ⟨z, hz⟩ : ∃ z, ts[q] = z := ⟨_, rfl⟩
            obtain ⟨y, hy⟩ : ∃ y, zs[q] = y := ⟨_, rfl⟩
            rw [hz] at r2 z0 z1 hst HSU2 HO2
            rw [hy] at x0 v0 v1 hst HSU2 HO2
            have HY2 : Hid (useF ts (zs.set q (y + z)) (r.1.drop (j + 1)) = Y) := by show _ = _; rw [← hst]; exact HY.out
            have HYL2 : Hid ((zs.set q (y + z)).length = m) := by show _ = _; rw [List.length_set]; exact HYL.out
            have hww : IntKind.i64.wrap (y + z) = y + z := by rw [IntKind.wrap_i64]; omega
            have hqm2 : q < m := by rw [HL0.out]; exact hqm
            have hq0 : (0 : Int) ≤ (q : Int) := by omega
            have hq1 : (q : Int) < (m : Int) := by omega
            have hj0 : (0 : Int) ≤ (j : Int) := by omega
            have hj1 : (j : Int) < (k : Int) := by omega
            have hi0 : (0 : Int) ≤ (i : Int) := by omega
            have hi1 : (i : Int) < (n : Int) := by omega
            have HOO := Lib.hid HO2
            have HQ := HO
            clear hst hq hz hy hg1 hg2 hqm hqz HSU HYL HY HO HO2
            go_wp2_with fail
            go_region
            all_goals
              clear hww
              go_wp2_with fail
              go_roundw
              case rel => exact ⟨j + 1, zs.set q (y + z), by go_num, by omega, HYL2, HOO.out _ HQ.out, HSU2, HY2, by first | exact hbel.setCell (by simp) _ | exact (hbel.setCell (by simp) _).drew⟩
              case measure => simp [intOf]; omega
          · have hE : zs = Y := by
              have h5 := HY.out
              rw [List.drop_of_length_le (by rw [HK.out]; omega), useF] at h5
              exact h5
            subst hE
            go_wp2_with fail
            go_roundw
            case rel => exact ⟨i + 1, zs, by go_num, by omega, HYL, HO, HSU.out.mono (by omega), HFY, hbel⟩
            case measure => simp [intOf]; omega
      · have hE : Hid (F = ys) := by show _ = _; rw [← HF.out, List.drop_of_length_le (by rw [← HL.out]; omega), usedF]
        have HR : Hid (MadeIC w 2 F 0 (.returned (.tuple #[.slice (some ⟨w.heap.size, 0, none⟩) m m, .int .i64 0])) wr) := by
          have h5 := HO.out.owns (base := w.heap.size) (Nat.le_refl _)
          refine ⟨some ⟨w.heap.size, 0, none⟩, m, ?_, ?_, bel_next hb1 hbel⟩
          · rw [hE.out, HYL.out]
          · rw [hE.out]; exact h5
        go_wp2_with fail
        refine bodyPost_ret (v := .tuple #[.slice (some ⟨w.heap.size, 0, none⟩) m m, .int .i64 0]) (by simp [results, Try.results18, go_sem]) rfl ?_
        rw [E.out]
        exact HR.out

set_option maxHeartbeats 4000000 in
set_option maxRecDepth 100000 in
theorem implUsed_any (A0 : Option Addr) (m c0 : Nat) (ts : List Int) (A : Option Addr) (n c : Nat) (l : List Rn) (w : World) (h0 : IntsAt w A0 ts) (hl0 : m = ts.length) (hm : m ≤ 1048576) (h : RunsAt w A l) (hl : n = l.length) (hs : Small l) :
    Calls Try.prog 21 #[.slice A0 m c0, .slice A n c] w (MadeIC w 2 (usedR ts l).1 (usedR ts l).2) := by
  obtain ⟨i0, hi, hz0, hz1, hz2⟩ := info_parts info_int64M
  have hmk := fun W (hm4 : m ≤ 24) => run_make_rowN (P := Try.prog) 39 2 i0 _ Try.underlying39 hi hz0 .i64 .i64 m m (Nat.le_refl _) (by rw [hz2]; omega) (by omega) W
  have HMK := Lib.hid hmk
  have HI := Lib.hid hz1
  have H := Lib.hid h
  have HL := Lib.hid hl
  have H0 := Lib.hid h0
  have HL0 := Lib.hid hl0
  have HS := Lib.hid hs
  have hn0 : n ≤ 1048576 := by rw [hl]; exact hs.1
  clear h hl h0 hl0 hs hz1 hz2 hz0 hi hmk
  go_enter Try.func21, Try.ntmps21
  go_wp2_with fail
  refine (implValidRuns_any A0 m c0 ts A n c l _ H0.out HL0.out hm H.out HL.out HS.out).mono ?_
  rintro e w1 ⟨rfl, hb1⟩
  cases hv : runsOk ts l
  · have E : Hid (usedR ts l = ([], 1)) := by show _ = _; simp [usedR, hv]
    clear hv
    go_wp2_with fail
    refine bodyPost_ret (v := .tuple #[.slice none 0 0, .int .i64 1]) (by simp [results, Try.results21, go_sem]) rfl ?_
    rw [E.out]
    exact ⟨none, 0, rfl, own_none _ _ _, hb1⟩
  · have E : Hid (usedR ts l = (usedF ts (List.replicate ts.length 0) l, 0)) := by show _ = _; simp [usedR, hv]
    obtain ⟨hvt, hl12, hev⟩ := runsOk_true hv
    obtain ⟨m1, m2, hts⟩ := validT_true hvt
    rw [← HL.out] at hl12
    rw [← HL0.out] at m1 m2 E
    have HEV := Lib.hid hev
    have HTS := Lib.hid hts
    have hmk := HMK.out w1 m2
    obtain ⟨b2, o2, rfl, hb2lt, hc2⟩ := H0.out (by rw [← HL0.out]; omega)
    have HC2 := Lib.hid hc2
    clear hc2
    obtain ⟨F, hF⟩ : ∃ F, usedF ts (List.replicate m 0) l = F := ⟨_, rfl⟩
    rw [hF] at E
    have HF : Hid (usedF ts (List.replicate m 0) (l.drop 0) = F) := hF
    have hB0 : (madeCells (Value.int .i64 0).cells (m * i0.size)) = ints (List.replicate m 0) := by
      rw [HI.out, Nat.mul_one]
      apply Array.toList_inj.1
      show (madeCells #[Value.int .i64 0] m).toList = _
      rw [toList_madeCells_one]
      simp [ints]
    rw [hB0] at hmk
    have HO0 : Hid (OwnU (w1.alloc (.cells (ints (List.replicate m 0)) 2)) w1.heap.size m 2 (List.replicate m 0)) := OwnU.ofBlk (Blk.new _ _ _) (by simp) (by unfold maxLen; omega)
    clear hv hvt hev hts hF hB0
    go_wp2_with fail
    go_loopw [20] (fun u w' => ∃ (i : Nat) (ys : List Int), u = .int .i64 i ∧ i ≤ n ∧ Hid (ys.length = m) ∧ Hid (OwnU w' w1.heap.size m 2 ys) ∧ Hid (Sums ys (12000 * i)) ∧ Hid (usedF ts ys (l.drop i) = F) ∧ Below w1.heap.size w1 w') (fun u _ => n - (intOf u).toNat)
    case atStart => exact ⟨0, _, rfl, by omega, by show _ = _; simp, HO0, Sums.zero _, HF, by go_grown⟩
    case round =>
      clear HF HO0 hmk
      obtain ⟨i, ys, rfl, hin, HYL, HO, HSU, HF, hbel⟩ := hrel
      by_cases hlt : i < n
      · have hil : i < l.length := by rw [← HL.out]; exact hlt
        have D := bel_next hb1 hbel
        obtain ⟨b, o, rfl, hblt, hc⟩ := H.out (by omega)
        obtain ⟨A1, c1, t0, t1, hw1, -⟩ := hc i hil
        have hst := usedF_step (ts := ts) (out := ys) hil
        obtain ⟨hway, -, -⟩ := runOk_true (HEV.out i hil)
        obtain ⟨r, hr⟩ : ∃ r, l[i] = r := ⟨_, rfl⟩
        rw [hr] at t0 t1 hw1 hst hway
        obtain ⟨n1, n2, hwy⟩ := wayOk_true hway
        obtain ⟨k, hk⟩ : ∃ k, r.1.length = k := ⟨_, rfl⟩
        rw [hk] at t0 n1 n2
        have HK := Lib.hid hk
        obtain ⟨Y, hY⟩ : ∃ Y, useF ts ys r.1 = Y := ⟨_, rfl⟩
        have HFY : Hid (usedF ts Y (l.drop (i + 1)) = F) := by show _ = _; rw [← hY, ← hst]; exact HF.out
        have HY : Hid (useF ts ys (r.1.drop 0) = Y) := hY
        have HWY := Lib.hid hwy
        obtain ⟨wp, rfl⟩ : ∃ wp : World, wp = wr := ⟨_, rfl⟩
        have T0 := Lib.hid t0
        obtain ⟨b1, o1, rfl, hb1lt, hc1⟩ := hw1 (by omega)
        have HC1 := Lib.hid hc1
        replace t0 := bel_cell D t0
        replace t1 := bel_cell D t1
        clear hway hwy hk hY hst hr hc hc1 HF
        go_wp2_with fail
        go_loopw [27] (fun u w' => ∃ (j : Nat) (zs : List Int), u = .int .i64 j ∧ j ≤ k ∧ Hid (zs.length = m) ∧ Hid (OwnU w' w1.heap.size m 2 zs) ∧ Hid (Sums zs (12000 * i + 1000 * j)) ∧ Hid (useF ts zs (r.1.drop j) = Y) ∧ Below w1.heap.size w1 w') (fun u _ => k - (intOf u).toNat)
        case atStart => exact ⟨0, ys, rfl, by omega, HYL, HO.out.bel (by first | exact Below.refl _ _ | go_grown), HSU, HY, bel_next hbel (by first | exact Below.refl _ _ | go_grown)⟩
        case round =>
          clear HY HYL HO HSU t0 t1 hbel D
          obtain ⟨j, zs, rfl, hjk, HYL, HO, HSU, HY, hbel⟩ := hrel
          have D := bel_next hb1 hbel
          skip
          by_cases hjl : j < k
          · have hjl2 : j < r.1.length := by rw [HK.out]; exact hjl
            have r1 := bel_cell D (HC1.out j hjl2)
            obtain ⟨y0, y1⟩ := HWY.out j hjl2
            obtain ⟨q, hq⟩ : ∃ q : Nat, r.1[j] = q := ⟨r.1[j].toNat, by omega⟩
            have hst := useF_step (ts := ts) (out := zs) hjl2
            rw [hq] at r1 y0 y1 hst
            rw [Int.toNat_natCast] at hst
            have hqm : q < ts.length := by omega
            have hqz : q < zs.length := by rw [HYL.out, HL0.out]; exact hqm
            have r2 := bel_cell D (HC2.out q hqm)
            obtain ⟨z0, z1⟩ := HTS.out q hqm
            obtain ⟨x0, f0, g0⟩ := HO.out.cellAt hqz
            obtain ⟨v0, v1⟩ := HSU.out q hqz
            have hg1 : ts.getD q 0 = ts[q] := by simp [hqm]
            have hg2 : zs.getD q 0 = zs[q] := by simp [hqz]
            rw [hg1, hg2] at hst
            have HSU2 : Hid (Sums (zs.set q (zs[q] + ts[q])) (12000 * i + 1000 * j + 1000)) := HSU.out.set hqz (by omega) z1
            have HO2 := fun (W : World) (h : OwnU W w1.heap.size m 2 zs) => h.set q hqz (zs[q] + ts[q])
            obtain ⟨z, hz⟩ : ∃ z, ts[q] = z := ⟨_, rfl⟩
            obtain ⟨y, hy⟩ : ∃ y, zs[q] = y := ⟨_, rfl⟩
            rw [hz] at r2 z0 z1 hst HSU2 HO2
            rw [hy] at x0 v0 v1 hst HSU2 HO2
            have HY2 : Hid (useF ts (zs.set q (y + z)) (r.1.drop (j + 1)) = Y) := by show _ = _; rw [← hst]; exact HY.out
            have HYL2 : Hid ((zs.set q (y + z)).length = m) := by show _ = _; rw [List.length_set]; exact HYL.out
            have hww : IntKind.i64.wrap (y + z) = y + z := by rw [IntKind.wrap_i64]; omega
            have hqm2 : q < m := by rw [HL0.out]; exact hqm
            have hq0 : (0 : Int) ≤ (q : Int) := by omega
            have hq1 : (q : Int) < (m : Int) := by omega
            have hj0 : (0 : Int) ≤ (j : Int) := by omega
            have hj1 : (j : Int) < (k : Int) := by omega
            have hi0 : (0 : Int) ≤ (i : Int) := by omega
            have hi1 : (i : Int) < (n : Int) := by omega
            have HOO := Lib.hid HO2
            have HQ := HO
            clear hst hq hz hy hg1 hg2 hqm hqz HSU HYL HY HO HO2
            go_wp2_with fail
            go_region
            all_goals
              clear hww
              go_wp2_with fail
              go_roundw
              case rel => exact ⟨j + 1, zs.set q (y + z), by go_num, by omega, HYL2, HOO.out _ HQ.out, HSU2, HY2, by first | exact hbel.setCell (by simp) _ | exact (hbel.setCell (by simp) _).drew⟩
              case measure => simp [intOf]; omega
          · have hE : zs = Y := by
              have h5 := HY.out
              rw [List.drop_of_length_le (by rw [HK.out]; omega), useF] at h5
              exact h5
            subst hE
            go_wp2_with fail
            go_roundw
            case rel => exact ⟨i + 1, zs, by go_num, by omega, HYL, HO, HSU.out.mono (by omega), HFY, hbel⟩
            case measure => simp [intOf]; omega
      · have hE : Hid (F = ys) := by show _ = _; rw [← HF.out, List.drop_of_length_le (by rw [← HL.out]; omega), usedF]
        have HR : Hid (MadeIC w 2 F 0 (.returned (.tuple #[.slice (some ⟨w1.heap.size, 0, none⟩) m m, .int .i64 0])) wr) := by
          have h5 := HO.out.owns (base := w.heap.size) hb1.size
          refine ⟨some ⟨w1.heap.size, 0, none⟩, m, ?_, ?_, bel_next hb1 hbel⟩
          · rw [hE.out, HYL.out]
          · rw [hE.out]; exact h5
        go_wp2_with fail
        refine bodyPost_ret (v := .tuple #[.slice (some ⟨w1.heap.size, 0, none⟩) m m, .int .i64 0]) (by simp [results, Try.results21, go_sem]) rfl ?_
        rw [E.out]
        exact HR.out

end Go.Proofs.Ytlebkjkiikehhaa
