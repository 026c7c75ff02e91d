/-
  CONTRACTS: when a run is done.
-/
import Derived.Test.YtedjpbmgldbhkaaRunV
namespace Go.Proofs.Ytedjpbmgldbhkaa
open Go.RowKit

/-- The sum of the times of a way. -/
def sumW (ts : List Int) : List Int → Int
  | [] => 0
  | x :: xs => ts.getD x.toNat 0 + sumW ts xs
def endR (ts : List Int) (r : Rn) : Int × Int := if runsOk ts [r] then (r.2 + sumW ts r.1, 0) else (0, 1)
theorem sumW_step {ts l : List Int} {i : Nat} (h : i < l.length) : sumW ts (l.drop i) = ts.getD l[i].toNat 0 + sumW ts (l.drop (i + 1)) := by rw [drop_at' h, sumW]
theorem runsOk_one {ts : List Int} {r : Rn} (h : runsOk ts [r] = true) : validT ts = true ∧ runOk ts.length r = true := by
  obtain ⟨h1, -, h3⟩ := runsOk_true h
  exact ⟨h1, h3 0 (by simp)⟩
/-- One run in a fresh block. -/
theorem RunsAt.one {w : World} {A : Option Addr} {n c : Nat} {r : Rn} {t : TypeId} {g : Nat} (hB : Blk w g t #[.slice A n c, .int .i64 r.2]) (hl : n = r.1.length) (h : IntsAt w A r.1) (hn : n ≤ 1048576) : RunsAt w (some ⟨g, 0, none⟩) [r] := fun _ =>
  ⟨g, 0, rfl, hB.lt, fun k hk => by
    obtain rfl : k = 0 := by simpa using hk
    refine ⟨A, c, ?_, ?_, h, by show r.1.length ≤ _; omega⟩
    · rw [hB.cell]; subst hl; rfl
    · rw [hB.cell]; rfl⟩
theorem Small.one {r : Rn} {n : Nat} (hl : n = r.1.length) (hn : n ≤ 1048576) : Small [r] := ⟨by simp, fun k hk => by
  obtain rfl : k = 0 := by simpa using hk
  show r.1.length ≤ _; omega⟩

set_option maxHeartbeats 2000000 in
theorem l06End_any (A0 : Option Addr) (m c0 : Nat) (ts : List Int) (b : Nat) (A : Option Addr) (n c : Nat) (r : Rn) (w : World) (h0 : IntsAt w A0 ts) (hl0 : m = ts.length) (hc0 : w.cell? ⟨b, 0, none⟩ = some (.slice A n c)) (hc1 : w.cell? ⟨b, 1, none⟩ = some (.int .i64 r.2))
    (h : IntsAt w A r.1) (hl : n = r.1.length) (hv : validT ts = true) (hr : runOk m r = true) :
    Calls Try.prog 47 #[.slice A0 m c0, .pointer (some ⟨b, 0, none⟩)] w (Ret0 w (.int .i64 (r.2 + sumW ts r.1))) := by
  obtain ⟨m1, m2, hts⟩ := validT_true hv
  obtain ⟨hway, s0, s1⟩ := runOk_true hr
  obtain ⟨n1, n2, hwy⟩ := wayOk_true hway
  rw [← hl0] at m1 m2
  rw [← hl] at n1 n2
  have H := Lib.hid h
  have HL := Lib.hid hl
  have H0 := Lib.hid h0
  have HL0 := Lib.hid hl0
  have HTS := Lib.hid hts
  have HWY := Lib.hid hwy
  obtain ⟨st, hst⟩ : ∃ st, r.2 = st := ⟨_, rfl⟩
  rw [hst] at hc1 s0 s1 ⊢
  have E : Hid (st + sumW ts (r.1.drop 0) = st + sumW ts r.1) := rfl
  clear h hl h0 hl0 hts hwy hv hr hway hst
  go_enter Try.func47, Try.ntmps47
  go_wp2_with fail
  go_loop [5, 6] (fun v u => ∃ (x : Int) (i : Nat), v = .int .i64 x ∧ u = .int .i64 i ∧ i ≤ n ∧ 0 ≤ x ∧ x ≤ 100000 + 1000 * (i : Int) ∧ Hid (x + sumW ts (r.1.drop i) = st + sumW ts r.1)) (fun _ u => n - (intOf u).toNat)
  case atStart => exact ⟨st, 0, rfl, rfl, by omega, by omega, by omega, E⟩
  case round =>
    clear E
    obtain ⟨x, i, rfl, rfl, hin, hx0, hx1, HE⟩ := hrel
    by_cases hlt : i < n
    · obtain ⟨b', o, rfl, hblt, hc⟩ := H.out (by rw [← HL.out]; omega)
      obtain ⟨b2, o2, rfl, hblt2, hc2⟩ := H0.out (by rw [← HL0.out]; omega)
      have hil : i < r.1.length := by rw [← HL.out]; exact hlt
      have t0 := hc i hil
      obtain ⟨y0, y1⟩ := HWY.out i hil
      obtain ⟨q, hq⟩ : ∃ q : Nat, r.1[i] = q := ⟨r.1[i].toNat, by omega⟩
      have hd := sumW_step (ts := ts) hil
      rw [hq] at t0 y0 y1 hd
      rw [Int.toNat_natCast] at hd
      have hqm : q < ts.length := by rw [← HL0.out]; omega
      have t1 := hc2 q hqm
      obtain ⟨z0, z1⟩ := HTS.out q hqm
      have hg : ts.getD q 0 = ts[q] := by simp [hqm]
      rw [hg] at hd
      obtain ⟨z, hz⟩ : ∃ z, ts[q] = z := ⟨_, rfl⟩
      rw [hz] at t1 z0 z1 hd
      have HE2 : Hid ((x + z) + sumW ts (r.1.drop (i + 1)) = st + sumW ts r.1) := by show _ = _; rw [← HE.out, hd]; omega
      clear hc hc2 hd hq hz hg hqm HE
      go_wp2_with fail
      go_round
      case rel => exact ⟨x + z, i + 1, by go_num, by go_num, by omega, by omega, by omega, HE2⟩
      case measure => simp [intOf]; omega
    · have HE2 : Hid (st + sumW ts r.1 = x) := by show _ = _; rw [← HE.out, List.drop_of_length_le (by rw [← HL.out]; omega), sumW]; omega
      go_wp2_with fail
      go_ret
      rw [HE2.out]
      exact ⟨rfl, rfl⟩

set_option maxHeartbeats 2000000 in
theorem endOfRun_any (A0 : Option Addr) (m c0 : Nat) (ts : List Int) (A : Option Addr) (n c : Nat) (r : Rn) (w : World) (h0 : IntsAt w A0 ts) (hl0 : m = ts.length)
    (h : IntsAt w A r.1) (hl : n = r.1.length) (hv : validT ts = true) (hr : runOk m r = true) :
    Calls Try.prog 48 #[.slice A0 m c0, .agg #[.slice A n c, .int .i64 r.2]] w (Ret w (.int .i64 (r.2 + sumW ts r.1))) := by
  obtain ⟨m1, m2, hts⟩ := validT_true hv
  obtain ⟨hway, s0, s1⟩ := runOk_true hr
  obtain ⟨n1, n2, hwy⟩ := wayOk_true hway
  rw [← hl0] at m1 m2
  rw [← hl] at n1 n2
  have H := Lib.hid h
  have HL := Lib.hid hl
  have H0 := Lib.hid h0
  have HL0 := Lib.hid hl0
  have HTS := Lib.hid hts
  have HWY := Lib.hid hwy
  obtain ⟨st, hst⟩ : ∃ st, r.2 = st := ⟨_, rfl⟩
  rw [hst] at s0 s1 ⊢
  have E : Hid (st + sumW ts (r.1.drop 0) = st + sumW ts r.1) := rfl
  clear h hl h0 hl0 hts hwy hv hr hway hst
  go_enter Try.func48, Try.ntmps48
  go_wp2_with fail
  go_loopw [5, 13] (fun v u w' => ∃ (x : Int) (i : Nat), v = .int .i64 x ∧ u = .int .i64 i ∧ i ≤ n ∧ 0 ≤ x ∧ x ≤ 100000 + 1000 * (i : Int) ∧ Hid (x + sumW ts (r.1.drop i) = st + sumW ts r.1) ∧ Below w.heap.size w w') (fun _ u _ => n - (intOf u).toNat)
  case atStart => exact ⟨st, 0, rfl, rfl, by omega, by omega, by omega, E, by go_grown⟩
  case round =>
    clear E
    obtain ⟨x, i, rfl, rfl, hin, hx0, hx1, HE, hbel⟩ := hrel
    by_cases hlt : i < n
    · obtain ⟨b', o, rfl, hblt, hc⟩ := (H.out.bel hbel) (by rw [← HL.out]; omega)
      obtain ⟨b2, o2, rfl, hblt2, hc2⟩ := (H0.out.bel hbel) (by rw [← HL0.out]; omega)
      have hil : i < r.1.length := by rw [← HL.out]; exact hlt
      have t0 := hc i hil
      obtain ⟨y0, y1⟩ := HWY.out i hil
      obtain ⟨q, hq⟩ : ∃ q : Nat, r.1[i] = q := ⟨r.1[i].toNat, by omega⟩
      have hd := sumW_step (ts := ts) hil
      rw [hq] at t0 y0 y1 hd
      rw [Int.toNat_natCast] at hd
      have hqm : q < ts.length := by rw [← HL0.out]; omega
      have t1 := hc2 q hqm
      obtain ⟨z0, z1⟩ := HTS.out q hqm
      have hg : ts.getD q 0 = ts[q] := by simp [hqm]
      rw [hg] at hd
      obtain ⟨z, hz⟩ : ∃ z, ts[q] = z := ⟨_, rfl⟩
      rw [hz] at t1 z0 z1 hd
      have HE2 : Hid ((x + z) + sumW ts (r.1.drop (i + 1)) = st + sumW ts r.1) := by show _ = _; rw [← HE.out, hd]; omega
      clear hc hc2 hd hq hz hg hqm HE
      go_wp2_with fail
      go_roundw
      case rel => exact ⟨x + z, i + 1, by go_num, by go_num, by omega, by omega, by omega, HE2, hbel⟩
      case measure => simp [intOf]; omega
    · have HE2 : Hid (st + sumW ts r.1 = x) := by show _ = _; rw [← HE.out, List.drop_of_length_le (by rw [← HL.out]; omega), sumW]; omega
      go_wp2_with fail
      go_ret
      rw [HE2.out]
      exact ⟨rfl, hbel⟩

set_option maxHeartbeats 2000000 in
theorem specEnd_any (A0 : Option Addr) (m c0 : Nat) (ts : List Int) (A : Option Addr) (n c : Nat) (l : List Int) (S : Int) (w : World) (h0 : IntsAt w A0 ts) (hl0 : m = ts.length) (hm : m ≤ 1048576)
    (h : IntsAt w A l) (hl : n = l.length) (hn0 : n ≤ 1048576) :
    Calls Try.prog 20 #[.slice A0 m c0, .agg #[.slice A n c, .int .i64 S]] w (Ret w (.tuple #[.int .i64 (endR ts (l, S)).1, .int .i64 (endR ts (l, S)).2])) := by
  have H := Lib.hid h
  have HL := Lib.hid hl
  have H0 := Lib.hid h0
  have HL0 := Lib.hid hl0
  clear h hl h0 hl0
  go_enter Try.func20, Try.ntmps20
  go_wp2_with fail
  refine (l06Ok_any A0 m c0 ts _ 1 1 [(l, S)] _ ((H0.out.alloc _).alloc _) HL0.out hm (RunsAt.one (Blk.newAt (n := w.heap.size + 1) (by simp)) HL.out ((H.out.alloc _).alloc _) hn0) rfl (Small.one HL.out hn0)).mono ?_
  rintro e w1 ⟨rfl, rfl⟩
  cases hv : runsOk ts [(l, S)]
  · have E : Hid (endR ts (l, S) = (0, 1)) := by show _ = _; simp [endR, hv]
    clear hv
    go_wp2_with fail
    refine bodyPost_ret (v := .tuple #[.int .i64 0, .int .i64 1]) (by simp [results, Try.results20, go_sem]) rfl ?_
    rw [E.out]
    exact ⟨rfl, by go_grown⟩
  · have E : Hid (endR ts (l, S) = (S + sumW ts l, 0)) := by show _ = _; simp [endR, hv]
    obtain ⟨hv1, hv2⟩ := runsOk_one hv
    rw [← HL0.out] at hv2
    have HV1 := Lib.hid hv1
    have HV2 := Lib.hid hv2
    clear hv hv1 hv2
    go_wp2_with fail
    refine (l06End_any A0 m c0 ts _ A n c (l, S) _ ((H0.out.alloc _).alloc _) HL0.out (by go_cell) (by go_cell) ((H.out.alloc _).alloc _) HL.out HV1.out HV2.out).mono ?_
    rintro e w2 ⟨rfl, rfl⟩
    go_wp2_with fail
    refine bodyPost_ret (v := .tuple #[.int .i64 (S + sumW ts l), .int .i64 0]) (by simp [results, Try.results20, go_sem]) rfl ?_
    rw [E.out]
    exact ⟨rfl, by go_grown⟩

set_option maxHeartbeats 2000000 in
theorem implEnd_any (A0 : Option Addr) (m c0 : Nat) (ts : List Int) (A : Option Addr) (n c : Nat) (l : List Int) (S : Int) (w : World) (h0 : IntsAt w A0 ts) (hl0 : m = ts.length) (hm : m ≤ 1048576)
    (h : IntsAt w A l) (hl : n = l.length) (hn0 : n ≤ 1048576) :
    Calls Try.prog 22 #[.slice A0 m c0, .agg #[.slice A n c, .int .i64 S]] w (Ret w (.tuple #[.int .i64 (endR ts (l, S)).1, .int .i64 (endR ts (l, S)).2])) := by
  have H := Lib.hid h
  have HL := Lib.hid hl
  have H0 := Lib.hid h0
  have HL0 := Lib.hid hl0
  clear h hl h0 hl0
  go_enter Try.func22, Try.ntmps22
  go_wp2_with fail
  refine (implValidRuns_any A0 m c0 ts _ 1 1 [(l, S)] _ ((H0.out.alloc _).alloc _) HL0.out hm (RunsAt.one (Blk.newAt (n := w.heap.size + 1) (by simp)) HL.out ((H.out.alloc _).alloc _) hn0) rfl (Small.one HL.out hn0)).mono ?_
  rintro e w1 ⟨rfl, hb1⟩
  have D1 : Below w.heap.size w w1 := Below.trans (by go_grown) (hb1.mono (by simp; omega))
  obtain ⟨b0, b1, -⟩ := (bel_blk ((Blk.new _ _ _).alloc _) hb1).c2
  clear hb1
  cases hv : runsOk ts [(l, S)]
  · have E : Hid (endR ts (l, S) = (0, 1)) := by show _ = _; simp [endR, hv]
    clear hv
    go_wp2_with fail
    refine bodyPost_ret (v := .tuple #[.int .i64 0, .int .i64 1]) (by simp [results, Try.results22, go_sem]) rfl ?_
    rw [E.out]
    exact ⟨rfl, D1⟩
  · have E : Hid (endR ts (l, S) = (S + sumW ts l, 0)) := by show _ = _; simp [endR, hv]
    obtain ⟨hv1, hv2⟩ := runsOk_one hv
    rw [← HL0.out] at hv2
    have HV1 := Lib.hid hv1
    have HV2 := Lib.hid hv2
    clear hv hv1 hv2
    go_wp2_with fail
    refine (endOfRun_any A0 m c0 ts A n c (l, S) _ (H0.out.bel D1) HL0.out (H.out.bel D1) HL.out HV1.out HV2.out).mono ?_
    rintro e w2 ⟨rfl, hb2⟩
    go_wp2_with fail
    refine bodyPost_ret (v := .tuple #[.int .i64 (S + sumW ts l), .int .i64 0]) (by simp [results, Try.results22, go_sem]) rfl ?_
    rw [E.out]
    exact ⟨rfl, bel_next D1 hb2⟩

end Go.Proofs.Ytedjpbmgldbhkaa
