/-
  CONTRACTS: the first runs that meet.
-/
import Derived.Test.YtlebkjkiikehhaaSpan
namespace Go.Proofs.Ytlebkjkiikehhaa
open Go.RowKit

def idxI : Option Nat → Int
  | some x => x
  | none => -1
theorem beqI_no {a b : Int} (h : ¬ a = b) : (a == b) = false := by simpa using h

set_option maxHeartbeats 4000000 in
set_option maxRecDepth 100000 in
theorem l06Meet_any (A0 : Option Addr) (m c0 : Nat) (ts : List Int) (b p : Nat) (A : Option Addr) (n c : Nat) (r : Rn) (b' p' : Nat) (A' : Option Addr) (n' c' : Nat) (o : Rn) (w : World) (h0 : IntsAt w A0 ts) (hl0 : m = ts.length) (hp0 : w.cell? ⟨b, p, none⟩ = some (.slice A n c)) (hp1 : w.cell? ⟨b, p + 1, none⟩ = some (.int .i64 r.2))
    (h : IntsAt w A r.1) (hl : n = r.1.length) (hq0 : w.cell? ⟨b', p', none⟩ = some (.slice A' n' c')) (hq1 : w.cell? ⟨b', p' + 1, none⟩ = some (.int .i64 o.2))
    (h' : IntsAt w A' o.1) (hl' : n' = o.1.length) (hv : validT ts = true) (hr : runOk m r = true) (hr' : runOk m o = true) :
    Calls Try.prog 61 #[.slice A0 m c0, .pointer (some ⟨b, p, none⟩), .pointer (some ⟨b', p', none⟩)] w (Ret w (.int .i64 (idxI (meetP ts r o)))) := by
  have hn12 : n ≤ 12 := by rw [hl]; exact (wayOk_true (runOk_true hr).1).2.1
  have hn12' : n' ≤ 12 := by rw [hl']; exact (wayOk_true (runOk_true hr').1).2.1
  have H0 := Lib.hid h0
  have HL0 := Lib.hid hl0
  have HL := Lib.hid hl
  have HL' := Lib.hid hl'
  have HH' := Lib.hid h'
  have HV := Lib.hid hv
  have HR' := Lib.hid hr'
  have HQ0 := Lib.hid hq0
  have HQ1 := Lib.hid hq1
  obtain ⟨R, hR⟩ : ∃ R, spR ts r = R := ⟨_, rfl⟩
  obtain ⟨O, hO⟩ : ∃ O, spR ts o = O := ⟨_, rfl⟩
  have HX : Hid (meetF O (R.drop 0) 0 = meetP ts r o) := by rw [← hR, ← hO]; rfl
  obtain ⟨X, hX⟩ : ∃ X, meetP ts r o = X := ⟨_, rfl⟩
  rw [hX] at HX ⊢
  have HRR := Lib.hid hR
  have HOO := Lib.hid hO
  clear hl0 hl hl' hr' hq0 hq1 h' h0 hX hR hO
  go_enter Try.func61, Try.ntmps61
  go_wp2_with fail
  refine (l06Spans_any A0 m c0 ts b p A n c r _ H0.out HL0.out hp0 hp1 h HL.out HV.out hr).mono ?_
  rw [HRR.out]
  rintro e w1 ⟨A1, c1, rfl, hn1, hO1, hb1⟩
  have I1 := Lib.hid hO1.at
  have HN1 := Lib.hid hn1
  clear hO1 hn1 hp0 hp1 h hr hv
  go_wp2_with fail
  refine (l06Spans_any A0 m c0 ts b' p' A' n' c' o _ (H0.out.bel hb1) HL0.out (bel_cell hb1 HQ0.out) (bel_cell hb1 HQ1.out) (HH'.out.bel hb1) HL'.out HV.out HR'.out).mono ?_
  rw [HOO.out]
  rintro e w2 ⟨A2, c2, rfl, hn2, hO2, hb2⟩
  have I2 := Lib.hid hO2.at
  have J1 := Lib.hid (I1.out.bel hb2)
  have HN2 := Lib.hid hn2
  have D2 := bel_next hb1 hb2
  clear hO2 hn2 hb1 hb2 I1
  go_wp2_with fail
  go_loopw [9, 10] (fun u _ w' => ∃ (i : Nat), u = .int .i64 i ∧ i ≤ n ∧ Hid (meetF O (R.drop i) i = X) ∧ Below w2.heap.size w2 w') (fun u _ _ => n - (intOf u).toNat)
  case atStart => exact ⟨0, rfl, by omega, HX, Below.refl _ _⟩
  case round =>
    clear HX
    obtain ⟨i, rfl, hin, HX, hbel⟩ := hrel
    by_cases hlt : i < n
    · have hil : i < R.length := by rw [← HN1.out]; exact hlt
      obtain ⟨ba, oa, rfl, hba, hca⟩ := (J1.out) (by omega)
      have HCA := Lib.hid (hca i hil)
      have hst := meetF_step (b := O) hil
      obtain ⟨s, hs⟩ : ∃ s, R[i] = s := ⟨_, rfl⟩
      rw [hs] at HCA hst
      obtain ⟨wp, rfl⟩ : ∃ wp : World, wp = wr := ⟨_, rfl⟩
      have HST := Lib.hid hst
      have HM : Hid (anyM s O = anyM s (O.drop 0)) := rfl
      clear hca hs hst
      go_wp2_with fail
      go_loopw [10] (fun u w' => ∃ (k : Nat), u = .int .i64 k ∧ k ≤ n' ∧ Hid (anyM s O = anyM s (O.drop k)) ∧ Below w2.heap.size w2 w') (fun u _ => n' - (intOf u).toNat)
      case atStart => exact ⟨0, rfl, by omega, HM, hbel⟩
      case round =>
        clear HM hbel
        obtain ⟨k, rfl, hkn, HM, hbel⟩ := hrel
        by_cases hkl : k < n'
        · have hko : k < O.length := by rw [← HN2.out]; exact hkl
          obtain ⟨bb, ob, rfl, hbb, hcb⟩ := (I2.out) (by omega)
          obtain ⟨g1, x0, x1, x2, x3⟩ := HCA.out
          obtain ⟨g2, y0, y1, y2, y3⟩ := hcb k hko
          replace x0 := bel_cell hbel x0
          replace x1 := bel_cell hbel x1
          replace x2 := bel_cell hbel x2
          replace x3 := bel_cell hbel x3
          replace y0 := bel_cell hbel y0
          replace y1 := bel_cell hbel y1
          replace y2 := bel_cell hbel y2
          replace y3 := bel_cell hbel y3
          have hd := anyM_step (s := s) hko
          obtain ⟨t, ht⟩ : ∃ t, O[k] = t := ⟨_, rfl⟩
          rw [ht] at y1 y2 y3 hd
          obtain ⟨s0, s1, s2⟩ := s
          obtain ⟨t0, t1, t2⟩ := t
          simp only at x1 x2 x3 y1 y2 y3
          have HD := Lib.hid hd
          clear hcb ht hd
          by_cases h1 : s0 = t0
          · have e1 : (s0 == t0) = true := by simpa using h1
            by_cases h2 : s1 < t2
            · have e2 : decide (s1 < t2) = true := decide_eq_true h2
              by_cases h3 : t1 < s2
              · have e3 : decide (t1 < s2) = true := decide_eq_true h3
                have HF : Hid (X = some i) := by
                  show _ = _
                  have h5 : anyM (s0, s1, s2) O = true := by rw [HM.out, HD.out]; simp [meetB, h1, h2, h3]
                  rw [← HX.out, HST.out, if_pos h5]
                clear h1 HM HD HX HST
                go_wp2_with fail
                go_quiet (fail)
                go_wp2_with fail
                go_ret
                rw [HF.out]
                exact ⟨rfl, below_drewN (bel_next D2 hbel) _⟩
              · have e3 : decide (t1 < s2) = false := decide_eq_false h3
                have HM2 : Hid (anyM (s0, s1, s2) O = anyM (s0, s1, s2) (O.drop (k + 1))) := by show _ = _; rw [HM.out, HD.out]; simp [meetB, h3]
                clear h1 HM HD
                go_wp2_with fail
                go_quiet (fail)
                go_wp2_with fail
                go_roundw
                case rel => exact ⟨k + 1, by go_num, by omega, HM2, below_drewN hbel _⟩
                case measure => simp [intOf]; omega
            · have e2 : decide (s1 < t2) = false := decide_eq_false h2
              have HM2 : Hid (anyM (s0, s1, s2) O = anyM (s0, s1, s2) (O.drop (k + 1))) := by show _ = _; rw [HM.out, HD.out]; simp [meetB, h2]
              clear h1 HM HD
              go_wp2_with fail
              go_quiet (fail)
              go_wp2_with fail
              go_roundw
              case rel => exact ⟨k + 1, by go_num, by omega, HM2, below_drewN hbel _⟩
              case measure => simp [intOf]; omega
          · have e1 : (s0 == t0) = false := by simpa using h1
            have HM2 : Hid (anyM (s0, s1, s2) O = anyM (s0, s1, s2) (O.drop (k + 1))) := by show _ = _; rw [HM.out, HD.out]; simp [meetB, h1]
            clear h1 HM HD
            go_wp2_with fail
            go_quiet (fail)
            go_wp2_with fail
            go_roundw
            case rel => exact ⟨k + 1, by go_num, by omega, HM2, below_drewN hbel _⟩
            case measure => simp [intOf]; omega
        · have HX2 : Hid (meetF O (R.drop (i + 1)) (i + 1) = X) := by
            show _ = _
            have h5 : anyM s O = false := by rw [HM.out, List.drop_of_length_le (by rw [← HN2.out]; omega)]; rfl
            rw [← HX.out, HST.out, if_neg (by rw [h5]; exact Bool.false_ne_true)]
          clear HM HX HST
          go_wp2_with fail
          go_roundw
          case rel => exact ⟨i + 1, by go_num, by omega, HX2, hbel⟩
          case measure => simp [intOf]; omega
    · have HF : Hid (X = none) := by show _ = _; rw [← HX.out, List.drop_of_length_le (by rw [← HN1.out]; omega), meetF]
      go_wp2_with fail
      go_ret
      rw [HF.out]
      exact ⟨rfl, bel_next D2 hbel⟩

/-- What a run's cells are, at the first world. -/
theorem RunsAt.one_at {w w' : World} {b o : Nat} {l : List Rn} {i : Nat} (hc : ∀ (k : Nat) (h : k < l.length), RunAt w b (o + k * 2) l[k]) (hi : i < l.length) (D : Below w.heap.size w w') :
    ∃ A n c, n = l[i].1.length ∧ w'.cell? ⟨b, o + i * 2, none⟩ = some (.slice A n c) ∧ w'.cell? ⟨b, o + i * 2 + 1, none⟩ = some (.int .i64 l[i].2) ∧ IntsAt w' A l[i].1 ∧ IntsAt w A l[i].1 := by
  obtain ⟨A, c, h1, h2, h3, -⟩ := hc i hi
  exact ⟨A, _, c, rfl, bel_cell D h1, bel_cell D h2, h3.bel D, h3⟩

set_option maxHeartbeats 4000000 in
set_option maxRecDepth 100000 in
theorem specFirst_any (A0 : Option Addr) (m c0 : Nat) (ts : List Int) (A : Option Addr) (n c : Nat) (l : List Rn) (w : World) (h0 : IntsAt w A0 ts) (hl0 : m = ts.length) (hm : m ≤ 1048576) (h : RunsAt w A l) (hl : n = l.length) (hs : Small l) :
    Calls Try.prog 36 #[.slice A0 m c0, .slice A n c] w (Ret w (.tuple #[.int .i64 (firstR ts l).1, .int .i64 (firstR ts l).2.1, .int .i64 (firstR ts l).2.2.1, .int .i64 (firstR ts l).2.2.2])) := by
  have H := Lib.hid h
  have HL := Lib.hid hl
  have H0 := Lib.hid h0
  have HL0 := Lib.hid hl0
  have HS := Lib.hid hs
  have hn0 : n ≤ 1048576 := by rw [hl]; exact hs.1
  clear h hl h0 hl0 hs
  go_enter Try.func36, Try.ntmps36
  go_wp2_with fail
  refine (l06Ok_any A0 m c0 ts A n c l _ H0.out HL0.out hm H.out HL.out HS.out).mono ?_
  rintro e w1 ⟨rfl, rfl⟩
  cases hv : runsOk ts l
  · have E : Hid (firstR ts l = (0, 0, 0, 1)) := by show _ = _; simp [firstR, hv]
    clear hv
    go_wp2_with fail
    refine bodyPost_ret (v := .tuple #[.int .i64 0, .int .i64 0, .int .i64 0, .int .i64 1]) (by simp [results, Try.results36, go_sem]) rfl ?_
    rw [E.out]
    exact ⟨rfl, by first | exact Below.refl _ _ | go_grown⟩
  · obtain ⟨hvt, hl12, hev⟩ := runsOk_true hv
    have E0 : firstR ts l = fin4 (outM ts l l 0) := by simp [firstR, hv]
    obtain ⟨X, hX⟩ : ∃ X, outM ts l l 0 = X := ⟨_, rfl⟩
    have HX : Hid (outM ts l (l.drop 0) 0 = X) := hX
    rw [hX] at E0
    have E := Lib.hid E0
    rw [← HL.out] at hl12
    have HVT := Lib.hid hvt
    have HEV := Lib.hid hev
    clear hv hvt hev hX E0
    go_wp2_with fail
    go_loopw [8] (fun u w' => ∃ (i : Nat), u = .int .i64 i ∧ i ≤ n ∧ Hid (outM ts l (l.drop i) i = X) ∧ Below w.heap.size w w') (fun u _ => n - (intOf u).toNat)
    case atStart => exact ⟨0, rfl, by omega, HX, by first | exact Below.refl _ _ | go_grown⟩
    case round =>
      clear HX
      obtain ⟨i, rfl, hin, HX, hbel⟩ := hrel
      by_cases hlt : i < n
      · have hil : i < l.length := by rw [← HL.out]; exact hlt
        obtain ⟨b, o, rfl, hblt, hc⟩ := H.out (by omega)
        have HC := Lib.hid hc
        obtain ⟨A1, n1, c1, hn1, t0, t1, -, J1⟩ := RunsAt.one_at hc hil (Below.refl w.heap.size w)
        have hri := HEV.out i hil
        have hos := fun t hm => outM_some (ts := ts) (l := l) (t := t) hil hm
        have hon := fun hm => outM_none (ts := ts) (l := l) hil hm
        obtain ⟨r, hr⟩ : ∃ r, l[i] = r := ⟨_, rfl⟩
        rw [hr] at hn1 t1 J1 hri hos hon
        rw [← HL0.out] at hri
        obtain ⟨k1, k2, hwy⟩ := wayOk_true (runOk_true hri).1
        rw [← hn1] at k1 k2
        obtain ⟨b1, o1, rfl, hb1, hc1⟩ := J1 (by omega)
        have T0 := Lib.hid t0
        have T1 := Lib.hid t1
        have HJ1 := Lib.hid J1
        have HC1 := Lib.hid hc1
        have HN1 := Lib.hid hn1
        have HOS := Lib.hid hos
        have HON := Lib.hid hon
        have HRI := Lib.hid hri
        obtain ⟨Y, hY⟩ : ∃ Y, rowM ts r i (l.take i) 0 = Y := ⟨_, rfl⟩
        have HY : Hid (rowM ts r i ((l.take i).drop 0) 0 = Y) := hY
        rw [hY] at HOS HON
        clear hc hY hr hn1 t0 t1 J1 hri hos hon hwy hc1
        go_wp2_with fail
        go_loopw [9] (fun u w' => ∃ (k : Nat), u = .int .i64 k ∧ k ≤ i ∧ Hid (rowM ts r i ((l.take i).drop k) k = Y) ∧ Below w.heap.size w w') (fun u _ => i - (intOf u).toNat)
        case atStart => exact ⟨0, rfl, by omega, HY, hbel⟩
        case round =>
          clear HY hbel
          obtain ⟨k, rfl, hki, HY, hbel⟩ := hrel
          by_cases hkl : k < i
          · have hkt : k < (l.take i).length := by simp; omega
            have hkl2 : k < l.length := by omega
            have hge : (l.take i)[k] = l[k] := by simp
            obtain ⟨A2, n2, c2, hn2, u0, u1, I2, -⟩ := RunsAt.one_at HC.out hkl2 hbel
            have hrk := HEV.out k hkl2
            have hrs := fun x hm => rowM_some (ts := ts) (r := r) (i := i) (x := x) hkt hm
            have hrn := fun hm => rowM_none (ts := ts) (r := r) (i := i) hkt hm
            rw [hge] at hrs hrn
            obtain ⟨q, hq⟩ : ∃ q, l[k] = q := ⟨_, rfl⟩
            rw [hq] at hn2 u1 I2 hrk hrs hrn
            rw [← HL0.out] at hrk
            have HN2 := Lib.hid hn2
            have HRK := Lib.hid hrk
            have HI2 := Lib.hid I2
            have t0 := bel_cell hbel T0.out
            have t1 := bel_cell hbel T1.out
            have HI0 := Lib.hid (H0.out.bel hbel)
            have HI1 := Lib.hid (HJ1.out.bel hbel)
            have hi0 : (0 : Int) ≤ (i : Int) := by omega
            have hi1 : (i : Int) < (n : Int) := by omega
            have hk0 : (0 : Int) ≤ (k : Int) := by omega
            have hk1 : (k : Int) < (n : Int) := by omega
            have hkn : k < n := by omega
            cases hmp : meetP ts r q
            · have hy := hrn hmp
              have HY2 : Hid (rowM ts r i ((l.take i).drop (k + 1)) (k + 1) = Y) := by show _ = _; rw [← hy]; exact HY.out
              have HZ : Hid (idxI (meetP ts r q) = -1) := by show _ = _; rw [hmp]; rfl
              clear hn2 hrs hrn hrk hge I2 hq hmp hy HY
              go_wp2_with fail
              go_region_held3 (fun w' => Below w.heap.size w w')
                (first
                  | exact hbel
                  | exact hbel.drew
                  | (have hS := ‹Below w.heap.size w _›; exact bel_next hS hbR))
                (first
                  | (go_at_call 61; (refine (l06Meet_any A0 m c0 ts b (o + i * 2) (some ⟨b1, o1, none⟩) n1 c1 r b (o + k * 2) A2 n2 c2 q wr.drew HI0.out.drew HL0.out t0 t1 HI1.out.drew HN1.out u0 u1 HI2.out.drew HN2.out HVT.out HRI.out HRK.out).mono ?_); rintro e w5 ⟨rfl, hbR⟩; rw [HZ.out]))
              have hbel5 := ‹Below w.heap.size w _›
              go_wp2_with fail
              go_roundw
              case rel => exact ⟨k + 1, by go_num, by omega, HY2, hbel5⟩
              case measure => simp [intOf]; omega
            · rename_i x
              have hy := hrs x hmp
              have hx : x < r.1.length := meetP_lt hmp
              have HYs : Hid (Y = some ((i : Int), (k : Int), r.1[x])) := by show _ = _; rw [← HY.out, hy]; simp [hx]
              have HXs : Hid (X = some ((i : Int), (k : Int), r.1[x])) := by show _ = _; rw [← HX.out]; exact HOS.out _ HYs.out
              have HZ : Hid (idxI (meetP ts r q) = (x : Int)) := by show _ = _; rw [hmp]; rfl
              have hxn : x < n1 := by rw [HN1.out]; exact hx
              have C1 := Lib.hid (HC1.out x hx)
              obtain ⟨tb, htb⟩ : ∃ tb, r.1[x] = tb := ⟨_, rfl⟩
              rw [htb] at HXs C1
              have hx0 : (0 : Int) ≤ (x : Int) := by omega
              have hx1 : (x : Int) < (n1 : Int) := by omega
              clear hn2 hrs hrn hrk hge I2 hq hmp hy HY HYs htb hx
              go_wp2_with fail
              go_region_held3 (fun w' => Below w.heap.size w w')
                (first
                  | exact hbel
                  | exact hbel.drew
                  | (have hS := ‹Below w.heap.size w _›; exact bel_next hS hbR))
                (first
                  | (go_at_call 61; (refine (l06Meet_any A0 m c0 ts b (o + i * 2) (some ⟨b1, o1, none⟩) n1 c1 r b (o + k * 2) A2 n2 c2 q wr.drew HI0.out.drew HL0.out t0 t1 HI1.out.drew HN1.out u0 u1 HI2.out.drew HN2.out HVT.out HRI.out HRK.out).mono ?_); rintro e w5 ⟨rfl, hbR⟩; rw [HZ.out]))
              rename_i hbel5
              have t0' := bel_cell hbel5 T0.out
              have r0 := bel_cell hbel5 C1.out
              clear t0 t1 u0 u1 hbel
              go_wp2_with fail
              go_quiet (fail)
              go_wp2_with fail
              refine bodyPost_ret (v := .tuple #[.int .i64 i, .int .i64 k, .int .i64 tb, .int .i64 0]) (by simp [results, Try.results36, go_sem]) rfl ?_
              rw [E.out, HXs.out]
              exact ⟨rfl, below_drewN hbel5 _⟩
          · have hYn : Hid (Y = none) := by show _ = _; rw [← HY.out, List.drop_of_length_le (by simp; omega), rowM]
            have HX2 : Hid (outM ts l (l.drop (i + 1)) (i + 1) = X) := by show _ = _; rw [← HON.out hYn.out]; exact HX.out
            clear HX HY
            go_wp2_with fail
            go_roundw
            case rel => exact ⟨i + 1, by go_num, by omega, HX2, hbel⟩
            case measure => simp [intOf]; omega
      · have HF : Hid (X = none) := by show _ = _; rw [← HX.out, List.drop_of_length_le (by rw [← HL.out]; omega), outM]
        go_wp2_with fail
        refine bodyPost_ret (v := .tuple #[.int .i64 0, .int .i64 0, .int .i64 0, .int .i64 3]) (by simp [results, Try.results36, go_sem]) rfl ?_
        rw [E.out, HF.out]
        exact ⟨rfl, hbel⟩

end Go.Proofs.Ytlebkjkiikehhaa
