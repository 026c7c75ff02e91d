/-
  CONTRACTS: the first runs that meet, the program's way.
-/
import Derived.Test.YtlebkjkiikehhaaFirst
namespace Go.Proofs.Ytlebkjkiikehhaa
open Go.RowKit

set_option maxHeartbeats 4000000 in
set_option maxRecDepth 100000 in
theorem implFirst_any (A0 : Option Addr) (m c0 : Nat) (ts : List Int) (A : Option Addr) (n c : Nat) (l : List Rn) (w : World) (h0 : IntsAt w A0 ts) (hl0 : m = ts.length) (hm : m ≤ 1048576) (h : RunsAt w A l) (hl : n = l.length) (hs : Small l) (hnc : n ≤ c := by omega) :
    Calls Try.prog 37 #[.slice A0 m c0, .slice A n c] w (Ret w (.tuple #[.int .i64 (firstR ts l).1, .int .i64 (firstR ts l).2.1, .int .i64 (firstR ts l).2.2.1, .int .i64 (firstR ts l).2.2.2])) := by
  have H := Lib.hid h
  have HL := Lib.hid hl
  have H0 := Lib.hid h0
  have HL0 := Lib.hid hl0
  have HS := Lib.hid hs
  have hn0 : n ≤ 1048576 := by rw [hl]; exact hs.1
  clear h hl h0 hl0 hs
  go_enter Try.func37, Try.ntmps37
  go_wp2_with fail
  refine (implValidRuns_any A0 m c0 ts A n c l _ H0.out HL0.out hm H.out HL.out HS.out).mono ?_
  rintro e w1 ⟨rfl, hb1⟩
  cases hv : runsOk ts l
  · have E : Hid (firstR ts l = (0, 0, 0, 1)) := by show _ = _; simp [firstR, hv]
    clear hv
    go_wp2_with fail
    refine bodyPost_ret (v := .tuple #[.int .i64 0, .int .i64 0, .int .i64 0, .int .i64 1]) (by simp [results, Try.results37, go_sem]) rfl ?_
    rw [E.out]
    exact ⟨rfl, hb1⟩
  · obtain ⟨hvt, hl12, hev⟩ := runsOk_true hv
    have E0 : firstR ts l = fin4 (outM ts l l 0) := by simp [firstR, hv]
    obtain ⟨X, hX⟩ : ∃ X, outM ts l l 0 = X := ⟨_, rfl⟩
    have HX : Hid (outM ts l (l.drop 0) 0 = X) := hX
    rw [hX] at E0
    have E := Lib.hid E0
    rw [← HL.out] at hl12
    have HVT := Lib.hid hvt
    have HEV := Lib.hid hev
    clear hv hvt hev hX E0
    go_wp2_with fail
    go_loopw [21] (fun u w' => ∃ (i : Nat), u = .int .i64 i ∧ i ≤ n ∧ Hid (outM ts l (l.drop i) i = X) ∧ Below w.heap.size w w') (fun u _ => n - (intOf u).toNat)
    case atStart => exact ⟨0, rfl, by omega, HX, hb1⟩
    case round =>
      clear HX hb1
      obtain ⟨i, rfl, hin, HX, hbel⟩ := hrel
      by_cases hlt : i < n
      · have hil : i < l.length := by rw [← HL.out]; exact hlt
        obtain ⟨b, o, rfl, hblt, hc⟩ := H.out (by omega)
        have HC := Lib.hid hc
        obtain ⟨A1, n1, c1, hn1, t0, t1, -, J1⟩ := RunsAt.one_at hc hil (Below.refl w.heap.size w)
        have hri := HEV.out i hil
        have hos := fun t hm => outM_some (ts := ts) (l := l) (t := t) hil hm
        have hon := fun hm => outM_none (ts := ts) (l := l) hil hm
        obtain ⟨r, hr⟩ : ∃ r, l[i] = r := ⟨_, rfl⟩
        rw [hr] at hn1 t1 J1 hri hos hon
        rw [← HL0.out] at hri
        obtain ⟨k1, k2, hwy⟩ := wayOk_true (runOk_true hri).1
        rw [← hn1] at k1 k2
        have HJ1 := Lib.hid J1
        have HN1 := Lib.hid hn1
        have HOS := Lib.hid hos
        have HON := Lib.hid hon
        have HRI := Lib.hid hri
        obtain ⟨Y, hY⟩ : ∃ Y, rowM ts r i (l.take i) 0 = Y := ⟨_, rfl⟩
        have HY : Hid (rowM ts r i ((l.take i).drop 0) 0 = Y) := hY
        rw [hY] at HOS HON
        replace t0 := bel_cell hbel t0
        replace t1 := bel_cell hbel t1
        obtain ⟨wp, rfl⟩ : ∃ wp : World, wp = wr := ⟨_, rfl⟩
        have hws := hbel.size
        have hic : i ≤ c := by omega
        have hi0 : (0 : Int) ≤ (i : Int) := by omega
        have hi1 : (i : Int) ≤ (c : Int) := by omega
        clear hc hY hr hn1 J1 hri hos hon hwy
        go_wp2_with fail
        go_loopw [30] (fun u w' => ∃ (k : Nat), u = .int .i64 k ∧ k ≤ i ∧ Hid (rowM ts r i ((l.take i).drop k) k = Y) ∧ Hid (Blk w' wp.heap.size 58 #[.slice A1 n1 c1, .int .i64 r.2]) ∧ Below w.heap.size w w') (fun u _ => i - (intOf u).toNat)
        case atStart => exact ⟨0, rfl, by omega, HY, Blk.new _ _ _, bel_next hbel (by go_grown)⟩
        case round =>
          clear HY hbel t0 t1
          obtain ⟨k, rfl, hki, HY, HB9, hbel⟩ := hrel
          by_cases hkl : k < i
          · have hkt : k < (l.take i).length := by simp; omega
            have hkl2 : k < l.length := by omega
            have hge : (l.take i)[k] = l[k] := by simp
            obtain ⟨A2, n2, c2, hn2, u0, u1, I2, J2⟩ := RunsAt.one_at HC.out hkl2 hbel
            have hrk := HEV.out k hkl2
            have hrs := fun x hm => rowM_some (ts := ts) (r := r) (i := i) (x := x) hkt hm
            have hrn := fun hm => rowM_none (ts := ts) (r := r) (i := i) hkt hm
            rw [hge] at hrs hrn
            obtain ⟨q, hq⟩ : ∃ q, l[k] = q := ⟨_, rfl⟩
            rw [hq] at hn2 u1 I2 J2 hrk hrs hrn
            rw [← HL0.out] at hrk
            have HN2 := Lib.hid hn2
            have HRK := Lib.hid hrk
            have HJ2 := Lib.hid J2
            have HRS := Lib.hid hrs
            have HRN := Lib.hid hrn
            obtain ⟨Z, hZ⟩ : ∃ Z, meetP ts r q = Z := ⟨_, rfl⟩
            have HZZ := Lib.hid hZ
            have hk0 : (0 : Int) ≤ (k : Int) := by omega
            have hkn : k < n := by omega
            have hn2s : n2 ≤ 12 := by rw [hn2]; exact (wayOk_true (runOk_true hrk).1).2.1
            clear hn2 hrs hrn hrk hge I2 J2 hq hZ
            go_wp2_with fail
            have D5 : Below w.heap.size w (wr.alloc (.cells #[.slice A2 n2 c2, .int .i64 q.2] 58)) := bel_next hbel (by go_grown)
            refine (spansOf_any A0 m c0 ts A2 n2 c2 q _ (H0.out.bel D5) HL0.out (HJ2.out.bel D5) HN2.out HVT.out HRK.out).mono ?_
            rintro e w5 ⟨A12, c12, rfl, hS12, hb5⟩
            have HS12 := Lib.hid hS12
            have D6 : Below w.heap.size w w5 := bel_next D5 hb5
            have HB5 : Hid (Blk w5 wp.heap.size 58 #[.slice A1 n1 c1, .int .i64 r.2]) := bel_blk (HB9.out.alloc _) hb5
            obtain ⟨e0, e1, -⟩ := HB5.out.c2
            have e2 := HB5.out.lt
            clear hS12 hb5 D5 HB9 u0 u1
            go_wp2_with fail
            refine (spansOf_any A0 m c0 ts A1 n1 c1 r _ (H0.out.bel D6) HL0.out (HJ1.out.bel D6) HN1.out HVT.out HRI.out).mono ?_
            rintro e w6 ⟨A40, c40, rfl, hS40, hb6⟩
            have HS40 := Lib.hid hS40
            have HS12' := Lib.hid (HS12.out.bel hb6)
            have D7 : Below w.heap.size w w6 := bel_next D6 hb6
            have HB6 := hid_blk HB5 hb6
            obtain ⟨O, hO⟩ : ∃ O, spR ts q = O := ⟨_, rfl⟩
            obtain ⟨R, hR⟩ : ∃ R, spR ts r = R := ⟨_, rfl⟩
            have HM : Hid (meetF O (R.drop 0) 0 = Z) := by show _ = _; rw [← HZZ.out, ← hO, ← hR]; rfl
            have HRL : Hid (n1 = R.length) := by show _ = _; rw [← hR]; unfold spR; rw [spF_len]; exact HN1.out
            have HOL : Hid (n2 = O.length) := by show _ = _; rw [← hO]; unfold spR; rw [spF_len]; exact HN2.out
            have HTB : Hid (∀ (x : Nat) (h : x < R.length), (R[x]).1 = r.1.getD x 0) := by
              show ∀ x, _
              intro x hx
              subst hR
              exact spF_tube ts r.1 r.2 x hx
            rw [hO] at HS12'
            rw [hR] at HS40
            clear hS40 hb6 D6 HB5 HS12 e0 e1 e2 hO hR
            go_wp2_with fail
            go_loopw [42] (fun u w' => ∃ (x : Nat), u = .int .i64 x ∧ x ≤ n1 ∧ Hid (meetF O (R.drop x) x = Z) ∧ Hid (SpAt w' A12 O) ∧ Hid (SpAt w' A40 R) ∧ Hid (Blk w' wp.heap.size 58 #[.slice A1 n1 c1, .int .i64 r.2]) ∧ Below w.heap.size w w') (fun u _ => n1 - (intOf u).toNat)
            case atStart => exact ⟨0, rfl, by omega, HM, HS12', HS40, HB6, D7⟩
            case round =>
              clear HM HS12' HS40 HB6 D7 hbel
              obtain ⟨x, rfl, hxn, HM, HS12, HS40, HB6, hbel⟩ := hrel
              by_cases hxl : x < n1
              · have hxr : x < R.length := by rw [← HRL.out]; exact hxl
                obtain ⟨bs, os, rfl, hbs, hcs⟩ := HS40.out (by omega)
                obtain ⟨v0, v1, v2⟩ := hcs x hxr
                have hst := meetF_step (b := O) hxr
                have htb := HTB.out x hxr
                obtain ⟨s, hs⟩ : ∃ s, R[x] = s := ⟨_, rfl⟩
                rw [hs] at v0 v1 v2 hst htb
                have HST := Lib.hid hst
                have HTBX := Lib.hid htb
                have hx0 : (0 : Int) ≤ (x : Int) := by omega
                clear hcs hst htb hs
                go_wp2_with fail
                refine (ContainsFunc_meet s A12 n2 c12 O _ (HS12.out.alloc _) HOL.out (by omega)).mono ?_
                rintro e w8 ⟨rfl, hb8⟩
                have D8 : Below w.heap.size w w8 := bel_next (bel_next hbel (show Below wr.heap.size wr _ from by go_grown)) hb8
                have HS12b : Hid (SpAt w8 A12 O) := (HS12.out.alloc _).bel hb8
                have HS40b : Hid (SpAt w8 (some ⟨bs, os, none⟩) R) := (HS40.out.alloc _).bel hb8
                have HB6b : Hid (Blk w8 wp.heap.size 58 #[.slice A1 n1 c1, .int .i64 r.2]) := bel_blk (HB6.out.alloc _) hb8
                have HB14 : Hid (Blk w8 wr.heap.size 94 #[.int .i64 s.1, .int .i64 s.2.1, .int .i64 s.2.2]) := bel_blk (Blk.new _ _ _) hb8
                clear hb8 HS12 HS40 HB6 v0 v1 v2
                cases hany : anyM s O
                · have HM2 : Hid (meetF O (R.drop (x + 1)) (x + 1) = Z) := by show _ = _; rw [← HM.out, HST.out, if_neg (by rw [hany]; exact Bool.false_ne_true)]
                  clear HM HST hany
                  go_wp2_with fail
                  go_roundw
                  case rel => exact ⟨x + 1, by go_num, by omega, HM2, HS12b, HS40b, HB6b, D8⟩
                  case measure => simp [intOf]; omega
                · have hzs : Z = some x := by rw [← HM.out, HST.out, if_pos hany]
                  have HXs : Hid (X = some ((i : Int), (k : Int), s.1)) := by
                    show _ = _
                    rw [← HX.out]
                    refine HOS.out _ ?_
                    rw [← HY.out, HRS.out x (by rw [HZZ.out, hzs]), HTBX.out]
                  obtain ⟨f0, f1, f2⟩ : w8.cell? ⟨wr.heap.size, 0, none⟩ = some (.int .i64 s.1) ∧ True ∧ True := ⟨by rw [HB14.out.cell]; rfl, trivial, trivial⟩
                  clear HM HST hany hzs f1 f2
                  go_wp2_with fail
                  go_quiet (fail)
                  go_wp2_with fail
                  refine bodyPost_ret (v := .tuple #[.int .i64 i, .int .i64 k, .int .i64 s.1, .int .i64 0]) (by simp [results, Try.results37, go_sem]) rfl ?_
                  rw [E.out, HXs.out]
                  exact ⟨rfl, below_drewN D8 _⟩
              · have hzn : Z = none := by rw [← HM.out, List.drop_of_length_le (by rw [← HRL.out]; omega), meetF]
                have HY2 : Hid (rowM ts r i ((l.take i).drop (k + 1)) (k + 1) = Y) := by show _ = _; rw [← HRN.out (by rw [HZZ.out, hzn])]; exact HY.out
                clear HM hzn
                go_wp2_with fail
                go_roundw
                case rel => exact ⟨k + 1, by go_num, by omega, HY2, HB6, hbel⟩
                case measure => simp [intOf]; omega
          · have hYn : Hid (Y = none) := by show _ = _; rw [← HY.out, List.drop_of_length_le (by simp; omega), rowM]
            have HX2 : Hid (outM ts l (l.drop (i + 1)) (i + 1) = X) := by show _ = _; rw [← HON.out hYn.out]; exact HX.out
            clear HX HY
            go_wp2_with fail
            go_roundw
            case rel => exact ⟨i + 1, by go_num, by omega, HX2, hbel⟩
            case measure => simp [intOf]; omega
      · have HF : Hid (X = none) := by show _ = _; rw [← HX.out, List.drop_of_length_le (by rw [← HL.out]; omega), outM]
        go_wp2_with fail
        refine bodyPost_ret (v := .tuple #[.int .i64 0, .int .i64 0, .int .i64 0, .int .i64 3]) (by simp [results, Try.results37, go_sem]) rfl ?_
        rw [E.out, HF.out]
        exact ⟨rfl, hbel⟩

end Go.Proofs.Ytlebkjkiikehhaa
