/-
  CONTRACTS: do any two of some ways need different settings, the program's (printed by tools/gen_fit.py).
-/
import Derived.Test.YthkfdpicacaphaaFit
namespace Go.Proofs.Ythkfdpicacaphaa
open Go.RowKit

set_option maxHeartbeats 2000000 in
theorem fitBad_any (S : Int) (A : Option Addr) (n c : Nat) (l : List Tb) (p : Nat) (A2 : Option Addr) (n2 c2 : Nat) (r : List Int) (w : World) (hp0 : w.cell? ⟨p, 0, none⟩ = some (.int .i64 S)) (hp1 : w.cell? ⟨p, 1, none⟩ = some (.slice A n c)) (h : TubesAt w A l) (hl : n = l.length) (hn0 : n ≤ 1048576) (h2 : IntsAt w A2 r) (hl2 : n2 = r.length) (hn2 : n2 ≤ 1048576) :
    Calls Try.prog 59 #[.slice A2 n2 c2, .pointer (some ⟨p, 0, none⟩)] w (Ret w (.bool (!simpW l r))) := by
  have HL := Lib.hid hl
  have H := Lib.hid h
  have HL2 := Lib.hid hl2
  have H2 := Lib.hid h2
  clear hl h hl2 h2
  go_enter Try.func59, Try.ntmps59
  go_wp2_with fail
  refine (isSimple_any S A n c l A2 n2 c2 r _ H.out HL.out hn0 H2.out HL2.out hn2).mono ?_
  rintro e w1 ⟨rfl, hb1⟩
  go_wp2_with fail
  go_ret
  exact ⟨rfl, hb1⟩
def FoundF (w : World) (b : Bool) (e : Ending) (w' : World) : Prop := ∃ r : Int, e = .returned (.int .i64 r) ∧ decide (0 ≤ r) = b ∧ Below w.heap.size w w'

set_option maxHeartbeats 2000000 in
theorem IndexFunc_rows (S : Int) (A : Option Addr) (n c : Nat) (l : List Tb) (p : Nat) (A1 : Option Addr) (n1 c1 : Nat) (ws : List (List Int)) (w : World) (hp0 : w.cell? ⟨p, 0, none⟩ = some (.int .i64 S)) (hp1 : w.cell? ⟨p, 1, none⟩ = some (.slice A n c)) (h : TubesAt w A l) (hl : n = l.length) (hn0 : n ≤ 1048576) (h1 : IntssAt w A1 ws) (hl1 : n1 = ws.length) (hs1 : SmallI ws) :
    Calls Try.prog 87 #[.slice A1 n1 c1, .func (.func 59) #[] #[.pointer (some ⟨p, 0, none⟩)]] w (FoundF w (!simpAll l ws 0)) := by
  have hn1 : n1 ≤ 1048576 := by rw [hl1]; exact hs1.1
  have HL := Lib.hid hl
  have H := Lib.hid h
  have HL1 := Lib.hid hl1
  have H1 := Lib.hid h1
  have HS1 := Lib.hid hs1
  clear hl h hl1 h1 hs1
  go_enter Try.func87, Try.ntmps87
  go_wp2
  go_loopw [8] (fun u w' => ∃ (i : Nat), u = .int .i64 i ∧ i ≤ n1 ∧ Hid (simpAll l ws 0 = simpAll l ws i) ∧ Below w.heap.size w w') (fun u _ => n1 - (intOf u).toNat)
  case atStart => exact ⟨0, rfl, by omega, rfl, Below.refl _ _⟩
  case round =>
    obtain ⟨i, rfl, hin, HA, hbel⟩ := hrel
    by_cases hlt : i < n1
    · have hil : i < ws.length := by rw [← HL1.out]; exact hlt
      obtain ⟨b', o, rfl, hblt, hc⟩ := (H1.out.bel hbel) (by omega)
      obtain ⟨A2, c2, t0, W2, -⟩ := hc i hil
      have hsm := HS1.out.2 i hil
      have hd := simpAll_step (l := l) hil
      obtain ⟨r, hr⟩ : ∃ r, ws[i] = r := ⟨_, rfl⟩
      rw [hr] at t0 W2 hsm hd
      have HW2 := Lib.hid W2
      obtain ⟨k, hk⟩ : ∃ k, r.length = k := ⟨_, rfl⟩
      rw [hk] at t0 hsm
      have HK := Lib.hid hk
      clear hc hr hk W2
      go_wp2_with fail
      refine (fitBad_any S A n c l p A2 k c2 r _ (bel_cell hbel hp0) (bel_cell hbel hp1) (H.out.bel hbel) HL.out hn0 HW2.out HK.out.symm hsm).mono ?_
      rintro e w2 ⟨rfl, hb2⟩
      have D2 := bel_next hbel hb2
      clear hb2
      cases hsi : simpW l r
      · have HF : Hid (simpAll l ws 0 = false) := by show _ = _; rw [HA.out, hd, hsi]; rfl
        clear hd
        go_wp2_with fail
        go_ret
        exact ⟨_, rfl, by rw [HF.out]; simp, D2⟩
      · have HF : Hid (simpAll l ws 0 = simpAll l ws (i + 1)) := by show _ = _; rw [HA.out, hd, hsi]; rfl
        clear hd
        go_wp2_with fail
        go_roundw
        case rel => exact ⟨i + 1, by go_num, by omega, HF, D2⟩
        case measure => simp [intOf]; omega
    · have HF : Hid (simpAll l ws 0 = true) := by show _ = _; rw [HA.out, simpAll_end (by rw [← HL1.out]; omega)]
      go_wp2_with fail
      go_ret
      exact ⟨-1, rfl, by rw [HF.out]; rfl, hbel⟩

theorem ContainsFunc_rows (S : Int) (A : Option Addr) (n c : Nat) (l : List Tb) (p : Nat) (A1 : Option Addr) (n1 c1 : Nat) (ws : List (List Int)) (w : World) (hp0 : w.cell? ⟨p, 0, none⟩ = some (.int .i64 S)) (hp1 : w.cell? ⟨p, 1, none⟩ = some (.slice A n c)) (h : TubesAt w A l) (hl : n = l.length) (hn0 : n ≤ 1048576) (h1 : IntssAt w A1 ws) (hl1 : n1 = ws.length) (hs1 : SmallI ws) :
    Calls Try.prog 58 #[.slice A1 n1 c1, .func (.func 59) #[] #[.pointer (some ⟨p, 0, none⟩)]] w (Ret w (.bool (!simpAll l ws 0))) := by
  have HL := Lib.hid hl
  have HL1 := Lib.hid hl1
  clear hl hl1
  go_enter Try.func58, Try.ntmps58
  go_wp2_with fail
  refine (IndexFunc_rows S A n c l p A1 n1 c1 ws _ hp0 hp1 h HL.out hn0 h1 HL1.out hs1).mono ?_
  rintro e w1 ⟨r, rfl, hr, hb⟩
  have HR := Lib.hid hr
  clear hr
  go_wp2_with fail
  go_ret
  exact ⟨ret_bool (by rw [← HR.out]), hb⟩

set_option maxHeartbeats 8000000 in
theorem implFit_any (S : Int) (A : Option Addr) (n c : Nat) (l : List Tb) (A1 : Option Addr) (n1 c1 : Nat) (ws : List (List Int)) (w : World) (h : TubesAt w A l) (hl : n = l.length) (hn0 : n ≤ 1048576)
    (h1 : IntssAt w A1 ws) (hl1 : n1 = ws.length) (hs1 : SmallI ws) (hcap : n1 ≤ c1 := by omega) :
    Calls Try.prog 33 #[.agg #[.int .i64 S, .slice A n c], .slice A1 n1 c1] w (Ret w (.tuple #[.bool (fitR S l ws).1, .int .i64 (fitR S l ws).2])) := by
  have hn1 : n1 ≤ 1048576 := by rw [hl1]; exact hs1.1
  have HL := Lib.hid hl
  have H := Lib.hid h
  have HL1 := Lib.hid hl1
  have H1 := Lib.hid h1
  have HS1 := Lib.hid hs1
  clear hl h hl1 h1 hs1
  go_enter Try.func33, Try.ntmps33
  go_wp2_with fail
  refine (implValidNet_any S A n c l _ (H.out.alloc _) HL.out hn0).mono ?_
  rintro e w1 ⟨rfl, hb1⟩
  have D1 : Below w.heap.size w w1 := Below.trans (by go_grown) (hb1.mono (by simp))
  have N1 : Hid (Blk w1 w.heap.size 30 #[.int .i64 S, .slice A n c]) := bel_blk (Blk.new _ _ _) hb1
  clear hb1
  cases hv : validN S l
  · have E : Hid (fitR S l ws = (false, 1)) := by show _ = _; simp [fitR, hv]
    clear hv
    go_wp2_with fail
    refine bodyPost_ret (v := .tuple #[.bool false, .int .i64 1]) (by simp [results, Try.results33, go_sem]) rfl ?_
    rw [E.out]
    exact ⟨rfl, D1⟩
  · have HV := Lib.hid hv
    obtain ⟨v0, v1, -, -⟩ := validN_true hv
    obtain ⟨s, rfl⟩ : ∃ s : Nat, S = s := ⟨S.toNat, by omega⟩
    have hs10 : s ≤ 10 := by omega
    clear hv
    by_cases h20 : n1 ≤ 20
    · obtain ⟨b0, b1, -⟩ := N1.out.c2
      go_wp2_with fail
      refine (ContainsFunc_rows s A n c l _ A1 n1 c1 ws _ b0 b1 (H.out.bel D1) HL.out hn0 (H1.out.bel D1) HL1.out HS1.out).mono ?_
      rintro e w2 ⟨rfl, hb2⟩
      have D2 := bel_next D1 hb2
      have N2 := hid_blk N1 hb2
      clear hb2 D1 N1 b0 b1
      cases hsa : simpAll l ws 0
      · have E : Hid (fitR s l ws = (false, 2)) := by show _ = _; unfold fitR; rw [if_pos HV.out, hsa]; simp
        clear hsa
        go_wp2_with fail
        refine bodyPost_ret (v := .tuple #[.bool false, .int .i64 2]) (by simp [results, Try.results33, go_sem]) rfl ?_
        rw [E.out]
        exact ⟨rfl, D2⟩
      · have HSA := Lib.hid hsa
        have E : Hid (fitR s l ws = (fitAll s l ws 0, 0)) := by show _ = _; unfold fitR; rw [if_pos HV.out, hsa, ← HL1.out]; simp [h20]
        clear hsa
        go_wp2_with fail
        go_loopw [25] (fun u w' => ∃ (i : Nat), u = .int .i64 i ∧ i ≤ n1 ∧ Hid (fitAll s l ws 0 = fitAll s l ws i) ∧ Hid (Blk w' w.heap.size 30 #[.int .i64 s, .slice A n c]) ∧ Below w.heap.size w w') (fun u _ => n1 - (intOf u).toNat)
        case atStart => exact ⟨0, rfl, by omega, rfl, N2, D2⟩
        case round =>
          clear N2 D2
          obtain ⟨i, rfl, hin, HA, HN, hbel⟩ := hrel
          by_cases hlt : i < n1
          · have hil : i < ws.length := by rw [← HL1.out]; exact hlt
            have hd := fitAll_step (s := s) (l := l) hil
            obtain ⟨fr, hfr⟩ : ∃ f, fitRow s l ws i 0 = f := ⟨_, rfl⟩
            have HFR : Hid (fitRow s l ws i 0 = fr) := hfr
            rw [hfr] at hd
            have HD := Lib.hid hd
            obtain ⟨b', o, rfl, hblt, hc⟩ := (H1.out.bel hbel) (by omega)
            have HC := Lib.hid hc
            obtain ⟨A2, c2, t0, W2, -⟩ := hc i hil
            have hsm := HS1.out.2 i hil
            have hsi := simpAll_at HSA.out hil
            obtain ⟨r, hr⟩ : ∃ r, ws[i] = r := ⟨_, rfl⟩
            rw [hr] at t0 W2 hsm hsi
            have HR := Lib.hid hr
            have HW2 := Lib.hid W2
            have HSI := Lib.hid hsi
            have HO2 := Lib.hid (simpW_in0 hsi)
            obtain ⟨m2, hm2⟩ : ∃ k, r.length = k := ⟨_, rfl⟩
            rw [hm2] at t0 hsm
            have HM2 := Lib.hid hm2
            clear hd hfr hc hr hm2 W2 hsi
            obtain ⟨wp, rfl⟩ : ∃ wp : World, wp = wr := ⟨_, rfl⟩
            go_wp2_with fail
            go_loopw [34] (fun u w' => ∃ (k : Nat), u = .int .i64 k ∧ k ≤ i ∧ Hid (fitRow s l ws i k = fr) ∧ Below wp.heap.size wp w') (fun u _ => i - (intOf u).toNat)
            case atStart => exact ⟨0, rfl, by omega, HFR, Below.refl _ _⟩
            case round =>
              clear HFR
              obtain ⟨k, rfl, hki, HFR, hbel2⟩ := hrel
              by_cases hkl : k < i
              · have hkw : k < ws.length := by omega
                obtain ⟨b0, b1, -⟩ := (hid_blk HN hbel2).out.c2
                obtain ⟨A3, c3, t1, W3, -⟩ := (HC.out k hkw).bel hbel2
                have hsm3 := HS1.out.2 k hkw
                have hsi3 := simpAll_at HSA.out hkw
                have hd := fitRow_step (s := s) (l := l) (ws := ws) hkl
                rw [wAt_eq hil, wAt_eq hkw, HR.out] at hd
                obtain ⟨q, hq⟩ : ∃ r, ws[k] = r := ⟨_, rfl⟩
                rw [hq] at t1 W3 hsm3 hd hsi3
                have HO3 := Lib.hid (simpW_in0 hsi3)
                obtain ⟨m3, hm3⟩ : ∃ k, q.length = k := ⟨_, rfl⟩
                rw [hm3] at t1 hsm3
                have HM3 := Lib.hid hm3
                have HW3 := Lib.hid W3
                have hce : scanF l q r s 0 = clashF l r q (-1) := by rw [scanF_sym]; exact clash_eq HV.out HSI.out hsi3 HO2.out HO3.out
                obtain ⟨x, hx⟩ : ∃ x, clashF l r q (-1) = x := ⟨_, rfl⟩
                have HX := Lib.hid hx
                rw [hce, hx] at hd
                have HD2 := Lib.hid hd
                clear hq hm3 hx hd hsi3 hce W3
                have D3 := bel_next hbel hbel2
                go_wp2_with fail
                refine (clash_any s A n c l A2 m2 c2 r A3 m3 c3 q _ (H.out.bel D3) HL.out hs10 HV.out (HW2.out.bel hbel2) HM2.out.symm hsm HW3.out HM3.out.symm hsm3 HO2.out HO3.out).mono ?_
                rw [HX.out]
                rintro e w4 ⟨rfl, hb4⟩
                have D4 := bel_next hbel2 hb4
                clear hb4 b0 b1 t1 D3
                by_cases hx0 : x < 0
                · have HFR2 : Hid (fitRow s l ws i (k + 1) = fr) := by show _ = _; rw [← HFR.out, HD2.out]; simp [hx0]
                  clear HD2
                  go_wp2_with fail
                  go_roundw
                  case rel => exact ⟨k + 1, by go_num, by omega, HFR2, D4⟩
                  case measure => simp [intOf]; omega
                · have E2 : Hid (fitR s l ws = (false, 0)) := by show _ = _; rw [E.out, HA.out, HD.out, ← HFR.out, HD2.out]; simp [hx0]
                  clear HD2
                  go_wp2_with fail
                  refine bodyPost_ret (v := .tuple #[.bool false, .int .i64 0]) (by simp [results, Try.results33, go_sem]) rfl ?_
                  rw [E2.out]
                  exact ⟨rfl, bel_next hbel D4⟩
              · have HA2 : Hid (fitAll s l ws 0 = fitAll s l ws (i + 1)) := by show _ = _; rw [HA.out, HD.out, ← HFR.out, fitRow_end (by omega)]; rfl
                go_wp2_with fail
                go_roundw
                case rel => exact ⟨i + 1, by go_num, by omega, HA2, hid_blk HN hbel2, bel_next hbel hbel2⟩
                case measure => simp [intOf]; omega
          · have E2 : Hid (fitR s l ws = (true, 0)) := by show _ = _; rw [E.out, HA.out, fitAll_end (by rw [← HL1.out]; omega)]
            go_wp2_with fail
            refine bodyPost_ret (v := .tuple #[.bool true, .int .i64 0]) (by simp [results, Try.results33, go_sem]) rfl ?_
            rw [E2.out]
            exact ⟨rfl, hbel⟩
    · have E : Hid (fitR s l ws = (false, 2)) := by show _ = _; unfold fitR; rw [if_pos HV.out, ← HL1.out]; simp [h20]
      go_wp2_with fail
      refine bodyPost_ret (v := .tuple #[.bool false, .int .i64 2]) (by simp [results, Try.results33, go_sem]) rfl ?_
      rw [E.out]
      exact ⟨rfl, D1⟩

end Go.Proofs.Ythkfdpicacaphaa
