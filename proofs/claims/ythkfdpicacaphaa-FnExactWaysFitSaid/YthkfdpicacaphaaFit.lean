/-
  CONTRACTS: do any two of some ways need different settings (printed by tools/gen_fit.py).
-/
import Derived.Test.YthkfdpicacaphaaClash
import Derived.Test.YthkfdpicacaphaaIntss
namespace Go.Proofs.Ythkfdpicacaphaa
open Go.RowKit

theorem scanF_sym (l : List Tb) (a b : List Int) : ∀ (k i : Nat), scanF l a b k i = scanF l b a k i
  | 0, _ => rfl
  | k + 1, i => by
    rw [scanF, scanF, scanF_sym l a b k]
    by_cases h : 0 ≤ needF l i a ∧ 0 ≤ needF l i b ∧ needF l i a ≠ needF l i b
    · rw [if_pos h, if_pos ⟨h.2.1, h.1, fun e => h.2.2 e.symm⟩]
    · rw [if_neg h, if_neg (fun h' => h ⟨h'.2.1, h'.1, fun e => h'.2.2 e.symm⟩)]
def wAt (ws : List (List Int)) (i : Nat) : List Int := ws.getD i []
theorem wAt_eq {ws : List (List Int)} {i : Nat} (h : i < ws.length) : wAt ws i = ws[i] := by simp [wAt, h]
def fitRow (s : Nat) (l : List Tb) (ws : List (List Int)) (i k : Nat) : Bool := ((List.range i).drop k).all fun k => decide (scanF l (wAt ws k) (wAt ws i) s 0 < 0)
def fitAll (s : Nat) (l : List Tb) (ws : List (List Int)) (i : Nat) : Bool := ((List.range ws.length).drop i).all fun i => fitRow s l ws i 0
theorem fitRow_step {s i k : Nat} {l : List Tb} {ws : List (List Int)} (h : k < i) : fitRow s l ws i k = (decide (scanF l (wAt ws k) (wAt ws i) s 0 < 0) && fitRow s l ws i (k + 1)) := by
  unfold fitRow
  rw [drop_at' (show k < (List.range i).length by simpa using h), List.all_cons]
  simp
theorem fitRow_end {s i k : Nat} {l : List Tb} {ws : List (List Int)} (h : i ≤ k) : fitRow s l ws i k = true := by
  unfold fitRow
  rw [List.drop_of_length_le (by simpa using h)]; rfl
theorem fitAll_step {s i : Nat} {l : List Tb} {ws : List (List Int)} (h : i < ws.length) : fitAll s l ws i = (fitRow s l ws i 0 && fitAll s l ws (i + 1)) := by
  unfold fitAll
  rw [drop_at' (show i < (List.range ws.length).length by simpa using h), List.all_cons]
  simp
theorem fitAll_end {s i : Nat} {l : List Tb} {ws : List (List Int)} (h : ws.length ≤ i) : fitAll s l ws i = true := by
  unfold fitAll
  rw [List.drop_of_length_le (by simpa using h)]; rfl
def simpAll (l : List Tb) (ws : List (List Int)) (i : Nat) : Bool := (ws.drop i).all fun w => simpW l w
theorem simpAll_step {l : List Tb} {ws : List (List Int)} {i : Nat} (h : i < ws.length) : simpAll l ws i = (simpW l ws[i] && simpAll l ws (i + 1)) := by
  unfold simpAll
  rw [drop_at' h, List.all_cons]
theorem simpAll_end {l : List Tb} {ws : List (List Int)} {i : Nat} (h : ws.length ≤ i) : simpAll l ws i = true := by
  unfold simpAll
  rw [List.drop_of_length_le h]; rfl
theorem simpAll_at {l : List Tb} {ws : List (List Int)} (h : simpAll l ws 0 = true) {i : Nat} (hi : i < ws.length) : simpW l ws[i] = true := by
  unfold simpAll at h
  rw [List.drop_zero] at h
  exact List.all_eq_true.1 h _ (List.getElem_mem hi)
def fitR (S : Int) (l : List Tb) (ws : List (List Int)) : Bool × Int := if validN S l then (if simpAll l ws 0 && decide (ws.length ≤ 20) then (fitAll S.toNat l ws 0, 0) else (false, 2)) else (false, 1)

set_option maxHeartbeats 8000000 in
theorem specFit_any (S : Int) (A : Option Addr) (n c : Nat) (l : List Tb) (A1 : Option Addr) (n1 c1 : Nat) (ws : List (List Int)) (w : World) (h : TubesAt w A l) (hl : n = l.length) (hn0 : n ≤ 1048576)
    (h1 : IntssAt w A1 ws) (hl1 : n1 = ws.length) (hs1 : SmallI ws) :
    Calls Try.prog 31 #[.agg #[.int .i64 S, .slice A n c], .slice A1 n1 c1] w (Ret w (.tuple #[.bool (fitR S l ws).1, .int .i64 (fitR S l ws).2])) := by
  have hn1 : n1 ≤ 1048576 := by rw [hl1]; exact hs1.1
  have HL := Lib.hid hl
  have H := Lib.hid h
  have HL1 := Lib.hid hl1
  have H1 := Lib.hid h1
  have HS1 := Lib.hid hs1
  clear hl h hl1 h1 hs1
  go_enter Try.func31, Try.ntmps31
  go_wp2_with fail
  refine (l02Ok_any _ S A n c l _ (NetAt.box H.out _) HL.out hn0).mono ?_
  rintro e w1 ⟨rfl, hb1⟩
  have D1 : Below w.heap.size w w1 := Below.trans (by go_grown) (hb1.mono (by simp))
  have N1 : Hid (Blk w1 w.heap.size 30 #[.int .i64 S, .slice A n c]) := bel_blk (Blk.new _ _ _) hb1
  clear hb1
  cases hv : validN S l
  · have E : Hid (fitR S l ws = (false, 1)) := by show _ = _; simp [fitR, hv]
    clear hv
    go_wp2_with fail
    refine bodyPost_ret (v := .tuple #[.bool false, .int .i64 1]) (by simp [results, Try.results31, go_sem]) rfl ?_
    rw [E.out]
    exact ⟨rfl, D1⟩
  · have HV := Lib.hid hv
    obtain ⟨v0, v1, -, -⟩ := validN_true hv
    obtain ⟨s, rfl⟩ : ∃ s : Nat, S = s := ⟨S.toNat, by omega⟩
    have hs10 : s ≤ 10 := by omega
    clear hv
    go_wp2_with fail
    go_loopw [6] (fun u w' => ∃ (i : Nat), u = .int .i64 i ∧ i ≤ n1 ∧ Hid (simpAll l ws 0 = simpAll l ws i) ∧ Hid (Blk w' w.heap.size 30 #[.int .i64 s, .slice A n c]) ∧ Below w.heap.size w w') (fun u _ => n1 - (intOf u).toNat)
    case atStart => exact ⟨0, rfl, by omega, rfl, N1, D1⟩
    case round =>
      clear N1 D1
      obtain ⟨i, rfl, hin, HA, HN, hbel⟩ := hrel
      obtain ⟨b0, b1, -⟩ := HN.out.c2
      by_cases hlt : i < n1
      · have hil : i < ws.length := by rw [← HL1.out]; exact hlt
        obtain ⟨b', o, rfl, hblt, hc⟩ := (H1.out.bel hbel) (by omega)
        obtain ⟨A2, c2, t0, W2, -⟩ := hc i hil
        have hsm := HS1.out.2 i hil
        have hd := simpAll_step (l := l) hil
        obtain ⟨r, hr⟩ : ∃ r, ws[i] = r := ⟨_, rfl⟩
        rw [hr] at t0 W2 hsm hd
        have HW2 := Lib.hid W2
        obtain ⟨k, hk⟩ : ∃ k, r.length = k := ⟨_, rfl⟩
        rw [hk] at t0 hsm
        have HK := Lib.hid hk
        clear hc hr hk W2
        go_wp2_with fail
        refine (l04Simple_any _ s A n c l A2 k c2 r _ ⟨b0, b1, H.out.bel hbel⟩ HL.out hn0 HW2.out HK.out.symm hsm).mono ?_
        rintro e w2 ⟨rfl, hb2⟩
        have D2 := bel_next hbel hb2
        have N2 := hid_blk HN hb2
        clear hb2
        cases hsi : simpW l r
        · have E : Hid (fitR s l ws = (false, 2)) := by show _ = _; unfold fitR; rw [if_pos HV.out, HA.out, hd, hsi]; simp
          clear hd hsi
          go_wp2_with fail
          refine bodyPost_ret (v := .tuple #[.bool false, .int .i64 2]) (by simp [results, Try.results31, go_sem]) rfl ?_
          rw [E.out]
          exact ⟨rfl, D2⟩
        · have HA2 : Hid (simpAll l ws 0 = simpAll l ws (i + 1)) := by show _ = _; rw [HA.out, hd, hsi]; rfl
          clear hd hsi
          go_wp2_with fail
          go_roundw
          case rel => exact ⟨i + 1, by go_num, by omega, HA2, N2, D2⟩
          case measure => simp [intOf]; omega
      · have HSA : Hid (simpAll l ws 0 = true) := by show _ = _; rw [HA.out, simpAll_end (by rw [← HL1.out]; omega)]
        clear HA
        by_cases h20 : n1 ≤ 20
        · have E : Hid (fitR s l ws = (fitAll s l ws 0, 0)) := by show _ = _; unfold fitR; rw [if_pos HV.out, HSA.out, ← HL1.out]; simp [h20]
          go_wp2_with fail
          go_loopw [7] (fun u w' => ∃ (i : Nat), u = .int .i64 i ∧ i ≤ n1 ∧ Hid (fitAll s l ws 0 = fitAll s l ws i) ∧ Hid (Blk w' w.heap.size 30 #[.int .i64 s, .slice A n c]) ∧ Below w.heap.size w w') (fun u _ => n1 - (intOf u).toNat)
          case atStart => exact ⟨0, rfl, by omega, rfl, HN, hbel⟩
          case round =>
            clear HN hbel b0 b1
            obtain ⟨i, rfl, hin, HA, HN, hbel⟩ := hrel
            by_cases hlt : i < n1
            · have hil : i < ws.length := by rw [← HL1.out]; exact hlt
              have hd := fitAll_step (s := s) (l := l) hil
              obtain ⟨fr, hfr⟩ : ∃ f, fitRow s l ws i 0 = f := ⟨_, rfl⟩
              have HFR : Hid (fitRow s l ws i 0 = fr) := hfr
              rw [hfr] at hd
              have HD := Lib.hid hd
              clear hd hfr
              obtain ⟨wp, rfl⟩ : ∃ wp : World, wp = wr := ⟨_, rfl⟩
              go_wp2_with fail
              go_loopw [8] (fun u w' => ∃ (k : Nat), u = .int .i64 k ∧ k ≤ i ∧ Hid (fitRow s l ws i k = fr) ∧ Hid (Blk w' w.heap.size 30 #[.int .i64 s, .slice A n c]) ∧ Below w.heap.size w w') (fun u _ => i - (intOf u).toNat)
              case atStart => exact ⟨0, rfl, by omega, HFR, HN, hbel⟩
              case round =>
                clear HFR HN hbel
                obtain ⟨k, rfl, hki, HFR, HN, hbel⟩ := hrel
                by_cases hkl : k < i
                · have hkw : k < ws.length := by omega
                  have hkn : k < n1 := by omega
                  obtain ⟨b0, b1, -⟩ := HN.out.c2
                  obtain ⟨b', o, rfl, hblt, hc⟩ := (H1.out.bel hbel) (by omega)
                  obtain ⟨A2, c2, t0, W2, -⟩ := hc i hil
                  obtain ⟨A3, c3, t1, W3, -⟩ := hc k hkw
                  have hsm := HS1.out.2 i hil
                  have hsm3 := HS1.out.2 k hkw
                  have ho2 := simpW_in0 (simpAll_at HSA.out hil)
                  have ho3 := simpW_in0 (simpAll_at HSA.out hkw)
                  have hd := fitRow_step (s := s) (l := l) (ws := ws) hkl
                  rw [wAt_eq hil, wAt_eq hkw] at hd
                  obtain ⟨r, hr⟩ : ∃ r, ws[i] = r := ⟨_, rfl⟩
                  obtain ⟨q, hq⟩ : ∃ r, ws[k] = r := ⟨_, rfl⟩
                  rw [hr] at t0 W2 hsm hd ho2
                  rw [hq] at t1 W3 hsm3 hd ho3
                  have HO2 := Lib.hid ho2
                  have HO3 := Lib.hid ho3
                  obtain ⟨m2, hm2⟩ : ∃ k, r.length = k := ⟨_, rfl⟩
                  obtain ⟨m3, hm3⟩ : ∃ k, q.length = k := ⟨_, rfl⟩
                  rw [hm2] at t0 hsm
                  rw [hm3] at t1 hsm3
                  have HM2 := Lib.hid hm2
                  have HM3 := Lib.hid hm3
                  have HNT : TubesAt wr A l := H.out.bel hbel
                  obtain ⟨x, hx⟩ : ∃ x, scanF l q r s 0 = x := ⟨_, rfl⟩
                  have HX := Lib.hid hx
                  rw [hx] at hd
                  have HD2 := Lib.hid hd
                  clear hc hr hq hm2 hm3 hx hd ho2 ho3
                  go_wp2_with fail
                  go_region_held3 (fun w' => w'.cell? ⟨b', o + i, none⟩ = some (.slice A2 m2 c2) ∧ w'.cell? ⟨b', o + k, none⟩ = some (.slice A3 m3 c3) ∧ w'.cell? ⟨w.heap.size, 0, none⟩ = some (.int .i64 s) ∧ w'.cell? ⟨w.heap.size, 1, none⟩ = some (.slice A n c) ∧ TubesAt w' A l ∧ IntsAt w' A2 r ∧ IntsAt w' A3 q ∧ Hid (Blk w' w.heap.size 30 #[.int .i64 s, .slice A n c]) ∧ Below w.heap.size w w')
                    (first
                      | (refine ⟨t0, t1, b0, b1, HNT.bel (by go_grown), W2.bel (by go_grown), W3.bel (by go_grown), hid_blk HN (by go_grown), ?_⟩; go_grown; done)
                      | (have hS := ‹_ ∧ _ ∧ _ ∧ _ ∧ _ ∧ _ ∧ _ ∧ _ ∧ _›; exact ⟨bel_cell hbR hS.1, bel_cell hbR hS.2.1, bel_cell hbR hS.2.2.1, bel_cell hbR hS.2.2.2.1, TubesAt.bel hS.2.2.2.2.1 hbR, IntsAt.bel hS.2.2.2.2.2.1 hbR, IntsAt.bel hS.2.2.2.2.2.2.1 hbR, hid_blk hS.2.2.2.2.2.2.2.1 hbR, bel_next hS.2.2.2.2.2.2.2.2 hbR⟩))
                    (first
                      | (go_at_call 54; (with_reducible refine (l04Clash_any _ s A n c l A3 m3 c3 q A2 m2 c2 r _ (by first | exact ⟨(‹_ ∧ _ ∧ _ ∧ _ ∧ _ ∧ _ ∧ _ ∧ _ ∧ _›).2.2.1, (‹_ ∧ _ ∧ _ ∧ _ ∧ _ ∧ _ ∧ _ ∧ _ ∧ _›).2.2.2.1, (‹_ ∧ _ ∧ _ ∧ _ ∧ _ ∧ _ ∧ _ ∧ _ ∧ _›).2.2.2.2.1⟩ | exact ⟨b0, b1, HNT.drew⟩ | exact ⟨b0, b1, HNT⟩) HL.out hs10 (by first | exact (‹_ ∧ _ ∧ _ ∧ _ ∧ _ ∧ _ ∧ _ ∧ _ ∧ _›).2.2.2.2.2.2.1 | exact W3.drew | exact W3) HM3.out.symm hsm3 (by first | exact (‹_ ∧ _ ∧ _ ∧ _ ∧ _ ∧ _ ∧ _ ∧ _ ∧ _›).2.2.2.2.2.1 | exact W2.drew | exact W2) HM2.out.symm hsm HO3.out HO2.out).mono ?_); rw [HX.out]; rintro e w4 ⟨rfl, hbR⟩))
                  clear t0 t1 b0 b1 HNT W2 W3 HN hbel hblt
                  obtain ⟨-, -, -, -, -, -, -, HN, hbel⟩ := ‹_ ∧ _ ∧ _ ∧ _ ∧ _ ∧ _ ∧ _ ∧ _ ∧ _›
                  by_cases hx0 : x < 0
                  · have HFR2 : Hid (fitRow s l ws i (k + 1) = fr) := by show _ = _; rw [← HFR.out, HD2.out]; simp [hx0]
                    clear HD2
                    go_wp2_with fail
                    go_roundw
                    case rel => exact ⟨k + 1, by go_num, by omega, HFR2, HN, hbel⟩
                    case measure => simp [intOf]; omega
                  · have E2 : Hid (fitR s l ws = (false, 0)) := by show _ = _; rw [E.out, HA.out, HD.out, ← HFR.out, HD2.out]; simp [hx0]
                    clear HD2
                    go_wp2_with fail
                    refine bodyPost_ret (v := .tuple #[.bool false, .int .i64 0]) (by simp [results, Try.results31, go_sem]) rfl ?_
                    rw [E2.out]
                    exact ⟨rfl, hbel⟩
                · have HA2 : Hid (fitAll s l ws 0 = fitAll s l ws (i + 1)) := by show _ = _; rw [HA.out, HD.out, ← HFR.out, fitRow_end (by omega)]; rfl
                  go_wp2_with fail
                  go_roundw
                  case rel => exact ⟨i + 1, by go_num, by omega, HA2, HN, hbel⟩
                  case measure => simp [intOf]; omega
            · have E2 : Hid (fitR s l ws = (true, 0)) := by show _ = _; rw [E.out, HA.out, fitAll_end (by rw [← HL1.out]; omega)]
              go_wp2_with fail
              refine bodyPost_ret (v := .tuple #[.bool true, .int .i64 0]) (by simp [results, Try.results31, go_sem]) rfl ?_
              rw [E2.out]
              exact ⟨rfl, hbel⟩
        · have E : Hid (fitR s l ws = (false, 2)) := by show _ = _; unfold fitR; rw [if_pos HV.out, ← HL1.out]; simp [h20]
          go_wp2_with fail
          refine bodyPost_ret (v := .tuple #[.bool false, .int .i64 2]) (by simp [results, Try.results31, go_sem]) rfl ?_
          rw [E.out]
          exact ⟨rfl, hbel⟩

end Go.Proofs.Ythkfdpicacaphaa
