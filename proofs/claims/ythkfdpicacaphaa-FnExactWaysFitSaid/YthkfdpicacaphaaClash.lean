/-
  CONTRACTS: the first station for which two ways need different settings (printed by tools/gen_clash.py).
-/
import Derived.Test.YthkfdpicacaphaaClashP
namespace Go.Proofs.Ythkfdpicacaphaa
open Go.RowKit

set_option maxHeartbeats 2000000 in
theorem l04Needs_any (b : Nat) (S : Int) (A : Option Addr) (n c : Nat) (l : List Tb) (A2 : Option Addr) (n2 c2 : Nat) (way : List Int) (s : Int) (w : World) (h : NetAt w b S A n c l) (hl : n = l.length) (h2 : IntsAt w A2 way) (hl2 : n2 = way.length) (hn2 : n2 ≤ 1048576) (ho : outB way 0 ((l.length : Int) - 1) = false) :
    Calls Try.prog 83 #[.pointer (some ⟨b, 0, none⟩), .slice A2 n2 c2, .int .i64 s] w (Ret w (.int .i64 (needF l s way))) := by
  have HL := Lib.hid hl
  have HL2 := Lib.hid hl2
  have H2 := Lib.hid h2
  obtain ⟨a0, a1, hts⟩ := h
  have H := Lib.hid hts
  have HO := Lib.hid ho
  clear hl hl2 h2 hts ho
  go_enter Try.func83, Try.ntmps83
  go_wp2_with fail
  go_loopw [7] (fun u w' => ∃ (i : Nat), u = .int .i64 i ∧ i ≤ n2 ∧ Hid (needF l s way = needF l s (way.drop i)) ∧ Below w.heap.size w w') (fun u _ => n2 - (intOf u).toNat)
  case atStart => exact ⟨0, rfl, by omega, rfl, Below.refl _ _⟩
  case round =>
    obtain ⟨i, rfl, hin, HE, hbel⟩ := hrel
    have b0 := bel_cell hbel a0
    have b1 := bel_cell hbel a1
    by_cases hlt : i < n2
    · have hil : i < way.length := by rw [← HL2.out]; exact hlt
      obtain ⟨b3, o3, rfl, hblt3, hc⟩ := (H2.out.bel hbel) (by omega)
      have t0 := hc i hil
      obtain ⟨o1, o2⟩ := outB_at HO.out hil
      obtain ⟨q, hq⟩ : ∃ q : Nat, way[i] = q := ⟨way[i].toNat, by omega⟩
      have hd := needF_step (l := l) (s := s) hil
      rw [hq] at t0 o1 o2 hd
      have hql : q < l.length := by omega
      have hqn : q < n := by rw [HL.out]; exact hql
      obtain ⟨b2, o4, rfl, hblt2, hc2⟩ := (H.out.bel hbel) (by omega)
      obtain ⟨y0, y1, y2⟩ := hc2 q hql
      rw [frW_eq hql] at hd
      obtain ⟨f, hf⟩ : ∃ f, l[q].1 = f := ⟨_, rfl⟩
      rw [hf] at y0 hd
      clear hc hc2 hq hf y1 y2 o1 o2
      by_cases hfs : f = s
      · have HF : Hid (needF l s way = q) := by show _ = _; rw [HE.out, hd, if_pos hfs]
        subst hfs
        clear hd
        go_wp2_with fail
        go_quiet (fail)
        go_wp2_with fail
        go_ret
        rw [HF.out]
        exact ⟨rfl, below_drewN hbel _⟩
      · have HF : Hid (needF l s way = needF l s (way.drop (i + 1))) := by show _ = _; rw [HE.out, hd, if_neg hfs]
        have hfb : (f == s) = false := by simpa using hfs
        clear hd
        go_wp2_with fail
        go_quiet (fail)
        go_wp2_with fail
        go_roundw
        case rel => exact ⟨i + 1, by go_num, by omega, HF, below_drewN hbel _⟩
        case measure => simp [intOf]; omega
    · have HF : Hid (needF l s way = -1) := by show _ = _; rw [HE.out, List.drop_of_length_le (by rw [← HL2.out]; omega), needF]
      go_wp2_with fail
      go_ret
      rw [HF.out]
      exact ⟨rfl, hbel⟩

set_option maxHeartbeats 4000000 in
theorem l04Clash_any (b : Nat) (s : Nat) (A : Option Addr) (n c : Nat) (l : List Tb) (A1 : Option Addr) (n1 c1 : Nat) (wa : List Int) (A2 : Option Addr) (n2 c2 : Nat) (wb : List Int) (w : World) (h : NetAt w b s A n c l) (hl : n = l.length) (hs10 : s ≤ 10)
    (h1 : IntsAt w A1 wa) (hl1 : n1 = wa.length) (hn1 : n1 ≤ 1048576) (h2 : IntsAt w A2 wb) (hl2 : n2 = wb.length) (hn2 : n2 ≤ 1048576) (oa : outB wa 0 ((l.length : Int) - 1) = false) (ob : outB wb 0 ((l.length : Int) - 1) = false) :
    Calls Try.prog 54 #[.pointer (some ⟨b, 0, none⟩), .slice A1 n1 c1, .slice A2 n2 c2] w (Ret w (.int .i64 (scanF l wa wb s 0))) := by
  have HL := Lib.hid hl
  have HL1 := Lib.hid hl1
  have H1 := Lib.hid h1
  have HL2 := Lib.hid hl2
  have H2 := Lib.hid h2
  have H := Lib.hid h
  obtain ⟨a0, a1, -⟩ := h
  have OA := Lib.hid oa
  have OB := Lib.hid ob
  obtain ⟨rx, HX⟩ : ∃ r, Hid (scanF l wa wb (s - 0) 0 = r) := ⟨_, rfl⟩
  have HXR : Hid (scanF l wa wb s 0 = rx) := HX
  rw [HXR.out]
  clear hl hl1 h1 hl2 h2 oa ob
  go_enter Try.func54, Try.ntmps54
  go_wp2_with fail
  go_loopw [7] (fun u w' => ∃ (i : Nat), u = .int .i64 i ∧ i ≤ s ∧ Hid (scanF l wa wb (s - i) i = rx) ∧ Below w.heap.size w w') (fun u _ => s - (intOf u).toNat)
  case atStart => exact ⟨0, rfl, by omega, HX, Below.refl _ _⟩
  case round =>
    clear HX HXR
    obtain ⟨i, rfl, hin, HX, hbel⟩ := hrel
    have b0 := bel_cell hbel a0
    have b1 := bel_cell hbel a1
    by_cases hlt : i < s
    · have hst : scanF l wa wb (s - i) i = if 0 ≤ needF l i wa ∧ 0 ≤ needF l i wb ∧ needF l i wa ≠ needF l i wb then (i : Int) else scanF l wa wb (s - (i + 1)) (i + 1) := by rw [show s - i = (s - (i + 1)) + 1 by omega, scanF]
      obtain ⟨x, hx⟩ : ∃ x, needF l i wa = x := ⟨_, rfl⟩
      obtain ⟨y, hy⟩ : ∃ y, needF l i wb = y := ⟨_, rfl⟩
      rw [hx, hy] at hst
      have HXX := Lib.hid hx
      have HYY := Lib.hid hy
      have HST := Lib.hid hst
      clear hst hx hy
      go_wp2_with fail
      refine (l04Needs_any b s A n c l A1 n1 c1 wa i _ (H.out.bel hbel) HL.out (H1.out.bel hbel) HL1.out hn1 OA.out).mono ?_
      rw [HXX.out]
      rintro e w2 ⟨rfl, hb2⟩
      have D2 := bel_next hbel hb2
      clear hb2 b0 b1 hbel
      go_wp2_with fail
      refine (l04Needs_any b s A n c l A2 n2 c2 wb i _ (H.out.bel D2) HL.out (H2.out.bel D2) HL2.out hn2 OB.out).mono ?_
      rw [HYY.out]
      rintro e w3 ⟨rfl, hb3⟩
      have D3 := bel_next D2 hb3
      clear hb3 D2
      by_cases hx0 : 0 ≤ x
      · by_cases hy0 : 0 ≤ y
        · by_cases hxy : x = y
          · have HX2 : Hid (scanF l wa wb (s - (i + 1)) (i + 1) = rx) := by show _ = _; rw [← HX.out, HST.out, if_neg (by intro h; exact h.2.2 hxy)]
            subst hxy
            clear HX HST
            go_wp2_with fail
            go_roundw
            case rel => exact ⟨i + 1, by go_num, by omega, HX2, D3⟩
            case measure => simp [intOf]; omega
          · have HR : Hid (rx = i) := by show _ = _; rw [← HX.out, HST.out, if_pos ⟨hx0, hy0, hxy⟩]
            have hb : (x == y) = false := by simpa using hxy
            have hb2 : (x != y) = true := by simpa using hxy
            clear HX HST
            go_wp2_with fail
            go_ret
            rw [HR.out]
            exact ⟨rfl, D3⟩
        · have HX2 : Hid (scanF l wa wb (s - (i + 1)) (i + 1) = rx) := by show _ = _; rw [← HX.out, HST.out, if_neg (by intro h; exact hy0 h.2.1)]
          clear HX HST
          go_wp2_with fail
          go_roundw
          case rel => exact ⟨i + 1, by go_num, by omega, HX2, D3⟩
          case measure => simp [intOf]; omega
      · have HX2 : Hid (scanF l wa wb (s - (i + 1)) (i + 1) = rx) := by show _ = _; rw [← HX.out, HST.out, if_neg (by intro h; exact hx0 h.1)]
        clear HX HST
        go_wp2_with fail
        go_roundw
        case rel => exact ⟨i + 1, by go_num, by omega, HX2, D3⟩
        case measure => simp [intOf]; omega
    · have HR : Hid (rx = -1) := by show _ = _; rw [← HX.out, show s - i = 0 by omega, scanF]
      go_wp2_with fail
      go_ret
      rw [HR.out]
      exact ⟨rfl, hbel⟩

set_option maxHeartbeats 4000000 in
theorem clash_any (s : Nat) (A : Option Addr) (n c : Nat) (l : List Tb) (A1 : Option Addr) (n1 c1 : Nat) (wa : List Int) (A2 : Option Addr) (n2 c2 : Nat) (wb : List Int) (w : World) (h : TubesAt w A l) (hl : n = l.length) (hs10 : s ≤ 10) (hv : validN (s : Int) l = true)
    (h1 : IntsAt w A1 wa) (hl1 : n1 = wa.length) (hn1 : n1 ≤ 1048576) (h2 : IntsAt w A2 wb) (hl2 : n2 = wb.length) (hn2 : n2 ≤ 1048576) (oa : outB wa 0 ((l.length : Int) - 1) = false) (ob : outB wb 0 ((l.length : Int) - 1) = false) :
    Calls Try.prog 56 #[.agg #[.int .i64 s, .slice A n c], .slice A1 n1 c1, .slice A2 n2 c2] w (Ret w (.int .i64 (clashF l wa wb (-1)))) := by
  have HL := Lib.hid hl
  have HL1 := Lib.hid hl1
  have H1 := Lib.hid h1
  have HL2 := Lib.hid hl2
  have H2 := Lib.hid h2
  have H := Lib.hid h
  have OA := Lib.hid oa
  have OB := Lib.hid ob
  have HV := Lib.hid hv
  obtain ⟨rx, HX⟩ : ∃ r, Hid (clashF l (wa.drop 0) wb (-1) = r) := ⟨_, rfl⟩
  have HXR : Hid (clashF l wa wb (-1) = rx) := HX
  rw [HXR.out]
  clear h hl hl1 h1 hl2 h2 oa ob hv
  go_enter Try.func56, Try.ntmps56
  go_wp2_with fail
  go_loopw [7, 15] (fun v u w' => ∃ (m : Int) (i : Nat), v = .int .i64 m ∧ u = .int .i64 i ∧ i ≤ n1 ∧ -1 ≤ m ∧ m ≤ s ∧ Hid (clashF l (wa.drop i) wb m = rx) ∧ Hid (Blk w' w.heap.size 30 #[.int .i64 s, .slice A n c]) ∧ Below w.heap.size w w') (fun _ u _ => n1 - (intOf u).toNat)
  case atStart => exact ⟨-1, 0, rfl, rfl, by omega, by omega, by omega, HX, Blk.new _ _ _, by go_grown⟩
  case round =>
    clear HX HXR
    obtain ⟨m, i, rfl, rfl, hin, hm0, hm1, HX, HN, hbel⟩ := hrel
    by_cases hlt : i < n1
    · have hil : i < wa.length := by rw [← HL1.out]; exact hlt
      obtain ⟨b3, o3, rfl, hblt3, hc⟩ := (H1.out.bel hbel) (by omega)
      have t0 := hc i hil
      obtain ⟨o1, o2⟩ := outB_at OA.out hil
      obtain ⟨q, hq⟩ : ∃ q : Nat, wa[i] = q := ⟨wa[i].toNat, by omega⟩
      have hd := clashF_step (l := l) (m := m) (b := wb) hil
      have hfi := fr_in HV.out OA.out (List.getElem_mem hil)
      rw [hq] at t0 o1 o2 hd hfi
      have hql : q < l.length := by omega
      have hqn : q < n := by rw [HL.out]; exact hql
      have hfq := frW_eq hql
      obtain ⟨f, hf⟩ : ∃ f, l[q].1 = f := ⟨_, rfl⟩
      rw [hf] at hfq
      rw [hfq] at hfi
      have HFQ := Lib.hid hfq
      have HF := Lib.hid hf
      obtain ⟨y, hy⟩ : ∃ y, rowP l q wb m = y := ⟨_, rfl⟩
      have HY : Hid (rowP l q (wb.drop 0) m = y) := hy
      have HX1 : Hid (clashF l (wa.drop (i + 1)) wb y = rx) := by show _ = _; rw [← HX.out, hd, hy]
      obtain ⟨f0, f1⟩ := hfi.2
      clear hc hq hf hd hfi hfq hy HX o1 o2
      obtain ⟨wp, rfl⟩ : ∃ wp : World, wp = wr := ⟨_, rfl⟩
      go_wp2_with fail
      go_loopw [7, 21] (fun v u w' => ∃ (m : Int) (k : Nat), v = .int .i64 m ∧ u = .int .i64 k ∧ k ≤ n2 ∧ -1 ≤ m ∧ m ≤ s ∧ Hid (rowP l q (wb.drop k) m = y) ∧ w' = wp) (fun _ u _ => n2 - (intOf u).toNat)
      case atStart => exact ⟨m, 0, rfl, rfl, by omega, hm0, hm1, HY, rfl⟩
      case round =>
        clear HY hm0 hm1
        obtain ⟨m, k, rfl, rfl, hkn, hm0, hm1, HY, rfl⟩ := hrel
        obtain ⟨b0, b1, -⟩ := HN.out.c2
        by_cases hkl : k < n2
        · have hkl' : k < wb.length := by rw [← HL2.out]; exact hkl
          obtain ⟨b5, o5, rfl, hblt5, hc5⟩ := (H2.out.bel hbel) (by omega)
          have t5 := hc5 k hkl'
          obtain ⟨o1, o2⟩ := outB_at OB.out hkl'
          obtain ⟨r, hr⟩ : ∃ r : Nat, wb[k] = r := ⟨wb[k].toNat, by omega⟩
          have hd := rowP_step (l := l) (i := (q : Int)) (m := m) hkl'
          rw [hr] at t5 o1 o2 hd
          have hrl : r < l.length := by omega
          have hrn : r < n := by rw [HL.out]; exact hrl
          obtain ⟨b2, o4, rfl, hblt2, hc2⟩ := (H.out.bel hbel) (by omega)
          obtain ⟨y0, -, -⟩ := hc2 q hql
          obtain ⟨z0, -, -⟩ := hc2 r hrl
          rw [HF.out] at y0
          have hfr := frW_eq hrl
          obtain ⟨g, hg⟩ : ∃ g, l[r].1 = g := ⟨_, rfl⟩
          rw [hg] at z0 hfr
          have hpf : pairF l q r m = if (q : Int) ≠ r ∧ g = f ∧ (m < 0 ∨ f < m) then f else m := by unfold pairF; rw [HFQ.out, hfr]
          rw [hpf] at hd
          clear hc5 hc2 hr hg hfr hpf o1 o2
          by_cases hqr : q = r
          · have HY2 : Hid (rowP l q (wb.drop (k + 1)) m = y) := by show _ = _; rw [← HY.out, hd, if_neg (by intro h; exact h.1 (by omega))]
            subst hqr
            clear hd HY
            go_wp2_with fail
            go_roundw
            case rel => exact ⟨m, k + 1, rfl, by go_num, by omega, hm0, hm1, HY2, trivial⟩
            case measure => simp [intOf]; omega
          · have hb : ((q : Int) == (r : Int)) = false := by rw [beq_eq_false_iff_ne]; omega
            have hb2 : ((q : Int) != (r : Int)) = true := by rw [bne, hb]; rfl
            by_cases hgf : g = f
            · by_cases hmf : m < 0 ∨ f < m
              · have HY2 : Hid (rowP l q (wb.drop (k + 1)) f = y) := by show _ = _; rw [← HY.out, hd, if_pos ⟨by omega, hgf, hmf⟩]
                subst hgf
                clear hd HY
                rcases (show m < 0 ∨ (0 ≤ m ∧ g < m) by omega) with h1 | ⟨h1, h2⟩
                all_goals
                  clear hmf
                  go_wp2_with fail
                  go_roundw
                  case rel => exact ⟨g, k + 1, rfl, by go_num, by omega, by omega, by omega, HY2, trivial⟩
                  case measure => simp [intOf]; omega
              · have HY2 : Hid (rowP l q (wb.drop (k + 1)) m = y) := by show _ = _; rw [← HY.out, hd, if_neg (by intro h; exact hmf h.2.2)]
                subst hgf
                have h1 : 0 ≤ m := by omega
                have h2 : m ≤ g := by omega
                clear hd HY hmf
                go_wp2_with fail
                go_roundw
                case rel => exact ⟨m, k + 1, rfl, by go_num, by omega, hm0, hm1, HY2, trivial⟩
                case measure => simp [intOf]; omega
            · have HY2 : Hid (rowP l q (wb.drop (k + 1)) m = y) := by show _ = _; rw [← HY.out, hd, if_neg (by intro h; exact hgf h.2.1)]
              have hb3 : (g == f) = false := by simpa using hgf
              clear hd HY
              go_wp2_with fail
              go_roundw
              case rel => exact ⟨m, k + 1, rfl, by go_num, by omega, hm0, hm1, HY2, trivial⟩
              case measure => simp [intOf]; omega
        · have hmy : m = y := by
            have h1 := HY.out
            rw [List.drop_of_length_le (by rw [← HL2.out]; omega)] at h1
            exact h1
          subst hmy
          go_wp2_with fail
          go_roundw
          case rel => exact ⟨m, i + 1, rfl, by go_num, by omega, hm0, hm1, HX1, HN, hbel⟩
          case measure => simp [intOf]; omega
    · have HR : Hid (rx = m) := by
        show _ = _
        rw [← HX.out, List.drop_of_length_le (by rw [← HL1.out]; omega)]
        rfl
      go_wp2_with fail
      go_ret
      rw [HR.out]
      exact ⟨rfl, hbel⟩

def clashR (S : Int) (l : List Tb) (a b : List Int) : Int × Int := if validN S l then (if simpW l a && simpW l b then (clashF l a b (-1), 0) else (0, 2)) else (0, 1)
theorem simpW_in0 {l : List Tb} {way : List Int} (h : simpW l way = true) : outB way 0 ((l.length : Int) - 1) = false := by
  cases ho : outB way 0 ((l.length : Int) - 1)
  · rfl
  · rw [simpW_out ho] at h; cases h

set_option maxHeartbeats 4000000 in
theorem specClash_any (S : Int) (A : Option Addr) (n c : Nat) (l : List Tb) (A1 : Option Addr) (n1 c1 : Nat) (wa : List Int) (A2 : Option Addr) (n2 c2 : Nat) (wb : List Int) (w : World) (h : TubesAt w A l) (hl : n = l.length) (hn0 : n ≤ 1048576)
    (h1 : IntsAt w A1 wa) (hl1 : n1 = wa.length) (hn1 : n1 ≤ 1048576) (h2 : IntsAt w A2 wb) (hl2 : n2 = wb.length) (hn2 : n2 ≤ 1048576) :
    Calls Try.prog 28 #[.agg #[.int .i64 S, .slice A n c], .slice A1 n1 c1, .slice A2 n2 c2] w (Ret w (.tuple #[.int .i64 (clashR S l wa wb).1, .int .i64 (clashR S l wa wb).2])) := by
  have HL := Lib.hid hl
  have H := Lib.hid h
  have HL1 := Lib.hid hl1
  have H1 := Lib.hid h1
  have HL2 := Lib.hid hl2
  have H2 := Lib.hid h2
  clear hl h hl1 h1 hl2 h2
  go_enter Try.func28, Try.ntmps28
  go_wp2_with fail
  refine (l02Ok_any _ S A n c l _ (NetAt.box H.out _) HL.out hn0).mono ?_
  rintro e w1 ⟨rfl, hb1⟩
  have D1 : Below w.heap.size w w1 := Below.trans (by go_grown) (hb1.mono (by simp))
  have N1 : Hid (Blk w1 w.heap.size 30 #[.int .i64 S, .slice A n c]) := bel_blk (Blk.new _ _ _) hb1
  obtain ⟨a0, a1, -⟩ := N1.out.c2
  clear hb1
  cases hv : validN S l
  · have E : Hid (clashR S l wa wb = (0, 1)) := by show _ = _; simp [clashR, hv]
    clear hv
    go_wp2_with fail
    refine bodyPost_ret (v := .tuple #[.int .i64 0, .int .i64 1]) (by simp [results, Try.results28, go_sem]) rfl ?_
    rw [E.out]
    exact ⟨rfl, D1⟩
  · have HV := Lib.hid hv
    clear hv
    go_wp2_with fail
    refine (l04Simple_any _ S A n c l A1 n1 c1 wa _ ⟨a0, a1, H.out.bel D1⟩ HL.out hn0 (H1.out.bel D1) HL1.out hn1).mono ?_
    rintro e w2 ⟨rfl, hb2⟩
    have D2 := bel_next D1 hb2
    have N2 := hid_blk N1 hb2
    clear hb2 D1 N1 a0 a1
    obtain ⟨a0, a1, -⟩ := N2.out.c2
    cases hwa : simpW l wa
    · have E : Hid (clashR S l wa wb = (0, 2)) := by show _ = _; simp [clashR, HV.out, hwa]
      clear hwa
      go_wp2_with fail
      refine bodyPost_ret (v := .tuple #[.int .i64 0, .int .i64 2]) (by simp [results, Try.results28, go_sem]) rfl ?_
      rw [E.out]
      exact ⟨rfl, D2⟩
    · have HWA := Lib.hid hwa
      have OA : Hid (outB wa 0 ((l.length : Int) - 1) = false) := simpW_in0 hwa
      clear hwa
      go_wp2_with fail
      refine (l04Simple_any _ S A n c l A2 n2 c2 wb _ ⟨a0, a1, H.out.bel D2⟩ HL.out hn0 (H2.out.bel D2) HL2.out hn2).mono ?_
      rintro e w3 ⟨rfl, hb3⟩
      have D3 := bel_next D2 hb3
      have N3 := hid_blk N2 hb3
      clear hb3 D2 N2 a0 a1
      obtain ⟨a0, a1, -⟩ := N3.out.c2
      cases hwb : simpW l wb
      · have E : Hid (clashR S l wa wb = (0, 2)) := by show _ = _; simp [clashR, HV.out, hwb]
        clear hwb
        go_wp2_with fail
        refine bodyPost_ret (v := .tuple #[.int .i64 0, .int .i64 2]) (by simp [results, Try.results28, go_sem]) rfl ?_
        rw [E.out]
        exact ⟨rfl, D3⟩
      · have HWB := Lib.hid hwb
        have OB : Hid (outB wb 0 ((l.length : Int) - 1) = false) := simpW_in0 hwb
        have E : Hid (clashR S l wa wb = (clashF l wa wb (-1), 0)) := by show _ = _; simp [clashR, HV.out, HWA.out, hwb]
        obtain ⟨v0, v1, -, -⟩ := validN_true HV.out
        obtain ⟨s, rfl⟩ : ∃ s : Nat, S = s := ⟨S.toNat, by omega⟩
        have hs10 : s ≤ 10 := by omega
        clear hwb
        go_wp2_with fail
        refine (l04Clash_any _ s A n c l A1 n1 c1 wa A2 n2 c2 wb _ ⟨a0, a1, H.out.bel D3⟩ HL.out hs10 (H1.out.bel D3) HL1.out hn1 (H2.out.bel D3) HL2.out hn2 OA.out OB.out).mono ?_
        rw [(show scanF l wa wb s 0 = clashF l wa wb (-1) from clash_eq HV.out HWA.out HWB.out OA.out OB.out)]
        rintro e w4 ⟨rfl, hb4⟩
        go_wp2_with fail
        refine bodyPost_ret (v := .tuple #[.int .i64 (clashF l wa wb (-1)), .int .i64 0]) (by simp [results, Try.results28, go_sem]) rfl ?_
        rw [E.out]
        exact ⟨rfl, bel_next D3 hb4⟩

set_option maxHeartbeats 4000000 in
theorem implClash_any (S : Int) (A : Option Addr) (n c : Nat) (l : List Tb) (A1 : Option Addr) (n1 c1 : Nat) (wa : List Int) (A2 : Option Addr) (n2 c2 : Nat) (wb : List Int) (w : World) (h : TubesAt w A l) (hl : n = l.length) (hn0 : n ≤ 1048576)
    (h1 : IntsAt w A1 wa) (hl1 : n1 = wa.length) (hn1 : n1 ≤ 1048576) (h2 : IntsAt w A2 wb) (hl2 : n2 = wb.length) (hn2 : n2 ≤ 1048576) :
    Calls Try.prog 29 #[.agg #[.int .i64 S, .slice A n c], .slice A1 n1 c1, .slice A2 n2 c2] w (Ret w (.tuple #[.int .i64 (clashR S l wa wb).1, .int .i64 (clashR S l wa wb).2])) := by
  have HL := Lib.hid hl
  have H := Lib.hid h
  have HL1 := Lib.hid hl1
  have H1 := Lib.hid h1
  have HL2 := Lib.hid hl2
  have H2 := Lib.hid h2
  clear hl h hl1 h1 hl2 h2
  go_enter Try.func29, Try.ntmps29
  go_wp2_with fail
  refine (implValidNet_any S A n c l _ (H.out.alloc _) HL.out hn0).mono ?_
  rintro e w1 ⟨rfl, hb1⟩
  have D1 : Below w.heap.size w w1 := Below.trans (by go_grown) (hb1.mono (by simp))
  have N1 : Hid (Blk w1 w.heap.size 30 #[.int .i64 S, .slice A n c]) := bel_blk (Blk.new _ _ _) hb1
  obtain ⟨a0, a1, -⟩ := N1.out.c2
  clear hb1
  cases hv : validN S l
  · have E : Hid (clashR S l wa wb = (0, 1)) := by show _ = _; simp [clashR, hv]
    clear hv
    go_wp2_with fail
    refine bodyPost_ret (v := .tuple #[.int .i64 0, .int .i64 1]) (by simp [results, Try.results29, go_sem]) rfl ?_
    rw [E.out]
    exact ⟨rfl, D1⟩
  · have HV := Lib.hid hv
    clear hv
    go_wp2_with fail
    refine (isSimple_any S A n c l A1 n1 c1 wa _ (H.out.bel D1) HL.out hn0 (H1.out.bel D1) HL1.out hn1).mono ?_
    rintro e w2 ⟨rfl, hb2⟩
    have D2 := bel_next D1 hb2
    have N2 := hid_blk N1 hb2
    clear hb2 D1 N1 a0 a1
    obtain ⟨a0, a1, -⟩ := N2.out.c2
    cases hwa : simpW l wa
    · have E : Hid (clashR S l wa wb = (0, 2)) := by show _ = _; simp [clashR, HV.out, hwa]
      clear hwa
      go_wp2_with fail
      refine bodyPost_ret (v := .tuple #[.int .i64 0, .int .i64 2]) (by simp [results, Try.results29, go_sem]) rfl ?_
      rw [E.out]
      exact ⟨rfl, D2⟩
    · have HWA := Lib.hid hwa
      have OA : Hid (outB wa 0 ((l.length : Int) - 1) = false) := simpW_in0 hwa
      clear hwa
      go_wp2_with fail
      refine (isSimple_any S A n c l A2 n2 c2 wb _ (H.out.bel D2) HL.out hn0 (H2.out.bel D2) HL2.out hn2).mono ?_
      rintro e w3 ⟨rfl, hb3⟩
      have D3 := bel_next D2 hb3
      have N3 := hid_blk N2 hb3
      clear hb3 D2 N2 a0 a1
      obtain ⟨a0, a1, -⟩ := N3.out.c2
      cases hwb : simpW l wb
      · have E : Hid (clashR S l wa wb = (0, 2)) := by show _ = _; simp [clashR, HV.out, hwb]
        clear hwb
        go_wp2_with fail
        refine bodyPost_ret (v := .tuple #[.int .i64 0, .int .i64 2]) (by simp [results, Try.results29, go_sem]) rfl ?_
        rw [E.out]
        exact ⟨rfl, D3⟩
      · have HWB := Lib.hid hwb
        have OB : Hid (outB wb 0 ((l.length : Int) - 1) = false) := simpW_in0 hwb
        have E : Hid (clashR S l wa wb = (clashF l wa wb (-1), 0)) := by show _ = _; simp [clashR, HV.out, HWA.out, hwb]
        obtain ⟨v0, v1, -, -⟩ := validN_true HV.out
        obtain ⟨s, rfl⟩ : ∃ s : Nat, S = s := ⟨S.toNat, by omega⟩
        have hs10 : s ≤ 10 := by omega
        clear hwb
        go_wp2_with fail
        refine (clash_any s A n c l A1 n1 c1 wa A2 n2 c2 wb _ (H.out.bel D3) HL.out hs10 HV.out (H1.out.bel D3) HL1.out hn1 (H2.out.bel D3) HL2.out hn2 OA.out OB.out).mono ?_
        rintro e w4 ⟨rfl, hb4⟩
        go_wp2_with fail
        refine bodyPost_ret (v := .tuple #[.int .i64 (clashF l wa wb (-1)), .int .i64 0]) (by simp [results, Try.results29, go_sem]) rfl ?_
        rw [E.out]
        exact ⟨rfl, bel_next D3 hb4⟩

end Go.Proofs.Ythkfdpicacaphaa
