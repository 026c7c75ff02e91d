/-
  CONTRACT: the pressures with which all rides are fast enough, the specification's way.
-/
import Derived.Test.YtlebkjkiikehhaaBestM
namespace Go.Proofs.Ytlebkjkiikehhaa
open Go.RowKit

theorem presL_take {l : List Rd} {i : Nat} (h : i < l.length) : presL (l.take i) ++ [l[i].2.2.1] = presL (l.take (i + 1)) := by
  have e : l.take (i + 1) = l.take i ++ [l[i]] := by rw [List.take_add_one, List.getElem?_eq_getElem h]; rfl
  unfold presL
  rw [e, List.map_append]
  rfl
theorem presL_all {l : List Rd} {i : Nat} (h : l.length ≤ i) : presL (l.take i) = presL l := by rw [List.take_of_length_le h]
theorem presL_len {l : List Rd} {i : Nat} (h : i ≤ l.length) : (presL (l.take i)).length = i := by simp [presL]; omega
theorem vr_parts {l : List Rd} (h : l.all vr4 = true) {i : Nat} (hi : i < l.length) {L W P B : Int} (he : l[i] = (L, W, P, B)) : VR L W P B := by
  have := all_at h hi
  rw [he] at this
  exact vr_true this

set_option maxHeartbeats 8000000 in
set_option maxRecDepth 100000 in
theorem specBest_any (b n c : Nat) (l : List Rd) (t : Int) (w : World) (h : RidesAt w (some ⟨b, 0, none⟩) l) (hl : n = l.length) (hn0 : n ≤ 1048576) :
    Calls Try.prog 39 #[.slice (some ⟨b, 0, none⟩) n c, .int .i64 t] w (MadeIC w 2 (bpR l t).1 (bpR l t).2) := by
  have HC := Lib.hid (fun W h' => l03List_any (some ⟨b, 0, none⟩) n c l W h' hl hn0)
  cases hv : validL l
  · have E := Lib.hid (show bpR l t = ([], 1) by simp [bpR, hv])
    clear hl
    go_enter Try.func39, Try.ntmps39
    go_wp2_with (go_at_call 64; refine (HC.out _ h).mono ?_; rintro e w' ⟨rfl, rfl⟩)
    refine bodyPost_ret (v := .tuple #[.slice none 0 0, .int .i64 1]) (by simp [results, Try.results39, go_sem]) rfl ?_
    rw [E.out]
    exact ⟨none, 0, rfl, own_none _ _ _, Below.refl _ _⟩
  cases ht : inB t 0 1000000
  · have E := Lib.hid (show bpR l t = ([], 2) by simp [bpR, hv, ht])
    clear hl
    go_enter Try.func39, Try.ntmps39
    go_wp2_with (first
      | (go_at_call 64; refine (HC.out _ h).mono ?_; rintro e w' ⟨rfl, rfl⟩)
      | (go_at_call 65; refine (l00In_any _ _ _ _).mono ?_; rintro e w' ⟨rfl, rfl⟩))
    refine bodyPost_ret (v := .tuple #[.slice none 0 0, .int .i64 2]) (by simp [results, Try.results39, go_sem]) rfl ?_
    rw [E.out]
    exact ⟨none, 0, rfl, own_none _ _ _, Below.refl _ _⟩
  have E0 : bpR l t = bpO (bpF (muP (l.map oneP) + 1) (l.map oneP) t) := by simp [bpR, hv, ht]
  have htb := inB_true ht
  obtain ⟨R, hR⟩ : ∃ R, bpF (muP (l.map oneP) + 1) (l.map oneP) t = R := ⟨_, rfl⟩
  rw [hR] at E0
  rw [E0]
  obtain ⟨h8, hall⟩ := validL_true hv
  have HA1 := Lib.hid (all_one hall)
  have HA := Lib.hid hall
  have HR := Lib.hid hR
  have HL := Lib.hid hl
  have H := Lib.hid h
  have hn8 : n ≤ 8 := by rw [hl]; exact h8
  obtain ⟨i0, hi, hz0, hz1, hz2⟩ := info_parts info_ride4
  have HI := Lib.hid (And.intro hi (And.intro hz0 (And.intro hz1 hz2)))
  obtain ⟨j0, ji, jz0, jz1, jz2⟩ := info_parts info_int64M
  have HJ := Lib.hid (And.intro ji (And.intro jz0 (And.intro jz1 jz2)))
  have hcs : ∀ j u, (cells4 l)[j]? = some u → (w.alloc (.cells #[] 101)).cell? ((⟨b, 0, none⟩ : Addr).add j) = some u := by
    intro j u hu
    obtain ⟨k, hk, -⟩ := cells4_get l j u hu
    obtain ⟨b', o, e, -, hc⟩ := (h.alloc (.cells #[] 101)) (by omega)
    injection e with e
    injection e with e1 e2
    subst e1 e2
    exact rides_cells hc j u hu
  have HC2 := Lib.hid hcs
  have HM : Hid ((cells4 l).length = n * 4) := by show _ = _; rw [cells4_len, hl]
  have H1 := Lib.hid (cells4_one l)
  obtain ⟨ns, hns⟩ : ∃ ns, ns = cells4 l := ⟨_, rfl⟩
  rw [← hns] at HC2 HM H1
  have HNS := Lib.hid hns
  clear hl h hall hR E0 hi hz0 hz1 hz2 ji jz0 jz1 jz2 hcs hns h8
  go_enter Try.func39, Try.ntmps39
  go_wp2_with (first
    | (go_at_call 64; refine (HC.out _ H.out).mono ?_; rintro e w' ⟨rfl, rfl⟩)
    | (go_at_call 65; refine (l00In_any _ _ _ _).mono ?_; rintro e w' ⟨rfl, rfl⟩)
    | (at_builtin; refine wpList_append_own _ rfl _ _ 70 rfl w.heap.size 101 i0 (.agg #[.int .i64 0, .int .i64 0, .int .i64 0, .int .i64 0]) 4 32 Try.underlying70 HI.out.1 HI.out.2.1 HI.out.2.2.1 HI.out.2.2.2 rfl (by decide) _ _ [] rfl (own_nil4 _ _ _ rfl (Nat.le_refl _)) ⟨b, 0, none⟩ n c ns rfl HM.out HC2.out H1.out ?d3 ?d4 ?d5 ?_))
  try case d3 => unfold maxLen; omega
  try case d4 => omega
  try case d5 => first | (simp; done) | (simp; omega) | omega
  intro v' w4 hown1 hgrow _
  have hown2 : w4.ownsRow w.heap.size 101 4 v' n (cells4 l) := by
    have h5 := hown1
    rw [HNS.out] at h5
    simpa using h5
  obtain ⟨A4, c4, rfl⟩ := own_formR hown2
  have D4 : Below w.heap.size w w4 := Below.grown (by go_grown) hgrow (by simp) (fun k hk => by simp [Value.ownBlock] at hk; omega)
  have HRW : Hid (RowR w.heap.size w4 A4 (mixP l 0)) := by rw [mixP_zero]; exact RowR.of hown2 HL.out
  clear hown1 hown2 hgrow HC2 H1 HM HNS hv ht
  have HS0 : Hid ((0 : Int) + sumT ((l.drop 0).map oneP) = sumT (l.map oneP)) := by show _ = _; simp
  go_wp2_with fail
  go_loopw [7, 8] (fun u v w' => ∃ (i : Nat) (s : Int), u = .int .i64 s ∧ v = .int .i64 i ∧ i ≤ n ∧ 0 ≤ s ∧ s ≤ 20001 * (i : Int) ∧ Hid (s + sumT ((l.drop i).map oneP) = sumT (l.map oneP)) ∧ Hid (RowR w.heap.size w' A4 (mixP l i)) ∧ Below w.heap.size w w') (fun _ v _ => n - (intOf v).toNat)
  case atStart => exact ⟨0, 0, rfl, rfl, by omega, by omega, by omega, HS0, HRW, D4⟩
  case round =>
    clear HRW HS0 D4
    obtain ⟨i, s, rfl, rfl, hin, s0, s1, HS, HRW, hbel⟩ := hrel
    by_cases hlt : i < n
    · have hil : i < l.length := by rw [← HL.out]; exact hlt
      have him : i < (mixP l i).length := by rw [mixP_len]; exact hil
      obtain ⟨g, rfl, hg, hgl, h4, hf⟩ := HRW.out.one him
      rw [mixP_at hil] at h4
      have HR2 := HRW.out.set him 1
      rw [mixP_next hil] at HR2
      have HRX := Lib.hid HR2
      have hR4 := HR2.rides
      have e1 := mixP_at1 hil
      have hv1 := vr4_one (all_at HA.out hil)
      have hbd := vr4_bd hv1
      have hride : At4 (wr.setCell ⟨g, i * 4 + 2, none⟩ (.int .i64 1)) g (i * 4) (oneP l[i]) := by
        obtain ⟨g', hA, -, -, h5, -⟩ := HR2.one (k := i) (by rw [mixP_len]; exact hil)
        injection hA with hA
        injection hA with hA _
        subst hA
        rw [e1] at h5
        exact h5
      have HS2 : Hid (s + tk4 (oneP l[i]) + sumT ((l.drop (i + 1)).map oneP) = sumT (l.map oneP)) := by show _ = _; rw [← HS.out, drop_at hil, List.map_cons, sumT]; omega
      have HX := Lib.hid hride
      have HV := Lib.hid (vr_true (show vr (oneP l[i]).1 (oneP l[i]).2.1 (oneP l[i]).2.2.1 (oneP l[i]).2.2.2 = true from hv1))
      have D5 : Below w.heap.size w (wr.setCell ⟨g, i * 4 + 2, none⟩ (.int .i64 1)) := hbel.setCell (by simp; omega) _
      obtain ⟨c0, c1, c2, c3⟩ := h4
      have E5 : tk (oneP l[i]).1 (drag (oneP l[i]).2.1 (oneP l[i]).2.2.2) (100 * (oneP l[i]).2.2.1) = tk4 (oneP l[i]) := rfl
      obtain ⟨r, hr⟩ : ∃ r, oneP l[i] = r := ⟨_, rfl⟩
      rw [hr] at HX HV hbd HS2 E5
      have E5 := Lib.hid E5
      clear HR2 hR4 e1 hv1 hride hr HRW HS c0 c1 c3 him
      go_wp2_with fail
      obtain ⟨w1, hw1⟩ : ∃ w1, wr.setCell ⟨g, i * 4 + 2, none⟩ (.int .i64 1) = w1 := ⟨_, rfl⟩
      rw [hw1] at HX HRX D5 ⊢
      refine (l03Ticks_any g (i * 4) _ _ _ _ _ HX.out.ride HV.out).mono ?_
      rintro e w2 ⟨rfl, m, rfl⟩
      rw [E5.out]
      go_wp2_with fail
      go_roundw
      case rel => exact ⟨i + 1, s + tk4 r, by go_num, by go_num, by omega, by omega, by omega, HS2, HRX.out.bel (below_drewN (Below.refl _ _) _), below_drewN D5 _⟩
      case measure => simp [intOf]; omega
    · have hie : i = n := by omega
      subst hie
      have hsum : s = sumT (l.map oneP) := by have h5 := HS.out; rw [List.drop_of_length_le (by rw [← HL.out]; exact Nat.le_refl _)] at h5; simpa [sumT] using h5
      have HR2 := HRW.out
      rw [mixP_all (by rw [← HL.out]; exact Nat.le_refl _)] at HR2
      have hlen : (l.map oneP).length = i := by rw [List.length_map, HL.out]
      obtain ⟨l1, hl1⟩ : ∃ l1, l.map oneP = l1 := ⟨_, rfl⟩
      rw [hl1] at HR2 hlen hsum HA1 HR
      have HRW2 := Lib.hid HR2
      have HLN := Lib.hid hlen
      subst hsum
      clear HR2 hlen HS HRW hl1
      go_wp2_with fail
      go_loopw [7] (fun u w' => ∃ (l' : List Rd) (k : Nat), u = .int .i64 (sumT l') ∧ Hid (l'.length = i) ∧ Hid (l'.all vr4 = true) ∧ Hid (muP l' < k) ∧ Hid (bpF k l' t = R) ∧ Hid (RowR w.heap.size w' A4 l') ∧ Below w.heap.size w w') (fun _ w' => muW w' A4 i)
      case atStart => exact ⟨l1, muP l1 + 1, rfl, HLN, HA1, Nat.lt_succ_self _, HR, HRW2, hbel⟩
      case round =>
        clear HRW2 HLN HA1 HR hbel s0 s1 hin hlt
        obtain ⟨l', k, rfl, HLN, HAL, HK, HB, HRW, hbel⟩ := hrel
        have hsb := sumT_bd l' HAL.out
        rw [HLN.out] at hsb
        by_cases hst : sumT l' ≤ t
        · have E : Hid (R = some (presL l')) := by show _ = _; rw [← HB.out, bpF_done HK.out hst]
          have hpl : (presL l').length = i := by simp [presL, HLN.out]
          have HPL := Lib.hid hpl
          clear HB HK hpl
          obtain ⟨wo, rfl⟩ : ∃ wo : World, wo = wr := ⟨_, rfl⟩
          go_wp2_with fail
          go_loopw [14, 15] (fun v u w' => ∃ (j : Nat), u = .int .i64 j ∧ j ≤ i ∧ Hid (w'.ownsRow wo.heap.size 2 1 v j ((presL (l'.take j)).map (Value.int .i64))) ∧ Below wo.heap.size wo w') (fun _ u _ => i - (intOf u).toNat)
          case atStart => exact ⟨0, rfl, by omega, own_nil' _ _ _ rfl (Nat.le_refl _), by go_grown⟩
          case round =>
            obtain ⟨j, rfl, hji, HO, hbel2⟩ := hrel
            have hbelo := hbel
            have hbel := bel_next hbel hbel2
            have HRW := Lib.hid (HRW.out.bel hbel2)
            by_cases hjl : j < i
            · have hj' : j < l'.length := by rw [HLN.out]; exact hjl
              obtain ⟨g, rfl, hg, hgl, h4, hf⟩ := HRW.out.one hj'
              obtain ⟨c0, c1, c2, c3⟩ := h4
              have hx := presL_take hj'
              obtain ⟨p, hp⟩ : ∃ p, l'[j].2.2.1 = p := ⟨_, rfl⟩
              rw [hp] at c2 hx
              have HX := Lib.hid hx
              have hsz := hbel2.size
              obtain ⟨A6, c6, rfl⟩ := own_form HO.out
              clear hp hx c0 c1 c3 hf
              go_wp2_with (at_builtin; refine wpList_append_own _ rfl _ _ 39 rfl wo.heap.size 2 j0 (.int .i64 0) 1 8 Try.underlying39 HJ.out.1 HJ.out.2.1 HJ.out.2.2.1 HJ.out.2.2.2 rfl (by decide) _ _ _ rfl (HO.out.alloc _) ⟨wr.heap.size, 0, none⟩ 1 1 [.int .i64 p] rfl rfl ?c1 ?c2 ?c3 ?c4 ?c5 ?_)
              try
                case c1 =>
                  intro j u hu
                  cases j with
                  | zero => simp at hu; subst hu; simp [Addr.add]
                  | succ j => simp at hu
              try case c2 => first | exact ints_oneCell .i64 [p] | rfl
              try case c3 => unfold maxLen; omega
              try case c4 => omega
              try case c5 => first | (simp; omega) | omega
              intro v' w1 hown1 hgrow _
              have HO2 : Hid (w1.ownsRow wo.heap.size 2 1 v' (j + 1) ((presL (l'.take (j + 1))).map (Value.int .i64))) := by
                show World.ownsRow _ _ _ _ _ _ _
                rw [← HX.out, List.map_append]
                exact hown1
              have hb2 : Below wo.heap.size wo w1 := Below.grown (by go_grown) hgrow (by simp; omega) (fun k hk => (HO.out.lt k hk).1)
              clear hown1 hgrow HO HRW
              go_wp2_with fail
              go_roundw
              case rel => exact ⟨j + 1, by go_num, by omega, HO2, hb2⟩
              case measure => simp [intOf]; omega
            · have hie : j = i := by omega
              subst hie
              have hta : presL (l'.take j) = presL l' := presL_all (by rw [HLN.out]; exact Nat.le_refl _)
              have HO3 := HO.out
              rw [hta] at HO3
              have HOX := Lib.hid HO3
              obtain ⟨A6, c6, rfl⟩ := own_form HO3
              have wsz := hbelo.size
              clear HO3 hta HO HRW
              go_wp2_with fail
              refine bodyPost_ret (v := .tuple #[.slice A6 j c6, .int .i64 0]) (by simp [results, Try.results39, go_sem]) rfl ?_
              rw [E.out]
              refine ⟨A6, c6, ?_, ?_, hbel⟩
              · show _ = Ending.returned (.tuple #[.slice A6 (presL l').length c6, .int .i64 0])
                rw [HPL.out]
              · show World.ownsRow _ _ _ _ (.slice A6 (presL l').length c6) (presL l').length ((presL l').map (Value.int .i64))
                rw [HPL.out]
                exact own_base HOX.out wsz
        · have HST : Hid (t < sumT l') := Int.not_le.1 hst
          obtain ⟨⟨B0, S0⟩, hbs⟩ : ∃ x, bestF l' 0 (-1) (-1) = x := ⟨_, rfl⟩
          have HBS := Lib.hid hbs
          have hgd := bestF_good l' l'.length 0 (-1) (-1) (by omega) (.inl rfl)
          rw [List.drop_zero, hbs] at hgd
          have HGD := Lib.hid hgd
          have HFS : Hid (bestF (l'.drop 0) 0 (-1) (-1) = (B0, S0)) := hbs
          have hst2 : t < sumT l' := by omega
          clear hbs hgd hst
          have HRWo := HRW
          obtain ⟨wo, rfl⟩ : ∃ wo : World, wo = wr := ⟨_, rfl⟩
          go_wp2_with fail
          go_loopw [9, 10, 11] (fun u v x w' => ∃ (j : Nat) (b s : Int), u = .int .i64 b ∧ v = .int .i64 s ∧ x = .int .i64 j ∧ j ≤ i ∧ -1 ≤ b ∧ b ≤ 100 ∧ -20001 ≤ s ∧ s ≤ 20001 ∧ Hid (bestF (l'.drop j) j b s = (B0, S0)) ∧ Hid (RowR w.heap.size w' A4 l') ∧ Below w.heap.size w w') (fun _ _ x _ => i - (intOf x).toNat)
          case atStart => exact ⟨0, -1, -1, rfl, rfl, rfl, by omega, by omega, by omega, by omega, by omega, HFS, HRW, hbel⟩
          case round =>
            clear HRW hbel HFS
            obtain ⟨j, b1, s1, rfl, rfl, rfl, hji, b0, b2, s0, s2, HF, HRW, hbel⟩ := hrel
            by_cases hjl : j < i
            · have hj' : j < l'.length := by rw [HLN.out]; exact hjl
              obtain ⟨g, rfl, hg, hgl, h4, hf⟩ := HRW.out.one hj'
              have hbu := HF.out
              have hval := all_at HAL.out hj'
              have hfull := bestF_full (b := b1) (s := s1) hj'
              have htake := bestF_take (b := b1) (s := s1) hj'
              have hleave := bestF_leave (b := b1) (s := s1) hj'
              have hgb := fun hp => gain_bd hval hp
              have hvu := fun hp => vr4_up hval hp
              have hgn : gainP l'[j] = tk4 l'[j] - tk4 (upP l'[j]) := rfl
              obtain ⟨⟨L, W, P, B⟩, hr⟩ : ∃ r, l'[j] = r := ⟨_, rfl⟩
              rw [hr] at h4 hval hfull htake hleave hgb hvu hgn
              rw [show upP (L, W, P, B) = (L, W, P + 1, B) from rfl] at hvu hgn
              simp only at hfull htake hleave hgb hvu
              obtain ⟨c0, c1, c2, c3⟩ := h4
              simp only at c0 c1 c2 c3
              have HV := Lib.hid (vr_true (show vr L W P B = true from hval))
              have hV := HV.out
              have p0 := hV.p0
              have p1 := hV.p1
              by_cases hp : P = 100
              · have HF2 : Hid (bestF (l'.drop (j + 1)) (j + 1) b1 s1 = (B0, S0)) := by show _ = _; rw [← hfull hp]; exact hbu
                subst hp
                clear hfull htake hleave hgb hvu hgn hbu HF hval hr hV
                go_wp2_with fail
                go_roundw
                case rel => exact ⟨j + 1, b1, s1, rfl, rfl, by go_num, by omega, by omega, by omega, by omega, by omega, HF2, HRW, hbel⟩
                case measure => simp [intOf]; omega
              · have hpb : (P == 100) = false := by simpa using hp
                have hpb2 : (P != 100) = true := by simpa using hp
                have HVU := Lib.hid (vr_true (show vr L W (P + 1) B = true from hvu hp))
                have hgb := hgb hp
                have HT := Lib.hid (htake hp)
                have HLV := Lib.hid (hleave hp)
                have hx1 : tk L (drag W B) (100 * P) = tk4 (L, W, P, B) := rfl
                have hx2 : tk L (drag W B) (100 * (P + 1)) = tk4 (L, W, P + 1, B) := rfl
                have hy1 := vr4_bd hval
                have hy2 := vr4_bd (hvu hp)
                obtain ⟨T1, hT1⟩ : ∃ x, tk4 (L, W, P, B) = x := ⟨_, rfl⟩
                obtain ⟨T2, hT2⟩ : ∃ x, tk4 (L, W, P + 1, B) = x := ⟨_, rfl⟩
                obtain ⟨G, hG⟩ : ∃ x, gainP (L, W, P, B) = x := ⟨_, rfl⟩
                rw [hT1] at hx1 hy1 hgn
                rw [hT2] at hx2 hy2 hgn
                rw [hG] at hgn hgb HT HLV
                have X1 := Lib.hid hx1
                have X2 := Lib.hid hx2
                have HBU := Lib.hid hbu
                subst hgn
                clear hx1 hx2 hT1 hT2 hG hfull htake hleave hvu hbu HF hval hr hV hp
                go_wp2_with fail
                have YB : Blk (wr.alloc (.cells #[.int .i64 L, .int .i64 W, .int .i64 (P + 1), .int .i64 B] 101)) wr.heap.size 101 #[.int .i64 L, .int .i64 W, .int .i64 (P + 1), .int .i64 B] := Blk.new wr _ _
                have DW : Below wr.heap.size wr (wr.alloc (.cells #[.int .i64 L, .int .i64 W, .int .i64 (P + 1), .int .i64 B] 101)) := by go_grown
                obtain ⟨wy, hwy⟩ : ∃ wy, wr.heap.size = wy := ⟨_, rfl⟩
                obtain ⟨w1, hw1⟩ : ∃ w1, (wr.alloc (.cells #[.int .i64 L, .int .i64 W, .int .i64 (P + 1), .int .i64 B] 101)) = w1 := ⟨_, rfl⟩
                rw [hw1] at YB DW ⊢
                have HRW5 := Lib.hid (HRW.out.bel DW)
                have D5 := bel_next hbel DW
                have RA : RideAt w1 g (j * 4) L W P B := ⟨bel_cell DW c0, bel_cell DW c1, bel_cell DW c2, bel_cell DW c3⟩
                have HRA := Lib.hid RA
                rw [hwy] at YB ⊢
                have HYB := Lib.hid YB
                clear RA YB DW hw1 hwy c0 c1 c2 c3 HRW hbel hf
                refine (l03Ticks_any g (j * 4) L W P B _ HRA.out HV.out).mono ?_
                rintro e w5 ⟨rfl, m, rfl⟩
                rw [X1.out]
                have RY : RideAt (w1.drewN m) wy 0 L W (P + 1) B := ⟨(HYB.out.drewN m).cell 0, (HYB.out.drewN m).cell 1, (HYB.out.drewN m).cell 2, (HYB.out.drewN m).cell 3⟩
                have HRY := Lib.hid RY
                clear RY
                go_wp2_with fail
                refine (l03Ticks_any wy 0 L W (P + 1) B _ HRY.out HVU.out).mono ?_
                rintro e w6 ⟨rfl, m2, rfl⟩
                rw [X2.out]
                have D6 := below_drewN D5 (m + m2)
                have HRW6 : Hid (RowR w.heap.size (w1.drewN (m + m2)) (some ⟨g, 0, none⟩) l') := HRW5.out.bel (below_drewN (Below.refl _ _) (m + m2))
                clear D5 HRW5
                by_cases hcmp : s1 < T1 - T2
                · have HF2 : Hid (bestF (l'.drop (j + 1)) (j + 1) (j : Int) (T1 - T2) = (B0, S0)) := by show _ = _; rw [← HT.out hcmp]; exact HBU.out
                  clear HT HLV HBU
                  go_wp2_with fail
                  go_roundw
                  case rel => exact ⟨j + 1, (j : Int), T1 - T2, by go_num, by go_num, by go_num, by omega, by omega, by omega, by omega, by omega, HF2, HRW6, D6⟩
                  case measure => simp [intOf]; omega
                · have HF2 : Hid (bestF (l'.drop (j + 1)) (j + 1) b1 s1 = (B0, S0)) := by show _ = _; rw [← HLV.out (Int.not_lt.1 hcmp)]; exact HBU.out
                  clear HT HLV HBU
                  go_wp2_with fail
                  go_roundw
                  case rel => exact ⟨j + 1, b1, s1, rfl, rfl, by go_num, by omega, by omega, by omega, by omega, by omega, HF2, HRW6, D6⟩
                  case measure => simp [intOf]; omega
            · have hend := HF.out
              rw [bestF_end (by rw [HLN.out]; omega)] at hend
              injection hend with hB hS
              subst hB hS
              have hgd := HGD.out
              clear HF HGD
              by_cases hb0 : b1 < 0
              · have E : Hid (R = none) := by show _ = _; rw [← HB.out]; exact bpF_none HK.out (Int.not_le.2 HST.out) HBS.out hb0
                clear hgd HB HBS HK
                go_wp2_with fail
                refine bodyPost_ret (v := .tuple #[.slice none 0 0, .int .i64 3]) (by simp [results, Try.results39, go_sem]) rfl ?_
                rw [E.out]
                exact ⟨none, 0, rfl, own_none _ _ _, hbel⟩
              · rcases hgd with hgd | ⟨q, hql, rfl, hqp, rfl⟩
                · omega
                · have hqi : q < i := by rw [← HLN.out]; exact hql
                  obtain ⟨g, rfl, hg, hgl, h4, hf⟩ := HRW.out.one hql
                  have HR2 := HRW.out.set hql (l'[q].2.2.1 + 1)
                  rw [upAt_set hql] at HR2
                  have HB2 : Hid (bpF (k - 1) (upAt l' q) t = R) := by show _ = _; rw [← HB.out, bpF_next HK.out (Int.not_le.2 HST.out) HBS.out]
                  have hmu := muP_up hql HAL.out hqp
                  have HK2 : Hid (muP (upAt l' q) < k - 1) := by show _ < _; have := HK.out; omega
                  have HL2 : Hid ((upAt l' q).length = i) := by show _ = _; rw [upAt_len, HLN.out]
                  have HA2 : Hid ((upAt l' q).all vr4 = true) := all_up hql HAL.out hqp
                  have hsu := sumT_up hql
                  have V := vr_true (show vr l'[q].1 l'[q].2.1 l'[q].2.2.1 l'[q].2.2.2 = true from all_at HAL.out hql)
                  have hp1 := V.p1
                  have hp0 := V.p0
                  have hgb := gain_bd (all_at HAL.out hql) hqp
                  have HM1 : Hid (muW wo (some ⟨g, 0, none⟩) i = muP l') := muW_eq HRWo.out HLN.out
                  have HMU := Lib.hid hmu
                  obtain ⟨c0, c1, c2, c3⟩ := h4
                  obtain ⟨G, hG⟩ : ∃ x, gainP l'[q] = x := ⟨_, rfl⟩
                  obtain ⟨P, hP⟩ : ∃ x, l'[q].2.2.1 = x := ⟨_, rfl⟩
                  rw [hP] at HR2 c2 hp1 hp0
                  rw [hG] at hsu hgb ⊢
                  have HRX := Lib.hid HR2
                  have HSU := Lib.hid hsu
                  clear HR2 hsu V hmu hqp hG hP c0 c1 c3 HB HBS HK HRW hb0
                  go_wp2_with fail
                  go_roundw
                  case rel => exact ⟨upAt l' q, k - 1, by rw [HSU.out], HL2, HA2, HK2, HB2, HRX, hbel.setCell (by simp; omega) _⟩
                  case measure => rw [muW_eq HRX.out HL2.out, HM1.out]; have := HMU.out; omega

end Go.Proofs.Ytlebkjkiikehhaa
