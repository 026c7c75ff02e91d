/-
  CONTRACTS: the place without which the least distance is least (printed by tools/gen_worst.py).
-/
import Derived.Test.YtfhmmebciikgeaaWorstP
import Derived.Deep.RegionLaw
namespace Go.Proofs.Ytfhmmebciikgeaa
open Go.RowKit

/-- The call returns the least distance without a place. -/
def RetW (w : World) (l : List ByteArray) (p : Nat) (e : Ending) (w' : World) : Prop := e = .returned (.int .i64 (leastW p l)) ∧ Below w.heap.size w w' ∧ -1 ≤ leastW p l ∧ leastW p l ≤ 8
theorem info_stringW : (Try.prog.info? 9).map (fun i => (i.zero, i.size, i.bytes)) = some (some (.string ByteArray.empty), 1, 16) := by kernel_rfl
theorem own_belW {w w' : World} {base n size : Nat} {t : TypeId} {v : Value} {xs : List Value} (h : w.ownsRow base t size v n xs) (hb : Below w.heap.size w w') : w'.ownsRow base t size v n xs := by
  refine ⟨h.1, ?_⟩
  rcases h.2 with hn | ⟨g, cap, cur, hv, hg, hB, rest⟩
  · exact .inl hn
  · exact .inr ⟨g, cap, cur, hv, hg, bel_blk (t := t) hB hb, rest⟩
theorem StrsAt.ofOwnW {w : World} {base : Nat} {e : TypeId} {A : Option Addr} {n c : Nat} {l : List ByteArray} (h : w.ownsRow base e 1 (.slice A n c) n (l.map Value.string)) : StrsAt w A l ∧ l.length = n := by
  have hl : l.length = n := by simpa using h.1
  refine ⟨fun h0 => ?_, hl⟩
  obtain ⟨g, cap, hv, _, hlt⟩ := h.form (by omega)
  have hA : A = some ⟨g, 0, none⟩ := by injection hv
  subst hA
  refine ⟨g, 0, rfl, hlt, fun k hk => ?_⟩
  have := h.cells (g := g) rfl k (.string l[k]) (by simp [hk])
  simpa [Addr.add_lit] using this

set_option maxHeartbeats 4000000 in
theorem leastDistanceW_any (A : Option Addr) (n c : Nat) (l : List ByteArray) (w : World) (h : StrsAt w A l) (hl : n = l.length) (hn0 : n ≤ 1048576) (hv : Even l) (hcap : n ≤ c) (p : Nat) (hp : p < (strAt l 0).size) :
    Calls Try.prog 55 #[.slice A n c, .int .i64 p] w (RetW w l p) := by
  have H := Lib.hid h
  have HL := Lib.hid hl
  have HV := Lib.hid hv
  have HP := Lib.hid hp
  have E : Hid (allF (farW p) l (n - 0) 0 (-1) = leastW p l) := by show _ = _; rw [hl]; rfl
  clear h hl hv hp
  go_enter Try.func55, Try.ntmps55
  go_wp2_with fail
  go_loopw [5, 13] (fun v u w' => ∃ (x : Int) (i : Nat), v = .int .i64 x ∧ u = .int .i64 i ∧ i ≤ n ∧ -1 ≤ x ∧ x ≤ 8 ∧ Hid (allF (farW p) l (n - i) i x = leastW p l) ∧ Below w.heap.size w w') (fun _ u _ => n - (intOf u).toNat)
  case atStart => exact ⟨-1, 0, rfl, rfl, by omega, by omega, by omega, E, Below.refl _ _⟩
  case round =>
    clear E
    obtain ⟨x, i, rfl, rfl, hin, hx0, hx1, HE, hbel⟩ := hrel
    by_cases hlt : i < n
    · have HE1 : Hid (allF (farW p) l (n - (i + 1)) (i + 1) (rowF (farW p) l i (i - 0) 0 x) = leastW p l) := by show _ = _; rw [← HE.out, allF_step hlt]
      clear HE
      obtain ⟨wp, rfl⟩ : ∃ wp : World, wp = wr := ⟨_, rfl⟩
      obtain ⟨y, hy⟩ : ∃ y, rowF (farW p) l i (i - 0) 0 x = y := ⟨_, rfl⟩
      have HY : Hid (rowF (farW p) l i (i - 0) 0 x = y) := hy
      rw [hy] at HE1
      obtain ⟨b, o, rfl, hblt, hc⟩ := (H.out.bel hbel) (by rw [← HL.out]; omega)
      have hil : i < l.length := by rw [← HL.out]; exact hlt
      have t0 := hc i hil
      obtain ⟨p1, p2⟩ := HV.out i hil
      obtain ⟨s, hs⟩ : ∃ s, l[i] = s := ⟨_, rfl⟩
      rw [hs] at t0 p1 p2
      have HSI := Lib.hid hs
      have HC := Lib.hid hc
      have hs48 : s.size ≤ 1048576 := by omega
      clear hy hc hs
      go_wp2_with fail
      go_loopw [5, 22] (fun v u w' => ∃ (x : Int) (k : Nat), v = .int .i64 x ∧ u = .int .i64 k ∧ k ≤ i ∧ -1 ≤ x ∧ x ≤ 8 ∧ Hid (rowF (farW p) l i (i - k) k x = y) ∧ Below wp.heap.size wp w') (fun _ u _ => i - (intOf u).toNat)
      case atStart => exact ⟨x, 0, rfl, rfl, by omega, hx0, hx1, HY, Below.refl _ _⟩
      case round =>
        clear hx0 hx1 HY
        obtain ⟨x, k, rfl, rfl, hki, hx0, hx1, HY, hbel2⟩ := hrel
        by_cases hkl : k < i
        · have hkk : k < l.length := by omega
          have t1 := bel_cell hbel2 (HC.out k hkk)
          have hst := rowF_step (d := (farW p)) (l := l) hkl x
          rw [strAt_eq hil, strAt_eq hkk, HSI.out] at hst
          obtain ⟨q1, q2⟩ := HV.out k hkk
          have hf8 := farB_le s l[k]
          obtain ⟨t, ht⟩ : ∃ t, l[k] = t := ⟨_, rfl⟩
          rw [ht] at t1 hst q1 q2 hf8
          have hsz : s.size = t.size := by omega
          have hps : p < s.size := by rw [p2]; exact HP.out
          have hpt : p < t.size := by omega
          have hfb : farB s t ≤ 8 := by omega
          have hcs := chN_eq hps
          have hct := chN_eq hpt
          by_cases hch : s[p].toNat = t[p].toNat
          · have hF : farW p s t = (farB s t : Int) := by unfold farW; rw [if_pos (by rw [hcs, hct, hch])]; omega
            rw [hF] at hst
            have HST : Hid (rowF (farW p) l i (i - (k + 1)) (k + 1) (minF x (farB s t : Int)) = y) := by show _ = _; rw [← hst]; exact HY.out
            have hb : ((s[p].toNat : Int) == (t[p].toNat : Int)) = true := by rw [beq_iff_eq]; omega
            have hbn : ((s[p].toNat : Int) != (t[p].toNat : Int)) = false := by rw [bne, hb]; rfl
            clear ht hst hF q2 q1 p2 hf8 HY hcs hct
            go_wp2_with fail
            refine (distance_any s t _ hs48 hsz).mono ?_
            rintro e w2 ⟨rfl, m, rfl⟩
            go_wp2_with fail
            go_quiet (fail)
            generalize farB s t = f at *
            by_cases hmn : x < 0 ∨ (f : Int) < x
            · have HY2 : Hid (rowF (farW p) l i (i - (k + 1)) (k + 1) (f : Int) = y) := by show _ = _; rw [← HST.out, minF, if_pos hmn]
              clear HST
              rcases (show x < 0 ∨ (0 ≤ x ∧ (f : Int) < x) by omega) with h1 | ⟨h1, h2⟩
              all_goals
                clear hmn
                go_wp2_with fail
                go_roundw
                case rel => exact ⟨f, k + 1, rfl, by go_num, by omega, by omega, by omega, HY2, below_drewN hbel2 _⟩
                case measure => simp [intOf]; omega
            · have HY2 : Hid (rowF (farW p) l i (i - (k + 1)) (k + 1) x = y) := by show _ = _; rw [← HST.out, minF, if_neg hmn]
              clear HST
              have h1 : 0 ≤ x := by omega
              have h2 : x ≤ (f : Int) := by omega
              clear hmn
              go_wp2_with fail
              go_roundw
              case rel => exact ⟨x, k + 1, rfl, by go_num, by omega, by omega, by omega, HY2, below_drewN hbel2 _⟩
              case measure => simp [intOf]; omega
          · have hF : farW p s t = (farB s t : Int) - 1 := by unfold farW; rw [if_neg (by rw [hcs, hct]; exact hch)]
            rw [hF] at hst
            have HST : Hid (rowF (farW p) l i (i - (k + 1)) (k + 1) (minF x ((farB s t : Int) - 1)) = y) := by show _ = _; rw [← hst]; exact HY.out
            have hb : ((s[p].toNat : Int) == (t[p].toNat : Int)) = false := by rw [beq_eq_false_iff_ne]; omega
            have hbn : ((s[p].toNat : Int) != (t[p].toNat : Int)) = true := by rw [bne, hb]; rfl
            clear hch ht hst hF q2 q1 p2 hf8 HY hcs hct
            go_wp2_with fail
            refine (distance_any s t _ hs48 hsz).mono ?_
            rintro e w2 ⟨rfl, m, rfl⟩
            go_wp2_with fail
            go_quiet (fail)
            generalize farB s t = f at *
            by_cases hmn : x < 0 ∨ (f : Int) - 1 < x
            · have HY2 : Hid (rowF (farW p) l i (i - (k + 1)) (k + 1) ((f : Int) - 1) = y) := by show _ = _; rw [← HST.out, minF, if_pos hmn]
              clear HST
              rcases (show x < 0 ∨ (0 ≤ x ∧ (f : Int) - 1 < x) by omega) with h1 | ⟨h1, h2⟩
              all_goals
                clear hmn
                go_wp2_with fail
                go_roundw
                case rel => exact ⟨(f : Int) - 1, k + 1, rfl, by go_num, by omega, by omega, by omega, HY2, below_drewN hbel2 _⟩
                case measure => simp [intOf]; omega
            · have HY2 : Hid (rowF (farW p) l i (i - (k + 1)) (k + 1) x = y) := by show _ = _; rw [← HST.out, minF, if_neg hmn]
              clear HST
              have h1 : 0 ≤ x := by omega
              have h2 : x ≤ (f : Int) - 1 := by omega
              clear hmn
              go_wp2_with fail
              go_roundw
              case rel => exact ⟨x, k + 1, rfl, by go_num, by omega, by omega, by omega, HY2, below_drewN hbel2 _⟩
              case measure => simp [intOf]; omega
        · have hxy : x = y := by
            have h1 := HY.out
            rw [show i - k = 0 by omega, rowF] at h1
            exact h1
          subst hxy
          go_wp2_with fail
          go_roundw
          case rel => exact ⟨x, i + 1, rfl, by go_num, by omega, hx0, hx1, HE1, bel_next hbel hbel2⟩
          case measure => simp [intOf]; omega
    · have HF : Hid (leastW p l = x) := by show _ = _; rw [← HE.out, show n - i = 0 by omega, allF]
      go_wp2_with fail
      go_ret
      unfold RetW
      rw [HF.out]
      exact ⟨rfl, hbel, hx0, hx1⟩

set_option maxHeartbeats 1000000 in
theorem implWorst_any (g : Int) (A : Option Addr) (n c : Nat) (l : List ByteArray) (w : World) (h : StrsAt w A l) (hl : n = l.length) (hs : SmallS l) (hc : n ≤ c := by omega) :
    Calls Try.prog 33 #[.int .i64 g, .slice A n c] w (Ret w (.tuple #[.int .i64 (worstR g l).1, .int .i64 (worstR g l).2])) := by
  have hn0 : n ≤ 1048576 := by rw [hl]; exact hs.1
  have HL := Lib.hid hl
  have HS := Lib.hid hs
  have H := Lib.hid h
  clear hl hs h
  go_enter Try.func33, Try.ntmps33
  go_wp2_with fail
  refine (pairsCode_any g A n c l _ H.out HL.out HS.out hc).mono ?_
  rintro e w1 ⟨rfl, hb1⟩
  cases hv : validA g l
  · have E : Hid (worstR g l = (0, 1)) := by show _ = _; simp [worstR, hv]
    have hp : pairsC g l = 1 := by simp [pairsC, hv]
    rw [hp]
    clear hv hp
    go_wp2_with fail
    refine bodyPost_ret (v := .tuple #[.int .i64 0, .int .i64 1]) (by simp [results, Try.results33, go_sem]) rfl ?_
    rw [E.out]
    exact ⟨rfl, hb1⟩
  · by_cases h2 : n < 2
    · have E : Hid (worstR g l = (0, 3)) := by show _ = _; unfold worstR; rw [if_pos hv, if_pos (by rw [← HL.out]; exact h2)]
      have hp : pairsC g l = 3 := by unfold pairsC; rw [if_pos hv, if_pos (by rw [← HL.out]; exact h2)]
      rw [hp]
      clear hv hp
      go_wp2_with fail
      refine bodyPost_ret (v := .tuple #[.int .i64 0, .int .i64 3]) (by simp [results, Try.results33, go_sem]) rfl ?_
      rw [E.out]
      exact ⟨rfl, hb1⟩
    · have E : Hid (worstR g l = ((worst l : Int), 0)) := by show _ = _; unfold worstR; rw [if_pos hv, if_neg (by rw [← HL.out]; exact h2)]
      have hp : pairsC g l = 0 := by unfold pairsC; rw [if_pos hv, if_neg (by rw [← HL.out]; exact h2)]
      rw [hp]
      have HV := Lib.hid (even_of hv)
      have h0l : 0 < l.length := by rw [← HL.out]; omega
      obtain ⟨z1, z8, -⟩ := (validA_true hv).2.2.2 0 h0l
      obtain ⟨b, o, rfl, hblt, hcc⟩ := (H.out.bel hb1) h0l
      have t0 : w1.cell? ⟨b, o, none⟩ = some (.string l[0]) := by have := hcc 0 h0l; rwa [Nat.add_zero] at this
      have HX : Hid (wrF (fun p => leastW p l) (l[0].size - 0) 0 0 = worst l) := by show _ = _; unfold worst; rw [strAt_eq h0l]; rfl
      have HZ : Hid ((strAt l 0).size = l[0].size) := by show _ = _; rw [strAt_eq h0l]
      obtain ⟨s, hs⟩ : ∃ s, l[0] = s := ⟨_, rfl⟩
      rw [hs] at t0 HX z1 z8 HZ
      obtain ⟨wo, hwo⟩ : ∃ wo, worst l = wo := ⟨_, rfl⟩
      rw [hwo] at E HX
      have hcap := hc
      clear hp hv hcc hs hwo
      go_wp2_with fail
      go_loopw [7, 19] (fun v u w' => ∃ (b r : Nat), v = .int .i64 b ∧ u = .int .i64 r ∧ r ≤ s.size ∧ b < s.size ∧ Hid (wrF (fun p => leastW p l) (s.size - r) r b = wo) ∧ Below w.heap.size w w') (fun _ u _ => s.size - (intOf u).toNat)
      case atStart => exact ⟨0, 0, rfl, rfl, by omega, by omega, HX, hb1⟩
      case round =>
        clear HX t0 hb1
        obtain ⟨b', r, rfl, rfl, hr, hb', HX, hbel⟩ := hrel
        by_cases hlt : r < s.size
        · have hst := wrF_step (W := fun p => leastW p l) (b := b') hlt
          go_wp2_with fail
          refine (leastDistanceW_any _ n c l _ (H.out.bel hbel) HL.out hn0 HV.out hcap r (by rw [HZ.out]; exact hlt)).mono ?_
          rintro e w2 ⟨rfl, hb2, hx0, hx1⟩
          have hbel2 := bel_next hbel hb2
          clear hb2
          go_wp2_with fail
          refine (leastDistanceW_any _ n c l _ (H.out.bel hbel2) HL.out hn0 HV.out hcap b' (by rw [HZ.out]; exact hb')).mono ?_
          rintro e w3 ⟨rfl, hb3, hy0, hy1⟩
          have hbel3 := bel_next hbel2 hb3
          obtain ⟨X, hX⟩ : ∃ X, leastW r l = X := ⟨_, rfl⟩
          obtain ⟨Y, hY⟩ : ∃ Y, leastW b' l = Y := ⟨_, rfl⟩
          rw [hX, hY] at hst
          rw [hX, hY]
          have HST := Lib.hid hst
          clear hb3 hX hY hst hx0 hx1 hy0 hy1
          by_cases hxy : X < Y
          · have HX2 : Hid (wrF (fun p => leastW p l) (s.size - (r + 1)) (r + 1) r = wo) := by show _ = _; rw [← HX.out, HST.out, if_pos hxy]
            clear HX HST
            go_wp2_with fail
            go_roundw
            case rel => exact ⟨r, r + 1, rfl, by go_num, by omega, hlt, HX2, hbel3⟩
            case measure => simp [intOf]; omega
          · have HX2 : Hid (wrF (fun p => leastW p l) (s.size - (r + 1)) (r + 1) b' = wo) := by show _ = _; rw [← HX.out, HST.out, if_neg hxy]
            clear HX HST
            go_wp2_with fail
            go_roundw
            case rel => exact ⟨b', r + 1, rfl, by go_num, by omega, hb', HX2, hbel3⟩
            case measure => simp [intOf]; omega
        · have hE : Hid (wo = b') := by show _ = _; rw [← HX.out, show s.size - r = 0 by omega, wrF]
          go_wp2_with fail
          refine bodyPost_ret (v := .tuple #[.int .i64 b', .int .i64 0]) (by simp [results, Try.results33, go_sem]) rfl ?_
          rw [E.out, hE.out]
          exact ⟨rfl, hbel⟩

set_option maxHeartbeats 2000000 in
set_option maxRecDepth 100000 in
theorem specWorst_any (g : Int) (A : Option Addr) (n c : Nat) (l : List ByteArray) (w : World) (h : StrsAt w A l) (hl : n = l.length) (hs : SmallS l) :
    Calls Try.prog 32 #[.int .i64 g, .slice A n c] w (Ret w (.tuple #[.int .i64 (worstR g l).1, .int .i64 (worstR g l).2])) := by
  obtain ⟨i0, hi, hq0, hq1, hq2⟩ := info_parts info_stringW
  have HI := Lib.hid (And.intro hi (And.intro hq0 (And.intro hq1 hq2)))
  have hn0 : n ≤ 1048576 := by rw [hl]; exact hs.1
  have HL := Lib.hid hl
  have HS := Lib.hid hs
  have H := Lib.hid h
  clear hl hs h hi hq0 hq1 hq2
  go_enter Try.func32, Try.ntmps32
  go_wp2_with fail
  refine (l05Ok_any g A n c l _ H.out HL.out HS.out).mono ?_
  rintro e w1 ⟨rfl, hb1⟩
  cases hv : validA g l
  · have E : Hid (worstR g l = (0, 1)) := by show _ = _; simp [worstR, hv]
    clear hv
    go_wp2_with fail
    refine bodyPost_ret (v := .tuple #[.int .i64 0, .int .i64 1]) (by simp [results, Try.results32, go_sem]) rfl ?_
    rw [E.out]
    exact ⟨rfl, hb1⟩
  · by_cases h2 : n < 2
    · have E : Hid (worstR g l = (0, 3)) := by show _ = _; unfold worstR; rw [if_pos hv, if_pos (by rw [← HL.out]; exact h2)]
      clear hv
      go_wp2_with fail
      refine bodyPost_ret (v := .tuple #[.int .i64 0, .int .i64 3]) (by simp [results, Try.results32, go_sem]) rfl ?_
      rw [E.out]
      exact ⟨rfl, hb1⟩
    · have E : Hid (worstR g l = ((worst l : Int), 0)) := by show _ = _; unfold worstR; rw [if_pos hv, if_neg (by rw [← HL.out]; exact h2)]
      have HV := Lib.hid (even_of hv)
      have h0l : 0 < l.length := by rw [← HL.out]; omega
      obtain ⟨z1, z8, -⟩ := (validA_true hv).2.2.2 0 h0l
      obtain ⟨b, o, rfl, hblt, hcc⟩ := (H.out.bel hb1) h0l
      have T0 : Hid (w1.cell? ⟨b, o, none⟩ = some (.string l[0])) := by have := hcc 0 h0l; rw [Nat.add_zero] at this; exact this
      have HC := Lib.hid hcc
      have HX : Hid (wrF (fun p => leastW p l) (l[0].size - 0) 0 0 = worst l) := by show _ = _; unfold worst; rw [strAt_eq h0l]; rfl
      have HZ : Hid ((strAt l 0).size = l[0].size) := by show _ = _; rw [strAt_eq h0l]
      obtain ⟨s0, hs⟩ : ∃ s, l[0] = s := ⟨_, rfl⟩
      rw [hs] at T0 HX z1 z8 HZ
      obtain ⟨wo, hwo⟩ : ∃ wo, worst l = wo := ⟨_, rfl⟩
      rw [hwo] at E HX
      have hl40 : n ≤ 40 := by rw [HL.out]; exact (validA_true hv).2.2.1
      clear hv hcc hs hwo
      go_wp2_with fail
      go_loopw [6, 7, 8] (fun v x u w' => ∃ (b' r : Nat) (y : Int), v = .int .i64 b' ∧ x = .int .i64 y ∧ u = .int .i64 r ∧ r ≤ s0.size ∧ b' < s0.size ∧ Hid (0 < r → y = leastW b' l) ∧ Hid (r = 0 → y = 9 ∧ b' = 0) ∧ Hid (wrF (fun p => leastW p l) (s0.size - r) r b' = wo) ∧ Below w1.heap.size w1 w') (fun _ _ u _ => s0.size - (intOf u).toNat)
      case atStart => exact ⟨0, 0, 9, rfl, rfl, rfl, by omega, by omega, fun h => absurd h (by omega), fun _ => ⟨rfl, rfl⟩, HX, Below.refl _ _⟩
      case round =>
        clear HX
        obtain ⟨b', r, y, rfl, rfl, rfl, hr, hb', HY0, HY1, HX, hbel⟩ := hrel
        have t0 := bel_cell hbel T0.out
        by_cases hlt : r < s0.size
        · have HST := Lib.hid (wrF_step (W := fun p => leastW p l) (b := b') hlt)
          have hrz : r < (strAt l 0).size := by rw [HZ.out]; exact hlt
          have HEC := Lib.hid (even_cut HV.out hrz h0l)
          have HLC := Lib.hid (leastA_cut HV.out hrz)
          have HRZ : Hid (∀ (k : Nat) (h : k < l.length), r < l[k].size) := by
            show ∀ k, _
            intro k hk
            rw [(HV.out k hk).2]
            exact hrz
          obtain ⟨wp, rfl⟩ : ∃ wp : World, wp = wr := ⟨_, rfl⟩
          have hws := hbel.size
          have HSS : Hid (([] : List ByteArray) ++ (l.drop 0).map (cutS r) = l.map (cutS r)) := rfl
          have HYL : Hid ((l.map (cutS r)).length = n) := by show _ = _; rw [List.length_map, HL.out]
          obtain ⟨Y, hY⟩ : ∃ Y, l.map (cutS r) = Y := ⟨_, rfl⟩
          rw [hY] at HEC HLC HSS HYL
          clear hY hrz
          go_wp2_with fail
          go_loopw [9, 10] (fun v u w' => ∃ (i : Nat) (ys : List ByteArray), u = .int .i64 i ∧ i ≤ n ∧ ys.length = i ∧ w'.ownsRow wp.heap.size 9 1 v ys.length (ys.map Value.string) ∧ Hid (ys ++ (l.drop i).map (cutS r) = Y) ∧ Below wp.heap.size wp w') (fun _ u _ => n - (intOf u).toNat)
          case atStart => exact ⟨0, [], rfl, by omega, rfl, own_nil' _ _ _ rfl (Nat.le_refl _), HSS, by go_grown⟩
          case round =>
            clear HSS t0
            obtain ⟨i, ys, rfl, hin, hyl, hown, HSS, hbel2⟩ := hrel
            have hbelw := bel_next hbel hbel2
            by_cases hil : i < n
            · have hil2 : i < l.length := by rw [← HL.out]; exact hil
              have c0 := bel_cell hbelw (HC.out i hil2)
              have hrs := HRZ.out i hil2
              have hsz8 := (HV.out i hil2).1
              have hst : (l.drop i).map (cutS r) = cutS r l[i] :: (l.drop (i + 1)).map (cutS r) := by rw [drop_at' hil2, List.map_cons]
              obtain ⟨s, hs⟩ : ∃ s, l[i] = s := ⟨_, rfl⟩
              rw [hs] at c0 hst hrs hsz8
              have HSS2 : Hid ((ys ++ [cutS r s]) ++ (l.drop (i + 1)).map (cutS r) = Y) := by show _ = _; rw [List.append_assoc, List.singleton_append, ← hst]; exact HSS.out
              have HO := Lib.hid hown
              have HYI := Lib.hid hyl
              have hyn : ys.length ≤ 40 := by omega
              have hbw : b < wr.heap.size := cell_lt c0
              have hsw := hbel2.size
              have hww := hbelw.size
              have hr0 : r ≤ s.size := by omega
              have hr1 : r + 1 ≤ s.size := by omega
              have hcc : ¬ 9223372036854775807 < r + (s.size - (r + 1)) := by omega
              have hr2 : (0 : Int) ≤ (r : Int) + 1 := by omega
              have hr3 : (r : Int) + 1 ≤ (s.size : Int) := by omega
              have hw1 : IntKind.i64.wrap ((r : Int) + 1) = (r : Int) + 1 := by rw [IntKind.wrap_i64]; omega
              clear hst hs HSS hown hyl
              go_wp2_with fail
              go_region_law (refine step_append_lies _ (by rfl) (.tmp 34) (.tmp 49) 25 (by rfl) wp.heap.size 9 i0 (.string ByteArray.empty) 1 16 Try.underlying25 HI.out.1 HI.out.2.1 HI.out.2.2.1 HI.out.2.2.2 rfl (by decide) _ _ _ (by rfl) (own_belW HO.out (by go_grown)) ⟨wr.heap.size, 0, none⟩ 1 1 [.string (cutS r s)] (by rfl) rfl (by intro j u hu; cases j with | zero => simp at hu; subst hu; simp [Addr.add, cutS] | succ j => simp at hu) (by intro u hu; simp at hu; subst hu; rfl) (by decide) (by unfold maxLen; omega) (by omega) (by simp; omega) _ rfl ?_; intro g4 cap4 w4 hown1 hgrow hat4 hlt4)
              all_goals
                have hown2 : w4.ownsRow wp.heap.size 9 1 (.slice (some ⟨g4, 0, none⟩) (ys.length + 1) cap4) (ys ++ [cutS r s]).length ((ys ++ [cutS r s]).map Value.string) := by simpa using hown1
                have HO4 := Lib.hid hown2
                have hb4 : Below wp.heap.size wp w4 := Below.grown (bel_next hbel2 (by go_grown)) hgrow (by simp; omega) (fun k hk => by have := (HO.out.lt k hk).1; omega)
                have hyl4 : (ys ++ [cutS r s]).length = i + 1 := by rw [List.length_append, List.length_singleton, HYI.out]
                have HYL4 := Lib.hid hyl4
                clear hown1 hown2 hgrow hat4 hlt4 hyl4 hcc hr0 hr1 hr2 hr3 hw1
                simp [Act.put]
                go_wp2_with fail
                go_roundw
                case rel => exact ⟨i + 1, ys ++ [cutS r s], by go_num, by omega, HYL4.out, HO4.out, HSS2, hb4⟩
                case measure => simp [intOf]; omega
            · have hE : ys = Y := by
                have h5 := HSS.out
                rw [List.drop_of_length_le (by rw [← HL.out]; omega), List.map_nil, List.append_nil] at h5
                exact h5
              subst hE
              obtain ⟨A2, c2, rfl⟩ := own_form hown
              have HR := Lib.hid (StrsAt.ofOwnW hown).1
              clear hown hyl
              go_wp2_with fail
              refine (l05Least_any A2 ys.length c2 ys _ HR.out rfl (by rw [HYL.out]; omega) HEC.out).mono ?_
              rintro e w5 ⟨rfl, hb5, hx0, hx1⟩
              rw [HLC.out] at hx0 hx1 ⊢
              have hbel5 := bel_next hbelw hb5
              have hst := HST.out
              obtain ⟨X, hX⟩ : ∃ X, leastW r l = X := ⟨_, rfl⟩
              have HXX := Lib.hid hX
              rw [hX] at hst hx0 hx1
              rw [hX]
              have HST2 := Lib.hid hst
              clear hb5 hX HST HR hst
              rcases Nat.eq_zero_or_pos r with hr0 | hr0
              · obtain ⟨hy9, hb0⟩ := HY1.out hr0
                have HX2 : Hid (wrF (fun p => leastW p l) (s0.size - (r + 1)) (r + 1) r = wo) := by
                  show _ = _
                  rw [← HX.out, HST2.out]
                  congr 1
                  split <;> omega
                have hlt9 : X < y := by omega
                clear HX HST2 hy9 hb0 hr0
                go_wp2_with fail
                go_roundw
                case rel => exact ⟨r, r + 1, X, rfl, rfl, by go_num, by omega, hlt, fun _ => HXX.out.symm, fun h => absurd h (by omega), HX2, hbel5⟩
                case measure => simp [intOf]; omega
              · have hyy := HY0.out hr0
                rw [← hyy] at HST2
                by_cases hxy : X < y
                · have HX2 : Hid (wrF (fun p => leastW p l) (s0.size - (r + 1)) (r + 1) r = wo) := by show _ = _; rw [← HX.out, HST2.out, if_pos hxy]
                  clear HX HST2 hyy
                  go_wp2_with fail
                  go_roundw
                  case rel => exact ⟨r, r + 1, X, rfl, rfl, by go_num, by omega, hlt, fun _ => HXX.out.symm, fun h => absurd h (by omega), HX2, hbel5⟩
                  case measure => simp [intOf]; omega
                · have HX2 : Hid (wrF (fun p => leastW p l) (s0.size - (r + 1)) (r + 1) b' = wo) := by show _ = _; rw [← HX.out, HST2.out, if_neg hxy]
                  have HYY := Lib.hid hyy
                  clear HX HST2 hyy
                  go_wp2_with fail
                  go_roundw
                  case rel => exact ⟨b', r + 1, y, rfl, rfl, by go_num, by omega, hb', fun _ => HYY.out, fun h => absurd h (by omega), HX2, hbel5⟩
                  case measure => simp [intOf]; omega
        · have hE : Hid (wo = b') := by show _ = _; rw [← HX.out, show s0.size - r = 0 by omega, wrF]
          go_wp2_with fail
          refine bodyPost_ret (v := .tuple #[.int .i64 b', .int .i64 0]) (by simp [results, Try.results32, go_sem]) rfl ?_
          rw [E.out, hE.out]
          exact ⟨rfl, bel_next hb1 hbel⟩

end Go.Proofs.Ytfhmmebciikgeaa
