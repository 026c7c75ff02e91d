/-
  CONTRACTS: the address that is nearest to a word.
-/
import Derived.Test.YtfhmmebciikgeaaAddrV
namespace Go.Proofs.Ytfhmmebciikgeaa
open Go.RowKit

/-- The best word so far, and how many are as near. -/
def nearF (l : List ByteArray) (t : ByteArray) : Nat → Nat → Nat → Nat → Nat × Nat
  | 0, _, b, m => (b, m)
  | k + 1, i, b, m => if farB (strAt l i) t < farB (strAt l b) t then nearF l t k (i + 1) i 1 else if farB (strAt l i) t = farB (strAt l b) t then nearF l t k (i + 1) b (m + 1) else nearF l t k (i + 1) b m
theorem nearF_step {l : List ByteArray} {t : ByteArray} {n i b m : Nat} (h : i < n) : nearF l t (n - i) i b m = if farB (strAt l i) t < farB (strAt l b) t then nearF l t (n - (i + 1)) (i + 1) i 1 else if farB (strAt l i) t = farB (strAt l b) t then nearF l t (n - (i + 1)) (i + 1) b (m + 1) else nearF l t (n - (i + 1)) (i + 1) b m := by
  rw [show n - i = (n - (i + 1)) + 1 by omega, nearF]
theorem nearF_end {l : List ByteArray} {t : ByteArray} {n i b m : Nat} (h : n ≤ i) : nearF l t (n - i) i b m = (b, m) := by
  rw [show n - i = 0 by omega, nearF]
def nearR (g : Int) (l : List ByteArray) (t : ByteArray) : Int × Int × Int :=
  if validA g l then (if wordB g t then (if l.length = 0 then (0, 0, 3) else (if t.size = (strAt l 0).size then
    (if 1 < (nearF l t (l.length - 0) 0 0 0).2 then (0, 0, 9) else (((nearF l t (l.length - 0) 0 0 0).1 : Int), (farB (strAt l (nearF l t (l.length - 0) 0 0 0).1) t : Int), 0)) else (0, 0, 8))) else (0, 0, 2)) else (0, 0, 1)

set_option maxHeartbeats 4000000 in
theorem specNear_any (g : Int) (A : Option Addr) (n c : Nat) (l : List ByteArray) (t : ByteArray) (w : World) (h : StrsAt w A l) (hl : n = l.length) (hs : SmallS l) (hq : t.size ≤ 1048576 := by omega) :
    Calls Try.prog 28 #[.int .i64 g, .slice A n c, .string t] w (Ret w (.tuple #[.int .i64 (nearR g l t).1, .int .i64 (nearR g l t).2.1, .int .i64 (nearR g l t).2.2])) := by
  have hn0 : n ≤ 1048576 := by rw [hl]; exact hs.1
  have HL := Lib.hid hl
  have HS := Lib.hid hs
  have H := Lib.hid h
  clear hl hs h
  go_enter Try.func28, Try.ntmps28
  go_wp2_with fail
  refine (l05Ok_any g A n c l _ H.out HL.out HS.out).mono ?_
  rintro e w1 ⟨rfl, hb1⟩
  cases hv : validA g l
  · have E : Hid (nearR g l t = (0, 0, 1)) := by show _ = _; simp [nearR, hv]
    clear hv
    go_wp2_with fail
    refine bodyPost_ret (v := .tuple #[.int .i64 0, .int .i64 0, .int .i64 1]) (by simp [results, Try.results28, go_sem]) rfl ?_
    rw [E.out]
    exact ⟨rfl, hb1⟩
  · obtain ⟨hg0, hg1, hl40, hev⟩ := validA_true hv
    rw [← HL.out] at hl40
    have HEV := Lib.hid hev
    clear hev
    cases hw : wordB g t
    · have E : Hid (nearR g l t = (0, 0, 2)) := by show _ = _; simp [nearR, hv, hw]
      clear hv
      go_wp2_with (first | (go_at_call 41; refine (l05Word_any g t _ (by omega) hg0 hg1).mono ?_; rintro e w2 ⟨rfl, rfl⟩; rw [hw]))
      refine bodyPost_ret (v := .tuple #[.int .i64 0, .int .i64 0, .int .i64 2]) (by simp [results, Try.results28, go_sem]) rfl ?_
      rw [E.out]
      exact ⟨rfl, hb1⟩
    · rcases Nat.eq_zero_or_pos n with h0 | h0
      · have E : Hid (nearR g l t = (0, 0, 3)) := by show _ = _; unfold nearR; rw [if_pos hv, if_pos hw, if_pos (by rw [← HL.out]; exact h0)]
        subst h0
        clear hv
        go_wp2_with (first | (go_at_call 41; refine (l05Word_any g t _ (by omega) hg0 hg1).mono ?_; rintro e w2 ⟨rfl, rfl⟩; rw [hw]))
        refine bodyPost_ret (v := .tuple #[.int .i64 0, .int .i64 0, .int .i64 3]) (by simp [results, Try.results28, go_sem]) rfl ?_
        rw [E.out]
        exact ⟨rfl, hb1⟩
      · have h0l : 0 < l.length := by rw [← HL.out]; exact h0
        have hnb : ((n : Int) == 0) = false := by rw [beq_eq_false_iff_ne]; omega
        obtain ⟨b, o, rfl, hblt, hc0⟩ := (H.out.bel hb1) h0l
        have HC := Lib.hid hc0
        have t00 := hc0 0 h0l
        rw [Nat.add_zero] at t00
        obtain ⟨z, hz⟩ : ∃ z, l[0] = z := ⟨_, rfl⟩
        rw [hz] at t00
        have hz0 : strAt l 0 = z := by rw [strAt_eq h0l, hz]
        have hz8 := (HEV.out 0 h0l).2.1
        rw [hz] at hz8
        clear hc0 hz
        by_cases hsz : t.size = z.size
        · have E : Hid (nearR g l t = if 1 < (nearF l t (n - 0) 0 0 0).2 then (0, 0, 9) else (((nearF l t (n - 0) 0 0 0).1 : Int), (farB (strAt l (nearF l t (n - 0) 0 0 0).1) t : Int), 0)) := by show _ = _; unfold nearR; rw [if_pos hv, if_pos hw, if_neg (by omega), if_pos (by rw [hz0]; exact hsz), HL.out]
          have HZ : Hid (∀ (k : Nat) (hk : k < l.length), l[k].size = t.size ∧ l[k].size ≤ 8) := by
            show ∀ k, _
            intro k hk
            have h3 := HEV.out k hk
            rw [hz0] at h3
            omega
          obtain ⟨r, hr⟩ : ∃ r, Hid (nearF l t (n - 0) 0 0 0 = r) := ⟨_, rfl⟩
          have E1 : Hid (nearR g l t = if 1 < r.2 then (0, 0, 9) else ((r.1 : Int), (farB (strAt l r.1) t : Int), 0)) := by show _ = _; rw [E.out, hr.out]
          clear hv hz0 HEV E
          go_wp2_with (first | (go_at_call 41; refine (l05Word_any g t _ (by omega) hg0 hg1).mono ?_; rintro e w2 ⟨rfl, rfl⟩; rw [hw]))
          clear hsz
          go_loopw [9, 10, 11] (fun u v x w' => ∃ (i bi m : Nat), u = .int .i64 bi ∧ v = .int .i64 m ∧ x = .int .i64 i ∧ i ≤ n ∧ bi < n ∧ m ≤ i ∧ Hid (nearF l t (n - i) i bi m = r) ∧ Below w1.heap.size w1 w') (fun _ _ x _ => n - (intOf x).toNat)
          case atStart => exact ⟨0, 0, 0, rfl, rfl, rfl, by omega, h0, by omega, hr, Below.refl _ _⟩
          case round =>
            clear hr
            obtain ⟨i, bi, m, rfl, rfl, rfl, hin, hbn, hmi, HR, hbel⟩ := hrel
            have hbl : bi < l.length := by rw [← HL.out]; exact hbn
            have tb := bel_cell hbel (HC.out bi hbl)
            obtain ⟨sb1, sb2⟩ := HZ.out bi hbl
            have hsb := strAt_eq hbl
            obtain ⟨y, hy⟩ : ∃ y, l[bi] = y := ⟨_, rfl⟩
            rw [hy] at tb sb1 sb2 hsb
            have hsy : y.size ≤ 1048576 := by omega
            have hf2 : farB y t ≤ y.size := farF_le _ _ _ _
            clear hy
            by_cases hlt : i < n
            · have hil : i < l.length := by rw [← HL.out]; exact hlt
              have ti := bel_cell hbel (HC.out i hil)
              obtain ⟨si1, si2⟩ := HZ.out i hil
              have hst := nearF_step (l := l) (t := t) (b := bi) (m := m) hlt
              rw [strAt_eq hil, hsb] at hst
              obtain ⟨x, hx⟩ : ∃ x, l[i] = x := ⟨_, rfl⟩
              rw [hx] at ti si1 si2 hst
              have hsx : x.size ≤ 1048576 := by omega
              have hf1 : farB x t ≤ x.size := farF_le _ _ _ _
              clear hx hsb
              rcases Nat.lt_trichotomy (farB x t) (farB y t) with hc1 | hc1 | hc1
              · have HR2 : Hid (nearF l t (n - (i + 1)) (i + 1) i 1 = r) := by show _ = _; rw [← HR.out, hst, if_pos hc1]
                clear hst
                go_wp2_with (first
                  | (go_at_call 42; (with_reducible refine (l05Far_any x t _ hsx si1).mono ?_); rintro e w2 ⟨rfl, m1, rfl⟩)
                  | (go_at_call 42; (with_reducible refine (l05Far_any y t _ hsy sb1).mono ?_); rintro e w3 ⟨rfl, m2, rfl⟩))
                go_roundw
                case rel => exact ⟨i + 1, i, 1, rfl, by go_num, by go_num, by omega, by omega, by omega, HR2, below_drewN hbel _⟩
                case measure => simp [intOf]; omega
              · have HR2 : Hid (nearF l t (n - (i + 1)) (i + 1) bi (m + 1) = r) := by show _ = _; rw [← HR.out, hst, if_neg (by omega), if_pos hc1]
                clear hst
                go_wp2_with (first
                  | (go_at_call 42; (with_reducible refine (l05Far_any x t _ hsx si1).mono ?_); rintro e w2 ⟨rfl, m1, rfl⟩)
                  | (go_at_call 42; (with_reducible refine (l05Far_any y t _ hsy sb1).mono ?_); rintro e w3 ⟨rfl, m2, rfl⟩))
                go_roundw
                case rel => exact ⟨i + 1, bi, m + 1, rfl, by go_num, by go_num, by omega, by omega, by omega, HR2, below_drewN hbel _⟩
                case measure => simp [intOf]; omega
              · have HR2 : Hid (nearF l t (n - (i + 1)) (i + 1) bi m = r) := by show _ = _; rw [← HR.out, hst, if_neg (by omega), if_neg (by omega)]
                clear hst
                go_wp2_with (first
                  | (go_at_call 42; (with_reducible refine (l05Far_any x t _ hsx si1).mono ?_); rintro e w2 ⟨rfl, m1, rfl⟩)
                  | (go_at_call 42; (with_reducible refine (l05Far_any y t _ hsy sb1).mono ?_); rintro e w3 ⟨rfl, m2, rfl⟩))
                go_roundw
                case rel => exact ⟨i + 1, bi, m, rfl, rfl, by go_num, by omega, by omega, by omega, HR2, below_drewN hbel _⟩
                case measure => simp [intOf]; omega
            · have hre : r = (bi, m) := by rw [← HR.out, nearF_end (by omega)]
              have E2 := E1.out
              rw [hre] at E2
              simp only at E2
              rw [hsb] at E2
              by_cases hm1 : 1 < m
              · have E3 : Hid (nearR g l t = (0, 0, 9)) := by show _ = _; rw [E2, if_pos hm1]
                clear E2 hre hsb
                go_wp2_with fail
                refine bodyPost_ret (v := .tuple #[.int .i64 0, .int .i64 0, .int .i64 9]) (by simp [results, Try.results28, go_sem]) rfl ?_
                rw [E3.out]
                exact ⟨rfl, bel_next hb1 hbel⟩
              · have E3 : Hid (nearR g l t = ((bi : Int), (farB y t : Int), 0)) := by show _ = _; rw [E2, if_neg hm1]
                clear E2 hre hsb
                go_wp2_with (first
                  | (go_at_call 42; (with_reducible refine (l05Far_any y t _ hsy sb1).mono ?_); rintro e w3 ⟨rfl, m2, rfl⟩))
                refine bodyPost_ret (v := .tuple #[.int .i64 bi, .int .i64 (farB y t), .int .i64 0]) (by simp [results, Try.results28, go_sem]) rfl ?_
                rw [E3.out]
                exact ⟨rfl, below_drewN (bel_next hb1 hbel) _⟩
        · have E : Hid (nearR g l t = (0, 0, 8)) := by show _ = _; unfold nearR; rw [if_pos hv, if_pos hw, if_neg (by omega), if_neg (by rw [hz0]; exact hsz)]
          have hb : ((t.size : Int) == (z.size : Int)) = false := by rw [beq_eq_false_iff_ne]; omega
          clear hv hz0 HEV
          go_wp2_with (first | (go_at_call 41; refine (l05Word_any g t _ (by omega) hg0 hg1).mono ?_; rintro e w2 ⟨rfl, rfl⟩; rw [hw]))
          refine bodyPost_ret (v := .tuple #[.int .i64 0, .int .i64 0, .int .i64 8]) (by simp [results, Try.results28, go_sem]) rfl ?_
          rw [E.out]
          exact ⟨rfl, hb1⟩


end Go.Proofs.Ytfhmmebciikgeaa
