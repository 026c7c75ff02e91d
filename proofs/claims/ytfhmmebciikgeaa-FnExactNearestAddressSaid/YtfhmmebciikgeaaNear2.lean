/-
  CONTRACT: the address that is nearest to a word, the program's.
-/
import Derived.Test.YtfhmmebciikgeaaNear
namespace Go.Proofs.Ytfhmmebciikgeaa
open Go.RowKit

set_option maxHeartbeats 4000000 in
theorem implNear_any (g : Int) (A : Option Addr) (n c : Nat) (l : List ByteArray) (t : ByteArray) (w : World) (h : StrsAt w A l) (hl : n = l.length) (hs : SmallS l) (hc : n ≤ c := by omega) (hq : t.size ≤ 1048576 := by omega) :
    Calls Try.prog 29 #[.int .i64 g, .slice A n c, .string t] w (Ret w (.tuple #[.int .i64 (nearR g l t).1, .int .i64 (nearR g l t).2.1, .int .i64 (nearR g l t).2.2])) := by
  have hn0 : n ≤ 1048576 := by rw [hl]; exact hs.1
  have HL := Lib.hid hl
  have HS := Lib.hid hs
  have H := Lib.hid h
  clear hl hs h
  go_enter Try.func29, Try.ntmps29
  go_wp2_with fail
  refine (implValidA_any g A n c l _ H.out HL.out HS.out hc).mono ?_
  rintro e w1 ⟨rfl, hb1⟩
  cases hv : validA g l
  · have E : Hid (nearR g l t = (0, 0, 1)) := by show _ = _; simp [nearR, hv]
    clear hv
    go_wp2_with fail
    refine bodyPost_ret (v := .tuple #[.int .i64 0, .int .i64 0, .int .i64 1]) (by simp [results, Try.results29, go_sem]) rfl ?_
    rw [E.out]
    exact ⟨rfl, hb1⟩
  · obtain ⟨hg0, hg1, hl40, hev⟩ := validA_true hv
    rw [← HL.out] at hl40
    have HEV := Lib.hid hev
    clear hev
    cases hw : wordB g t
    · have E : Hid (nearR g l t = (0, 0, 2)) := by show _ = _; simp [nearR, hv, hw]
      clear hv
      go_wp2_with (first | (go_at_call 43; refine (isWord_any g t _ (by omega) hg0 hg1).mono ?_; rintro e w2 ⟨rfl, rfl⟩; rw [hw]))
      refine bodyPost_ret (v := .tuple #[.int .i64 0, .int .i64 0, .int .i64 2]) (by simp [results, Try.results29, go_sem]) rfl ?_
      rw [E.out]
      exact ⟨rfl, hb1⟩
    · rcases Nat.eq_zero_or_pos n with h0 | h0
      · have E : Hid (nearR g l t = (0, 0, 3)) := by show _ = _; unfold nearR; rw [if_pos hv, if_pos hw, if_pos (by rw [← HL.out]; exact h0)]
        subst h0
        clear hv
        go_wp2_with (first | (go_at_call 43; refine (isWord_any g t _ (by omega) hg0 hg1).mono ?_; rintro e w2 ⟨rfl, rfl⟩; rw [hw]))
        refine bodyPost_ret (v := .tuple #[.int .i64 0, .int .i64 0, .int .i64 3]) (by simp [results, Try.results29, go_sem]) rfl ?_
        rw [E.out]
        exact ⟨rfl, hb1⟩
      · have h0l : 0 < l.length := by rw [← HL.out]; exact h0
        have hnb : ((n : Int) == 0) = false := by rw [beq_eq_false_iff_ne]; omega
        obtain ⟨b, o, rfl, hblt, hc0⟩ := (H.out.bel hb1) h0l
        have HC := Lib.hid hc0
        have t00 := hc0 0 h0l
        rw [Nat.add_zero] at t00
        obtain ⟨z, hz⟩ : ∃ z, l[0] = z := ⟨_, rfl⟩
        rw [hz] at t00
        have hz0 : strAt l 0 = z := by rw [strAt_eq h0l, hz]
        have hz8 := (HEV.out 0 h0l).2.1
        rw [hz] at hz8
        clear hc0 hz
        by_cases hsz : t.size = z.size
        · have E : Hid (nearR g l t = if 1 < (nearF l t (n - 0) 0 0 0).2 then (0, 0, 9) else (((nearF l t (n - 0) 0 0 0).1 : Int), (farB (strAt l (nearF l t (n - 0) 0 0 0).1) t : Int), 0)) := by show _ = _; unfold nearR; rw [if_pos hv, if_pos hw, if_neg (by omega), if_pos (by rw [hz0]; exact hsz), HL.out]
          have HZ : Hid (∀ (k : Nat) (hk : k < l.length), l[k].size = t.size ∧ l[k].size ≤ 8) := by
            show ∀ k, _
            intro k hk
            have h3 := HEV.out k hk
            rw [hz0] at h3
            omega
          obtain ⟨r, hr⟩ : ∃ r, Hid (nearF l t (n - 0) 0 0 0 = r) := ⟨_, rfl⟩
          have E1 : Hid (nearR g l t = if 1 < r.2 then (0, 0, 9) else ((r.1 : Int), (farB (strAt l r.1) t : Int), 0)) := by show _ = _; rw [E.out, hr.out]
          clear hv hz0 HEV E
          go_wp2_with (first | (go_at_call 43; refine (isWord_any g t _ (by omega) hg0 hg1).mono ?_; rintro e w2 ⟨rfl, rfl⟩; rw [hw]))
          clear hsz
          go_loopw [9, 10, 11, 39] (fun u v s x w' => ∃ (i bi m : Nat) (y : Int), u = .int .i64 bi ∧ v = .int .i64 y ∧ s = .bool (decide (1 < m)) ∧ x = .int .i64 i ∧ i ≤ n ∧ bi < n ∧ m ≤ i ∧ -1 ≤ y ∧ y ≤ 8 ∧ (i = 0 → y = -1 ∧ bi = 0 ∧ m = 0) ∧ (0 < i → 0 < m ∧ y = (farB (strAt l bi) t : Int)) ∧ Hid (nearF l t (n - i) i bi m = r) ∧ Below w1.heap.size w1 w') (fun _ _ _ x _ => n - (intOf x).toNat)
          case atStart => exact ⟨0, 0, 0, -1, rfl, rfl, rfl, rfl, by omega, h0, by omega, by omega, by omega, fun _ => ⟨rfl, rfl, rfl⟩, fun h => absurd h (by omega), hr, Below.refl _ _⟩
          case round =>
            clear hr
            obtain ⟨i, bi, m, y, rfl, rfl, rfl, rfl, hin, hbn, hmi, hy0, hy1, hz, hp, HR, hbel⟩ := hrel
            have hbl : bi < l.length := by rw [← HL.out]; exact hbn
            by_cases hlt : i < n
            · have hil : i < l.length := by rw [← HL.out]; exact hlt
              have ti := bel_cell hbel (HC.out i hil)
              obtain ⟨si1, si2⟩ := HZ.out i hil
              have hst := nearF_step (l := l) (t := t) (b := bi) (m := m) hlt
              have hxi := strAt_eq hil
              rw [hxi] at hst
              obtain ⟨x, hx⟩ : ∃ x, l[i] = x := ⟨_, rfl⟩
              rw [hx] at ti si1 si2 hst hxi
              have hsx : x.size ≤ 1048576 := by omega
              have hf1 : farB x t ≤ x.size := farF_le _ _ _ _
              have HXI := Lib.hid hxi
              rcases Nat.eq_zero_or_pos i with hi0 | hi0
              · obtain ⟨rfl, rfl, rfl⟩ := hz hi0
                have HR2 : Hid (nearF l t (n - (i + 1)) (i + 1) 0 1 = r) := by
                  show _ = _
                  rw [← HR.out, hst]
                  subst hi0
                  rw [hxi, if_neg (by omega), if_pos rfl]
                subst hi0
                rw [Nat.add_zero] at ti
                clear hst hx hxi hz hp
                go_wp2_with (first
                  | (go_at_call 44; (with_reducible refine (distance_any x t _ hsx si1).mono ?_); rintro e w2 ⟨rfl, m1, rfl⟩))
                go_roundw
                case rel => exact ⟨1, 0, 1, farB x t, by go_num, rfl, by simp, by go_num, by omega, by omega, by omega, by omega, by omega, fun h => absurd h (by omega), fun _ => ⟨by omega, by rw [HXI.out]⟩, HR2, below_drewN hbel _⟩
                case measure => simp [intOf]; omega
              · obtain ⟨hm0, hye⟩ := hp hi0
                obtain ⟨f2, hf2⟩ : ∃ f2, farB (strAt l bi) t = f2 := ⟨_, rfl⟩
                rw [hf2] at hye hst
                have HF2 := Lib.hid hf2
                subst hye
                clear hx hxi hz hp hf2
                rcases Nat.lt_trichotomy (farB x t) f2 with hc1 | hc1 | hc1
                · have HR2 : Hid (nearF l t (n - (i + 1)) (i + 1) i 1 = r) := by show _ = _; rw [← HR.out, hst, if_pos hc1]
                  clear hst
                  go_wp2_with (first
                    | (go_at_call 44; (with_reducible refine (distance_any x t _ hsx si1).mono ?_); rintro e w2 ⟨rfl, m1, rfl⟩))
                  go_roundw
                  case rel => exact ⟨i + 1, i, 1, farB x t, by go_num, rfl, by simp, by go_num, by omega, by omega, by omega, by omega, by omega, fun h => absurd h (by omega), fun _ => ⟨by omega, by rw [HXI.out]⟩, HR2, below_drewN hbel _⟩
                  case measure => simp [intOf]; omega
                · have HR2 : Hid (nearF l t (n - (i + 1)) (i + 1) bi (m + 1) = r) := by show _ = _; rw [← HR.out, hst, if_neg (by omega), if_pos hc1]
                  clear hst
                  subst hc1
                  go_wp2_with (first
                    | (go_at_call 44; (with_reducible refine (distance_any x t _ hsx si1).mono ?_); rintro e w2 ⟨rfl, m1, rfl⟩))
                  go_roundw
                  case rel => exact ⟨i + 1, bi, m + 1, farB x t, by go_num, rfl, by simp; omega, by go_num, by omega, by omega, by omega, by omega, by omega, fun h => absurd h (by omega), fun _ => ⟨by omega, by rw [HF2.out]⟩, HR2, below_drewN hbel _⟩
                  case measure => simp [intOf]; omega
                · have HR2 : Hid (nearF l t (n - (i + 1)) (i + 1) bi m = r) := by show _ = _; rw [← HR.out, hst, if_neg (by omega), if_neg (by omega)]
                  have hfb : ((farB x t : Int) == (f2 : Int)) = false := by rw [beq_eq_false_iff_ne]; omega
                  clear hst
                  go_wp2_with (first
                    | (go_at_call 44; (with_reducible refine (distance_any x t _ hsx si1).mono ?_); rintro e w2 ⟨rfl, m1, rfl⟩))
                  go_roundw
                  case rel => exact ⟨i + 1, bi, m, f2, rfl, rfl, rfl, by go_num, by omega, by omega, by omega, by omega, by omega, fun h => absurd h (by omega), fun _ => ⟨by omega, by rw [HF2.out]⟩, HR2, below_drewN hbel _⟩
                  case measure => simp [intOf]; omega
            · obtain ⟨hm0, hye⟩ := hp (by omega)
              have hre : r = (bi, m) := by rw [← HR.out, nearF_end (by omega)]
              have E2 := E1.out
              rw [hre] at E2
              simp only at E2
              rw [← hye] at E2
              clear hz hp hye hre
              by_cases hm1 : 1 < m
              · have E3 : Hid (nearR g l t = (0, 0, 9)) := by show _ = _; rw [E2, if_pos hm1]
                clear E2
                go_wp2_with fail
                refine bodyPost_ret (v := .tuple #[.int .i64 0, .int .i64 0, .int .i64 9]) (by simp [results, Try.results29, go_sem]) rfl ?_
                rw [E3.out]
                exact ⟨rfl, bel_next hb1 hbel⟩
              · have E3 : Hid (nearR g l t = ((bi : Int), y, 0)) := by show _ = _; rw [E2, if_neg hm1]
                clear E2
                go_wp2_with fail
                refine bodyPost_ret (v := .tuple #[.int .i64 bi, .int .i64 y, .int .i64 0]) (by simp [results, Try.results29, go_sem]) rfl ?_
                rw [E3.out]
                exact ⟨rfl, bel_next hb1 hbel⟩
        · have E : Hid (nearR g l t = (0, 0, 8)) := by show _ = _; unfold nearR; rw [if_pos hv, if_pos hw, if_neg (by omega), if_neg (by rw [hz0]; exact hsz)]
          have hb : ((t.size : Int) == (z.size : Int)) = false := by rw [beq_eq_false_iff_ne]; omega
          clear hv hz0 HEV
          go_wp2_with (first | (go_at_call 43; refine (isWord_any g t _ (by omega) hg0 hg1).mono ?_; rintro e w2 ⟨rfl, rfl⟩; rw [hw]))
          refine bodyPost_ret (v := .tuple #[.int .i64 0, .int .i64 0, .int .i64 8]) (by simp [results, Try.results29, go_sem]) rfl ?_
          rw [E.out]
          exact ⟨rfl, hb1⟩


end Go.Proofs.Ytfhmmebciikgeaa
