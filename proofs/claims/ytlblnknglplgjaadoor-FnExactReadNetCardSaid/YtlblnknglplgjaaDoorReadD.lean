/-
  CONTRACTS: the number with a decimal form (printed by tools/gen_readd.py).
-/
import Derived.Test.YtlblnknglplgjaaDoorReadP
import Derived.Test.YtlblnknglplgjaaDoorShelfR
import Derived.Lib.ConvBytes
import Derived.Stop.LaidErr
namespace Go.Proofs.YtlblnknglplgjaaDoor
open Go.RowKit

def pickN (l : List UInt8) : Option Nat → Option Int
  | some m => if Lib.itoa (sgn l m) = l then some (sgn l m) else none
  | none => none
theorem beqD_no {a b : ByteArray} (h : ¬ a = b) : (a.toList == b.toList) = false := by
  rw [beq_eq_false_iff_ne]
  intro e
  apply h
  rw [ByteArray.toList_eq, ByteArray.toList_eq] at e
  exact ByteArray.ext (Array.toList_inj.1 e)
theorem digV {b : UInt8} (h : 48 ≤ b.toNat ∧ b.toNat ≤ 57) : Lib.digitVal b = some (b.toNat - 48) := by
  unfold Lib.digitVal
  exact if_pos h
theorem digN {b : UInt8} (h : ¬ (48 ≤ b.toNat ∧ b.toNat ≤ 57)) : Lib.digitVal b = none := by
  unfold Lib.digitVal
  exact if_neg h
theorem dig_yes (b : Nat) (w : World) (h : 48 ≤ b ∧ b ≤ 57) : Calls Tryd.prog 60 #[.int .u8 b] w (Ret0 w (.bool true)) := by
  obtain ⟨h1, h2⟩ := h
  go_enter Tryd.func60, Tryd.ntmps60
  go_wp2_with fail
  go_ret
  exact ⟨ret_bool (by simp; omega), rfl⟩
theorem dig_no (b : Nat) (w : World) (h : ¬ (48 ≤ b ∧ b ≤ 57)) : Calls Tryd.prog 60 #[.int .u8 b] w (Ret0 w (.bool false)) := by
  rcases (show b < 48 ∨ (48 ≤ b ∧ 57 < b) by omega) with h1 | ⟨h1, h2⟩
  · clear h
    go_enter Tryd.func60, Tryd.ntmps60
    go_wp2_with fail
    go_ret
    exact ⟨rfl, rfl⟩
  · clear h
    go_enter Tryd.func60, Tryd.ntmps60
    go_wp2_with fail
    go_ret
    exact ⟨ret_bool (by simp; omega), rfl⟩
theorem emptyD {s : ByteArray} (h : ¬ s.size = 0) : ¬ s.toList = [] ∧ s.toList.isEmpty = false := by
  have e : ¬ s.toList = [] := by
    rw [ByteArray.toList_eq]
    intro h'
    apply h
    have := congrArg List.length h'
    simpa using this
  exact ⟨e, by cases hs : s.toList with | nil => exact absurd hs e | cons a l => rfl⟩

set_option maxHeartbeats 2000000 in
set_option maxRecDepth 100000 in
theorem l01Number_any (s : ByteArray) (w : World) (hs : s.size ≤ 1048576) :
    Calls Tryd.prog 34 #[.string s] w (Ret w (.tuple #[.int .i64 (readD s).1, .bool (readD s).2])) := by
  rcases Nat.eq_zero_or_pos s.size with h0 | h0
  · have hl : s.data.toList = [] := List.eq_nil_of_length_eq_zero (by simpa using h0)
    have E : Hid (readD s = (0, false)) := by show _ = _; unfold readD numS; rw [hl]; rfl
    obtain rfl : s = ByteArray.empty := ByteArray.ext (Array.toList_inj.1 (by rw [hl]; rfl))
    clear h0 hl hs
    go_enter Tryd.func34, Tryd.ntmps34
    go_wp2_with fail
    refine bodyPost_ret (v := .tuple #[.int .i64 0, .bool false]) (by simp [results, Tryd.results34, go_sem]) rfl ?_
    rw [E.out]
    exact ⟨rfl, Below.refl _ _⟩
  · obtain ⟨ne1, ne2⟩ := emptyD (s := s) (by omega)
    have hcons : s.data.toList = s[0] :: s.data.toList.tail := by
      have h1 : 0 < s.data.toList.length := by simpa using h0
      have h2 := List.drop_eq_getElem_cons (i := 0) h1
      rw [List.drop_zero] at h2
      rw [h2]
      rfl
    by_cases h45 : s[0].toNat = 45
    · have hb : ((s[0].toNat : Int) == 45) = true := by rw [h45]; rfl
      have hu : s[0] = 45 := u8_eq (n := 45) (by omega) h45
      have hst : strip s.data.toList = s.data.toList.tail := by unfold strip; rw [if_pos (by rw [hcons, hu]; rfl)]
      have HSG : Hid (∀ m : Nat, sgn s.data.toList m = -(m : Int)) := by show ∀ m, _; intro m; unfold sgn; rw [if_pos (by rw [hcons, hu]; rfl)]
      have HTS : Hid ((s.extract 1 s.size).data.toList = strip s.data.toList) := by
        show _ = _
        rw [hst]
        simp only [ByteArray.data_extract, Array.toList_extract, List.extract_eq_take_drop, List.drop_one]
        exact List.take_of_length_le (by simp)
      have hsz : (s.extract 1 s.size).size = s.size - 1 := by simp
      have h1s : 1 ≤ s.size := h0
      clear hcons hu hst h45
      have htl : s.size - 1 = (strip s.data.toList).length := by rw [← HTS.out]; simp
      by_cases hlen : s.size - 1 < 1 ∨ 18 < s.size - 1
      · have E : Hid (readD s = (0, false)) := by show _ = _; unfold readD numS; rw [if_pos (by rw [← htl]; exact hlen)]; rfl
        clear htl
        rcases (show s.size - 1 < 1 ∨ (1 ≤ s.size - 1 ∧ 18 < s.size - 1) by omega) with h1 | ⟨h1, h2⟩
        all_goals try (exfalso; omega)
        all_goals
          clear hlen
          go_enter Tryd.func34, Tryd.ntmps34
          go_wp2_with fail
          refine bodyPost_ret (v := .tuple #[.int .i64 0, .bool false]) (by simp [results, Tryd.results34, go_sem]) rfl ?_
          rw [E.out]
          exact ⟨rfl, Below.refl _ _⟩
      · have ht1 : 1 ≤ s.size - 1 := by omega
        have ht2 : s.size - 1 ≤ 18 := by omega
        obtain ⟨R, hR⟩ : ∃ R, Lib.decFrom 0 ((s.extract 1 s.size).data.toList.drop 0) = R := ⟨_, rfl⟩
        have HN : Hid (readD s = resO (pickN s.data.toList R)) := by
          show _ = _
          have hne : ¬ ((strip s.data.toList).isEmpty = true) := by
            intro h
            have := List.isEmpty_iff.1 h
            rw [this, List.length_nil] at htl
            omega
          have hd : Lib.decNat (strip s.data.toList) = R := by
            have h3 := congrArg (Lib.decFrom 0) HTS.out
            rw [← hR]
            unfold Lib.decNat
            rw [if_neg hne]
            exact h3.symm
          unfold readD numS
          rw [if_neg (by rw [← htl]; omega), hd]
          cases R <;> rfl
        have HR := Lib.hid hR
        have hl1 : ¬ s.size - 1 < 1 := by omega
        have hl2 : ¬ 18 < s.size - 1 := by omega
        clear hlen htl hR
        go_enter Tryd.func34, Tryd.ntmps34
        go_wp2_with fail
        obtain ⟨t, ht⟩ : ∃ t, s.extract 1 s.size = t := ⟨_, rfl⟩
        rw [ht] at HTS hsz HR ⊢
        have hts2 : t.size = s.size - 1 := hsz
        rw [← hts2] at ht1 ht2
        have hlts : t.size < s.size := by omega
        have HTT := Lib.hid hts2
        clear ht hb hl1 hl2 hts2 hsz
        go_loop [5, 6] (fun v u => ∃ (a i : Nat), v = .int .i64 a ∧ u = .int .i64 i ∧ i ≤ t.size ∧ a < 10 ^ i ∧ Hid (Lib.decFrom a (t.data.toList.drop i) = R)) (fun _ u => t.size - (intOf u).toNat)
        case atStart => exact ⟨0, 0, rfl, rfl, by omega, by simp, HR⟩
        case round =>
          clear HR
          obtain ⟨a, i, rfl, rfl, hi, ha, HR⟩ := hrel
          by_cases hlt : i < t.size
          · have hil : i < t.data.toList.length := by simpa using hlt
            have hpw : 10 ^ i ≤ 10 ^ 17 := Nat.pow_le_pow_right (by omega) (by omega)
            have e17 : (10 : Nat) ^ 17 = 100000000000000000 := by decide
            have ha17 : a < 100000000000000000 := by omega
            have hdr : t.data.toList.drop i = t[i] :: t.data.toList.drop (i + 1) := by rw [List.drop_eq_getElem_cons hil]; rfl
            have HST : Hid (Lib.decFrom a (t[i] :: t.data.toList.drop (i + 1)) = R) := by show _ = _; rw [← hdr]; exact HR.out
            have hps : Hid (10 ^ (i + 1) = 10 ^ i * 10) := Nat.pow_succ 10 i
            have hb255 : t[i].toNat < 256 := UInt8.toNat_lt _
            by_cases hdg : 48 ≤ t[i].toNat ∧ t[i].toNat ≤ 57
            · have HX : Hid (Lib.decFrom (a * 10 + (t[i].toNat - 48)) (t.data.toList.drop (i + 1)) = R) := by
                show _ = _
                rw [← HST.out, Lib.decFrom, digV hdg]
              have hap : a * 10 + (t[i].toNat - 48) < 10 ^ (i + 1) := by rw [hps.out]; omega
              have hdy := dig_yes t[i].toNat
              obtain ⟨d1, d2⟩ := hdg
              obtain ⟨d, hd⟩ : ∃ d, t[i].toNat = d + 48 := ⟨t[i].toNat - 48, by omega⟩
              have hd9 : d ≤ 9 := by omega
              have hu8 : IntKind.u8.wrap (((d + 48 : Nat) : Int) - 48) = (d : Int) := by rw [IntKind.wrap_u8]; omega
              rw [hd] at HX hap hdy
              rw [Nat.add_sub_cancel] at HX hap
              have HD := Lib.hid hd
              have HAP := Lib.hid hap
              clear hdr HST hps hpw e17 ha hap HR hb255 d1 d2 hd
              go_wp2_with (go_at_call 60; rw [HD.out]; refine (hdy _ (by omega)).mono ?_; rintro e w2 ⟨rfl, rfl⟩)
              go_round
              case rel => exact ⟨a * 10 + d, i + 1, by rw [HD.out]; go_num, by go_num, by omega, HAP.out, HX⟩
              case measure => simp [intOf]; omega
            · have hRn : R = none := by rw [← HST.out, Lib.decFrom, digN hdg]
              have E : Hid (readD s = (0, false)) := by show _ = _; rw [HN.out, hRn]; rfl
              have hdn := dig_no t[i].toNat
              obtain ⟨d, hd⟩ : ∃ d, t[i].toNat = d := ⟨_, rfl⟩
              rw [hd] at hdg hdn hb255
              have HD := Lib.hid hd
              clear hdr HST hps hpw e17 ha HR hRn HN hd
              go_wp2_with (go_at_call 60; rw [HD.out]; refine (hdn _ hdg).mono ?_; rintro e w2 ⟨rfl, rfl⟩)
              refine bodyPost_ret (v := .tuple #[.int .i64 0, .bool false]) (by simp [results, Tryd.results34, go_sem]) rfl ?_
              rw [E.out]
              exact ⟨rfl, Below.refl _ _⟩
          · have hRs : R = some a := by rw [← HR.out, List.drop_of_length_le (by simp; omega), Lib.decFrom]
            have hpw : 10 ^ i ≤ 10 ^ 18 := Nat.pow_le_pow_right (by omega) (by omega)
            have e18 : (10 : Nat) ^ 18 = 1000000000000000000 := by decide
            have ha18 : a < 1000000000000000000 := by omega
            have hsg : sgn s.data.toList a = -(a : Int) := HSG.out a
            have E0 : readD s = resO (if Lib.itoa (-(a : Int)) = s.data.toList then some (-(a : Int)) else none) := by rw [HN.out, hRs]; simp only [pickN, hsg]
            have HE0 := Lib.hid E0
            clear hRs hpw e18 ha HR HN hsg E0
            by_cases heq : decT (-(a : Int)) = s
            · have E : Hid (readD s = (-(a : Int), true)) := by
                show _ = _
                have : Lib.itoa (-(a : Int)) = s.data.toList := by rw [← heq]; rfl
                rw [HE0.out, if_pos this]
                rfl
              have HEQ := Lib.hid heq
              clear heq HE0
              go_wp2_with fail
              refine (l01Dec_any (-(a : Int)) _ (by omega) (by omega)).mono ?_
              rintro e w2 ⟨rfl, hb⟩
              rw [HEQ.out]
              go_wp2_with fail
              refine bodyPost_ret (v := .tuple #[.int .i64 (-(a : Int)), .bool true]) (by simp [results, Tryd.results34, go_sem]) rfl ?_
              rw [E.out]
              exact ⟨rfl, hb⟩
            · have E : Hid (readD s = (0, false)) := by
                show _ = _
                have : ¬ Lib.itoa (-(a : Int)) = s.data.toList := fun h => heq (by unfold decT; rw [h])
                rw [HE0.out, if_neg this]
                rfl
              obtain ⟨D, hD⟩ : ∃ D, decT (-(a : Int)) = D := ⟨_, rfl⟩
              have HD := Lib.hid hD
              rw [hD] at heq
              have hbq := beqD_no heq
              have hbq2 : (D.toList != s.toList) = true := by rw [bne, hbq]; rfl
              clear heq HE0 hD
              go_wp2_with fail
              refine (l01Dec_any (-(a : Int)) _ (by omega) (by omega)).mono ?_
              rintro e w2 ⟨rfl, hb⟩
              rw [HD.out]
              go_wp2_with fail
              refine bodyPost_ret (v := .tuple #[.int .i64 0, .bool false]) (by simp [results, Tryd.results34, go_sem]) rfl ?_
              rw [E.out]
              exact ⟨rfl, hb⟩
    · have hb : ((s[0].toNat : Int) == 45) = false := by rw [beq_eq_false_iff_ne]; omega
      have hst : strip s.data.toList = s.data.toList := by
        unfold strip
        rw [if_neg]
        rw [hcons]
        intro h
        injection h with h
        exact h45 (by rw [h]; decide)
      have HSG : Hid (∀ m : Nat, sgn s.data.toList m = (m : Int)) := by
        show ∀ m, _
        intro m
        unfold sgn
        rw [if_neg]
        rw [hcons]
        intro h
        injection h with h
        exact h45 (by rw [h]; decide)
      have HTS : Hid (s.data.toList = strip s.data.toList) := by show _ = _; rw [hst]
      clear hcons hst h45
      have htl : s.size = (strip s.data.toList).length := by rw [← HTS.out]; simp
      by_cases hlen : s.size < 1 ∨ 18 < s.size
      · have E : Hid (readD s = (0, false)) := by show _ = _; unfold readD numS; rw [if_pos (by rw [← htl]; exact hlen)]; rfl
        clear htl
        rcases (show s.size < 1 ∨ (1 ≤ s.size ∧ 18 < s.size) by omega) with h1 | ⟨h1, h2⟩
        all_goals try (exfalso; omega)
        all_goals
          clear hlen
          go_enter Tryd.func34, Tryd.ntmps34
          go_wp2_with fail
          refine bodyPost_ret (v := .tuple #[.int .i64 0, .bool false]) (by simp [results, Tryd.results34, go_sem]) rfl ?_
          rw [E.out]
          exact ⟨rfl, Below.refl _ _⟩
      · have ht1 : 1 ≤ s.size := by omega
        have ht2 : s.size ≤ 18 := by omega
        obtain ⟨R, hR⟩ : ∃ R, Lib.decFrom 0 (s.data.toList.drop 0) = R := ⟨_, rfl⟩
        have HN : Hid (readD s = resO (pickN s.data.toList R)) := by
          show _ = _
          have hne : ¬ ((strip s.data.toList).isEmpty = true) := by
            intro h
            have := List.isEmpty_iff.1 h
            rw [this, List.length_nil] at htl
            omega
          have hd : Lib.decNat (strip s.data.toList) = R := by
            have h3 := congrArg (Lib.decFrom 0) HTS.out
            rw [← hR]
            unfold Lib.decNat
            rw [if_neg hne]
            exact h3.symm
          unfold readD numS
          rw [if_neg (by rw [← htl]; omega), hd]
          cases R <;> rfl
        have HR := Lib.hid hR
        have hl1 : ¬ s.size < 1 := by omega
        have hl2 : ¬ 18 < s.size := by omega
        clear hlen htl hR
        go_enter Tryd.func34, Tryd.ntmps34
        go_wp2_with fail

        go_loop [5, 6] (fun v u => ∃ (a i : Nat), v = .int .i64 a ∧ u = .int .i64 i ∧ i ≤ s.size ∧ a < 10 ^ i ∧ Hid (Lib.decFrom a (s.data.toList.drop i) = R)) (fun _ u => s.size - (intOf u).toNat)
        case atStart => exact ⟨0, 0, rfl, rfl, by omega, by simp, HR⟩
        case round =>
          clear HR
          obtain ⟨a, i, rfl, rfl, hi, ha, HR⟩ := hrel
          by_cases hlt : i < s.size
          · have hil : i < s.data.toList.length := by simpa using hlt
            have hpw : 10 ^ i ≤ 10 ^ 17 := Nat.pow_le_pow_right (by omega) (by omega)
            have e17 : (10 : Nat) ^ 17 = 100000000000000000 := by decide
            have ha17 : a < 100000000000000000 := by omega
            have hdr : s.data.toList.drop i = s[i] :: s.data.toList.drop (i + 1) := by rw [List.drop_eq_getElem_cons hil]; rfl
            have HST : Hid (Lib.decFrom a (s[i] :: s.data.toList.drop (i + 1)) = R) := by show _ = _; rw [← hdr]; exact HR.out
            have hps : Hid (10 ^ (i + 1) = 10 ^ i * 10) := Nat.pow_succ 10 i
            have hb255 : s[i].toNat < 256 := UInt8.toNat_lt _
            by_cases hdg : 48 ≤ s[i].toNat ∧ s[i].toNat ≤ 57
            · have HX : Hid (Lib.decFrom (a * 10 + (s[i].toNat - 48)) (s.data.toList.drop (i + 1)) = R) := by
                show _ = _
                rw [← HST.out, Lib.decFrom, digV hdg]
              have hap : a * 10 + (s[i].toNat - 48) < 10 ^ (i + 1) := by rw [hps.out]; omega
              have hdy := dig_yes s[i].toNat
              obtain ⟨d1, d2⟩ := hdg
              obtain ⟨d, hd⟩ : ∃ d, s[i].toNat = d + 48 := ⟨s[i].toNat - 48, by omega⟩
              have hd9 : d ≤ 9 := by omega
              have hu8 : IntKind.u8.wrap (((d + 48 : Nat) : Int) - 48) = (d : Int) := by rw [IntKind.wrap_u8]; omega
              rw [hd] at HX hap hdy
              rw [Nat.add_sub_cancel] at HX hap
              have HD := Lib.hid hd
              have HAP := Lib.hid hap
              clear hdr HST hps hpw e17 ha hap HR hb255 d1 d2 hd
              go_wp2_with (go_at_call 60; rw [HD.out]; refine (hdy _ (by omega)).mono ?_; rintro e w2 ⟨rfl, rfl⟩)
              go_round
              case rel => exact ⟨a * 10 + d, i + 1, by rw [HD.out]; go_num, by go_num, by omega, HAP.out, HX⟩
              case measure => simp [intOf]; omega
            · have hRn : R = none := by rw [← HST.out, Lib.decFrom, digN hdg]
              have E : Hid (readD s = (0, false)) := by show _ = _; rw [HN.out, hRn]; rfl
              have hdn := dig_no s[i].toNat
              obtain ⟨d, hd⟩ : ∃ d, s[i].toNat = d := ⟨_, rfl⟩
              rw [hd] at hdg hdn hb255
              have HD := Lib.hid hd
              clear hdr HST hps hpw e17 ha HR hRn HN hd
              go_wp2_with (go_at_call 60; rw [HD.out]; refine (hdn _ hdg).mono ?_; rintro e w2 ⟨rfl, rfl⟩)
              refine bodyPost_ret (v := .tuple #[.int .i64 0, .bool false]) (by simp [results, Tryd.results34, go_sem]) rfl ?_
              rw [E.out]
              exact ⟨rfl, Below.refl _ _⟩
          · have hRs : R = some a := by rw [← HR.out, List.drop_of_length_le (by simp; omega), Lib.decFrom]
            have hpw : 10 ^ i ≤ 10 ^ 18 := Nat.pow_le_pow_right (by omega) (by omega)
            have e18 : (10 : Nat) ^ 18 = 1000000000000000000 := by decide
            have ha18 : a < 1000000000000000000 := by omega
            have hsg : sgn s.data.toList a = (a : Int) := HSG.out a
            have E0 : readD s = resO (if Lib.itoa ((a : Int)) = s.data.toList then some ((a : Int)) else none) := by rw [HN.out, hRs]; simp only [pickN, hsg]
            have HE0 := Lib.hid E0
            clear hRs hpw e18 ha HR HN hsg E0
            by_cases heq : decT ((a : Int)) = s
            · have E : Hid (readD s = ((a : Int), true)) := by
                show _ = _
                have : Lib.itoa ((a : Int)) = s.data.toList := by rw [← heq]; rfl
                rw [HE0.out, if_pos this]
                rfl
              have HEQ := Lib.hid heq
              clear heq HE0
              go_wp2_with fail
              refine (l01Dec_any ((a : Int)) _ (by omega) (by omega)).mono ?_
              rintro e w2 ⟨rfl, hb⟩
              rw [HEQ.out]
              go_wp2_with fail
              refine bodyPost_ret (v := .tuple #[.int .i64 ((a : Int)), .bool true]) (by simp [results, Tryd.results34, go_sem]) rfl ?_
              rw [E.out]
              exact ⟨rfl, hb⟩
            · have E : Hid (readD s = (0, false)) := by
                show _ = _
                have : ¬ Lib.itoa ((a : Int)) = s.data.toList := fun h => heq (by unfold decT; rw [h])
                rw [HE0.out, if_neg this]
                rfl
              obtain ⟨D, hD⟩ : ∃ D, decT ((a : Int)) = D := ⟨_, rfl⟩
              have HD := Lib.hid hD
              rw [hD] at heq
              have hbq := beqD_no heq
              have hbq2 : (D.toList != s.toList) = true := by rw [bne, hbq]; rfl
              clear heq HE0 hD
              go_wp2_with fail
              refine (l01Dec_any ((a : Int)) _ (by omega) (by omega)).mono ?_
              rintro e w2 ⟨rfl, hb⟩
              rw [HD.out]
              go_wp2_with fail
              refine bodyPost_ret (v := .tuple #[.int .i64 0, .bool false]) (by simp [results, Tryd.results34, go_sem]) rfl ?_
              rw [E.out]
              exact ⟨rfl, hb⟩

end Go.Proofs.YtlblnknglplgjaaDoor
