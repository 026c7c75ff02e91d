/-
  CONTRACTS: words, and in how many places two of them differ.
-/
import Derived.Test.YtfhmmebciikgeaaNum
namespace Go.Proofs.Ytfhmmebciikgeaa
open Go.RowKit

/-- A byte is one of the first signs. -/
def signB (g : Int) (b : Nat) : Bool := inB b 97 (97 + g - 1)
def lettersF (g : Int) (s : ByteArray) : Nat → Nat → Bool
  | 0, _ => true
  | n + 1, k => signB g ((s[k]?).getD 0).toNat && lettersF g s n (k + 1)
def wordB (g : Int) (s : ByteArray) : Bool := lettersF g s s.size 0 && inB s.size 1 8
theorem letters_step {g : Int} {s : ByteArray} {k : Nat} (h : k < s.size) : lettersF g s (s.size - k) k = (signB g s[k].toNat && lettersF g s (s.size - (k + 1)) (k + 1)) := by
  rw [show s.size - k = (s.size - (k + 1)) + 1 by omega, lettersF]
  simp [h]
theorem letters_end {g : Int} {s : ByteArray} {k : Nat} (h : s.size ≤ k) : lettersF g s (s.size - k) k = true := by
  rw [show s.size - k = 0 by omega, lettersF]
/-- In how many of the next bytes two texts differ. -/
def farF (s t : ByteArray) : Nat → Nat → Nat
  | 0, _ => 0
  | n + 1, k => (if ((s[k]?).getD 0).toNat = ((t[k]?).getD 0).toNat then 0 else 1) + farF s t n (k + 1)
def farB (s t : ByteArray) : Nat := farF s t s.size 0
theorem far_step {s t : ByteArray} {k : Nat} (h : k < s.size) (h' : k < t.size) : farF s t (s.size - k) k = (if s[k].toNat = t[k].toNat then 0 else 1) + farF s t (s.size - (k + 1)) (k + 1) := by
  rw [show s.size - k = (s.size - (k + 1)) + 1 by omega, farF]
  simp [h, h']
theorem far_end {s t : ByteArray} {k : Nat} (h : s.size ≤ k) : farF s t (s.size - k) k = 0 := by
  rw [show s.size - k = 0 by omega, farF]
theorem farF_le (s t : ByteArray) : ∀ n k, farF s t n k ≤ n
  | 0, _ => Nat.le_refl _
  | n + 1, k => by
    have := farF_le s t n (k + 1)
    rw [farF]
    split <;> omega
theorem wordB_size {g : Int} {s : ByteArray} (h : wordB g s = true) : 1 ≤ s.size ∧ s.size ≤ 8 := by
  simp only [wordB, Bool.and_eq_true] at h
  have := inB_true h.2
  omega

set_option maxHeartbeats 1000000 in
theorem l05Word_any (g : Int) (s : ByteArray) (w : World) (hs : s.size ≤ 9223372036854775807) (g0 : 2 ≤ g) (g1 : g ≤ 4) :
    Calls Try.prog 41 #[.int .i64 g, .string s] w (Ret0 w (.bool (wordB g s))) := by
  have E : Hid (wordB g s = (lettersF g s (s.size - 0) 0 && inB s.size 1 8)) := rfl
  go_enter Try.func41, Try.ntmps41
  go_wp2_with fail
  go_loop [5] (fun u => ∃ k : Nat, u = .int .i64 k ∧ k ≤ s.size ∧ Hid (wordB g s = (lettersF g s (s.size - k) k && inB s.size 1 8))) (fun u => s.size - (intOf u).toNat)
  case atStart => exact ⟨0, rfl, by omega, E⟩
  case round =>
    clear E
    obtain ⟨k, rfl, hk, HE⟩ := hrel
    by_cases hlt : k < s.size
    · have hd := letters_step (g := g) hlt
      have hb : s[k].toNat < 256 := s[k].toNat_lt
      cases hv : signB g s[k].toNat
      · have HF : Hid (wordB g s = false) := by show _ = _; rw [HE.out, hd, hv]; rfl
        have hv2 : inB (s[k].toNat : Int) 97 (97 + g - 1) = false := hv
        clear hd hv
        go_wp2_with (go_at_call 59; refine (l00In_any _ _ _ _).mono ?_; rintro e w2 ⟨rfl, rfl⟩)
        go_ret
        exact ⟨ret_bool HF.out.symm, rfl⟩
      · have HF : Hid (wordB g s = (lettersF g s (s.size - (k + 1)) (k + 1) && inB s.size 1 8)) := by show _ = _; rw [HE.out, hd, hv]; rfl
        have hv2 : inB (s[k].toNat : Int) 97 (97 + g - 1) = true := hv
        clear hd hv
        go_wp2_with (go_at_call 59; refine (l00In_any _ _ _ _).mono ?_; rintro e w2 ⟨rfl, rfl⟩)
        go_round
        case rel => exact ⟨k + 1, by go_num, by omega, HF⟩
        case measure => simp [intOf]; omega
    · have HF : Hid (wordB g s = inB s.size 1 8) := by show _ = _; rw [HE.out, letters_end (by omega)]; rfl
      go_wp2_with (go_at_call 59; refine (l00In_any _ _ _ _).mono ?_; rintro e w2 ⟨rfl, rfl⟩)
      go_ret
      exact ⟨ret_bool HF.out.symm, rfl⟩

set_option maxHeartbeats 1000000 in
theorem isWord_any (g : Int) (s : ByteArray) (w : World) (hs : s.size ≤ 9223372036854775807) (g0 : 2 ≤ g) (g1 : g ≤ 4) :
    Calls Try.prog 43 #[.int .i64 g, .string s] w (Ret0 w (.bool (wordB g s))) := by
  have E : Hid (wordB g s = (lettersF g s (s.size - 0) 0 && inB s.size 1 8)) := rfl
  go_enter Try.func43, Try.ntmps43
  go_wp2_with fail
  go_loop [8] (fun u => ∃ k : Nat, u = .int .i64 k ∧ k ≤ s.size ∧ Hid (wordB g s = (lettersF g s (s.size - k) k && inB s.size 1 8))) (fun u => s.size - (intOf u).toNat)
  case atStart => exact ⟨0, rfl, by omega, E⟩
  case round =>
    clear E
    obtain ⟨k, rfl, hk, HE⟩ := hrel
    by_cases hlt : k < s.size
    · have hd := letters_step (g := g) hlt
      have hb : s[k].toNat < 256 := s[k].toNat_lt
      cases hv : signB g s[k].toNat
      · have HF : Hid (wordB g s = false) := by show _ = _; rw [HE.out, hd, hv]; rfl
        have hv2 : (s[k].toNat : Int) < 97 ∨ 97 + g - 1 < (s[k].toNat : Int) := by
          unfold signB inB at hv
          simp at hv
          omega
        clear hd hv
        rcases hv2 with hv3 | hv3
        · go_wp2_with fail
          go_ret
          exact ⟨ret_bool HF.out.symm, rfl⟩
        · have e1 : IntKind.u8.wrap ((s[k].toNat : Int) - 97) = (s[k].toNat : Int) - 97 := by rw [IntKind.wrap_u8]; omega
          go_wp2_with fail
          go_ret
          exact ⟨ret_bool HF.out.symm, rfl⟩
      · have HF : Hid (wordB g s = (lettersF g s (s.size - (k + 1)) (k + 1) && inB s.size 1 8)) := by show _ = _; rw [HE.out, hd, hv]; rfl
        have hv2 := inB_true hv
        have e1 : IntKind.u8.wrap ((s[k].toNat : Int) - 97) = (s[k].toNat : Int) - 97 := by rw [IntKind.wrap_u8]; omega
        clear hd hv
        go_wp2_with fail
        go_round
        case rel => exact ⟨k + 1, by go_num, by omega, HF⟩
        case measure => simp [intOf]; omega
    · have HF : Hid (wordB g s = inB s.size 1 8) := by show _ = _; rw [HE.out, letters_end (by omega)]; rfl
      go_wp2_with (go_at_call 60; refine (within_any _ _ _ _).mono ?_; rintro e w2 ⟨rfl, rfl⟩)
      go_ret
      exact ⟨ret_bool HF.out.symm, rfl⟩

set_option maxHeartbeats 1000000 in
theorem l05Far_any (s t : ByteArray) (w : World) (hs : s.size ≤ 1048576) (hst : s.size = t.size) :
    Calls Try.prog 42 #[.string s, .string t] w (RetN w (.int .i64 (farB s t))) := by
  have E : Hid (0 + farF s t (s.size - 0) 0 = farB s t) := by show _ = _; simp [farB]
  go_enter Try.func42, Try.ntmps42
  go_wp2_with fail
  go_loopw [5, 6] (fun v u w' => ∃ (x k m : Nat), v = .int .i64 x ∧ u = .int .i64 k ∧ k ≤ s.size ∧ x ≤ k ∧ Hid (x + farF s t (s.size - k) k = farB s t) ∧ w' = w.drewN m) (fun _ u _ => s.size - (intOf u).toNat)
  case atStart => exact ⟨0, 0, 0, rfl, rfl, by omega, by omega, E, rfl⟩
  case round =>
    clear E
    obtain ⟨x, k, m, rfl, rfl, hk, hx, HE, rfl⟩ := hrel
    by_cases hlt : k < s.size
    · have hlt' : k < t.size := by omega
      have hd := far_step hlt hlt'
      by_cases hv : s[k].toNat = t[k].toNat
      · have HF : Hid (x + farF s t (s.size - (k + 1)) (k + 1) = farB s t) := by show _ = _; rw [← HE.out, hd, if_pos hv]; omega
        have hb : ((s[k].toNat : Int) == (t[k].toNat : Int)) = true := by rw [beq_iff_eq]; omega
        clear hd
        go_wp2_with fail
        go_quiet (fail)
        go_wp2_with fail
        go_roundw
        case rel => exact ⟨x, k + 1, _, by go_num, by go_num, by omega, by omega, HF, rfl⟩
        case measure => simp [intOf]; omega
      · have HF : Hid ((x + 1) + farF s t (s.size - (k + 1)) (k + 1) = farB s t) := by show _ = _; rw [← HE.out, hd, if_neg hv]; omega
        have hb : ((s[k].toNat : Int) == (t[k].toNat : Int)) = false := by
          rw [beq_eq_false_iff_ne]; omega
        clear hd
        go_wp2_with fail
        go_quiet (fail)
        go_wp2_with fail
        go_roundw
        case rel => exact ⟨x + 1, k + 1, _, by go_num, by go_num, by omega, by omega, HF, rfl⟩
        case measure => simp [intOf]; omega
    · have HF : Hid (farB s t = x) := by show _ = _; rw [← HE.out, far_end (by omega)]; omega
      go_wp2_with fail
      go_ret
      rw [HF.out]
      exact ⟨rfl, _, rfl⟩

set_option maxHeartbeats 1000000 in
theorem distance_any (s t : ByteArray) (w : World) (hs : s.size ≤ 1048576) (hst : s.size = t.size) :
    Calls Try.prog 44 #[.string s, .string t] w (RetN w (.int .i64 (farB s t))) := by
  have E : Hid (0 + farF s t (s.size - 0) 0 = farB s t) := by show _ = _; simp [farB]
  go_enter Try.func44, Try.ntmps44
  go_wp2_with fail
  go_loopw [5, 9] (fun v u w' => ∃ (x k m : Nat), v = .int .i64 x ∧ u = .int .i64 k ∧ k ≤ s.size ∧ x ≤ k ∧ Hid (x + farF s t (s.size - k) k = farB s t) ∧ w' = w.drewN m) (fun _ u _ => s.size - (intOf u).toNat)
  case atStart => exact ⟨0, 0, 0, rfl, rfl, by omega, by omega, E, rfl⟩
  case round =>
    clear E
    obtain ⟨x, k, m, rfl, rfl, hk, hx, HE, rfl⟩ := hrel
    by_cases hlt : k < s.size
    · have hlt' : k < t.size := by omega
      have hd := far_step hlt hlt'
      by_cases hv : s[k].toNat = t[k].toNat
      · have HF : Hid (x + farF s t (s.size - (k + 1)) (k + 1) = farB s t) := by show _ = _; rw [← HE.out, hd, if_pos hv]; omega
        have hb : ((s[k].toNat : Int) == (t[k].toNat : Int)) = true := by rw [beq_iff_eq]; omega
        clear hd
        go_wp2_with fail
        go_quiet (fail)
        go_wp2_with fail
        go_roundw
        case rel => exact ⟨x, k + 1, _, by go_num, by go_num, by omega, by omega, HF, rfl⟩
        case measure => simp [intOf]; omega
      · have HF : Hid ((x + 1) + farF s t (s.size - (k + 1)) (k + 1) = farB s t) := by show _ = _; rw [← HE.out, hd, if_neg hv]; omega
        have hb : ((s[k].toNat : Int) == (t[k].toNat : Int)) = false := by
          rw [beq_eq_false_iff_ne]; omega
        clear hd
        go_wp2_with fail
        go_quiet (fail)
        go_wp2_with fail
        go_roundw
        case rel => exact ⟨x + 1, k + 1, _, by go_num, by go_num, by omega, by omega, HF, rfl⟩
        case measure => simp [intOf]; omega
    · have HF : Hid (farB s t = x) := by show _ = _; rw [← HE.out, far_end (by omega)]; omega
      go_wp2_with fail
      go_ret
      rw [HF.out]
      exact ⟨rfl, _, rfl⟩

end Go.Proofs.Ytfhmmebciikgeaa
