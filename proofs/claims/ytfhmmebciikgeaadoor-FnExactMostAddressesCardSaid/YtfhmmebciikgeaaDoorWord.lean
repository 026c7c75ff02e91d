/-
  CONTRACTS: words, and in how many places two of them differ.
-/
import Derived.Test.YtfhmmebciikgeaaDoorNum
namespace Go.Proofs.YtfhmmebciikgeaaDoor
open Go.RowKit

/-- A byte is one of the first signs. -/
def signB (g : Int) (b : Nat) : Bool := inB b 97 (97 + g - 1)
def lettersF (g : Int) (s : ByteArray) : Nat → Nat → Bool
  | 0, _ => true
  | n + 1, k => signB g ((s[k]?).getD 0).toNat && lettersF g s n (k + 1)
def wordB (g : Int) (s : ByteArray) : Bool := lettersF g s s.size 0 && inB s.size 1 8
theorem letters_step {g : Int} {s : ByteArray} {k : Nat} (h : k < s.size) : lettersF g s (s.size - k) k = (signB g s[k].toNat && lettersF g s (s.size - (k + 1)) (k + 1)) := by
  rw [show s.size - k = (s.size - (k + 1)) + 1 by omega, lettersF]
  simp [h]
theorem letters_end {g : Int} {s : ByteArray} {k : Nat} (h : s.size ≤ k) : lettersF g s (s.size - k) k = true := by
  rw [show s.size - k = 0 by omega, lettersF]
/-- In how many of the next bytes two texts differ. -/
def farF (s t : ByteArray) : Nat → Nat → Nat
  | 0, _ => 0
  | n + 1, k => (if ((s[k]?).getD 0).toNat = ((t[k]?).getD 0).toNat then 0 else 1) + farF s t n (k + 1)
def farB (s t : ByteArray) : Nat := farF s t s.size 0
theorem far_step {s t : ByteArray} {k : Nat} (h : k < s.size) (h' : k < t.size) : farF s t (s.size - k) k = (if s[k].toNat = t[k].toNat then 0 else 1) + farF s t (s.size - (k + 1)) (k + 1) := by
  rw [show s.size - k = (s.size - (k + 1)) + 1 by omega, farF]
  simp [h, h']
theorem far_end {s t : ByteArray} {k : Nat} (h : s.size ≤ k) : farF s t (s.size - k) k = 0 := by
  rw [show s.size - k = 0 by omega, farF]
theorem farF_le (s t : ByteArray) : ∀ n k, farF s t n k ≤ n
  | 0, _ => Nat.le_refl _
  | n + 1, k => by
    have := farF_le s t n (k + 1)
    rw [farF]
    split <;> omega
theorem wordB_size {g : Int} {s : ByteArray} (h : wordB g s = true) : 1 ≤ s.size ∧ s.size ≤ 8 := by
  simp only [wordB, Bool.and_eq_true] at h
  have := inB_true h.2
  omega

set_option maxHeartbeats 1000000 in
theorem l05Far_any (s t : ByteArray) (w : World) (hs : s.size ≤ 1048576) (hst : s.size = t.size) :
    Calls Tryd.prog 8 #[.string s, .string t] w (RetN w (.int .i64 (farB s t))) := by
  have E : Hid (0 + farF s t (s.size - 0) 0 = farB s t) := by show _ = _; simp [farB]
  go_enter Tryd.func8, Tryd.ntmps8
  go_wp2_with fail
  go_loopw [5, 6] (fun v u w' => ∃ (x k m : Nat), v = .int .i64 x ∧ u = .int .i64 k ∧ k ≤ s.size ∧ x ≤ k ∧ Hid (x + farF s t (s.size - k) k = farB s t) ∧ w' = w.drewN m) (fun _ u _ => s.size - (intOf u).toNat)
  case atStart => exact ⟨0, 0, 0, rfl, rfl, by omega, by omega, E, rfl⟩
  case round =>
    clear E
    obtain ⟨x, k, m, rfl, rfl, hk, hx, HE, rfl⟩ := hrel
    by_cases hlt : k < s.size
    · have hlt' : k < t.size := by omega
      have hd := far_step hlt hlt'
      by_cases hv : s[k].toNat = t[k].toNat
      · have HF : Hid (x + farF s t (s.size - (k + 1)) (k + 1) = farB s t) := by show _ = _; rw [← HE.out, hd, if_pos hv]; omega
        have hb : ((s[k].toNat : Int) == (t[k].toNat : Int)) = true := by rw [beq_iff_eq]; omega
        clear hd
        go_wp2_with fail
        go_quiet (fail)
        go_wp2_with fail
        go_roundw
        case rel => exact ⟨x, k + 1, _, by go_num, by go_num, by omega, by omega, HF, rfl⟩
        case measure => simp [intOf]; omega
      · have HF : Hid ((x + 1) + farF s t (s.size - (k + 1)) (k + 1) = farB s t) := by show _ = _; rw [← HE.out, hd, if_neg hv]; omega
        have hb : ((s[k].toNat : Int) == (t[k].toNat : Int)) = false := by
          rw [beq_eq_false_iff_ne]; omega
        clear hd
        go_wp2_with fail
        go_quiet (fail)
        go_wp2_with fail
        go_roundw
        case rel => exact ⟨x + 1, k + 1, _, by go_num, by go_num, by omega, by omega, HF, rfl⟩
        case measure => simp [intOf]; omega
    · have HF : Hid (farB s t = x) := by show _ = _; rw [← HE.out, far_end (by omega)]; omega
      go_wp2_with fail
      go_ret
      rw [HF.out]
      exact ⟨rfl, _, rfl⟩

set_option maxHeartbeats 1000000 in
theorem distance_any (s t : ByteArray) (w : World) (hs : s.size ≤ 1048576) (hst : s.size = t.size) :
    Calls Tryd.prog 12 #[.string s, .string t] w (RetN w (.int .i64 (farB s t))) := by
  have E : Hid (0 + farF s t (s.size - 0) 0 = farB s t) := by show _ = _; simp [farB]
  go_enter Tryd.func12, Tryd.ntmps12
  go_wp2_with fail
  go_loopw [5, 9] (fun v u w' => ∃ (x k m : Nat), v = .int .i64 x ∧ u = .int .i64 k ∧ k ≤ s.size ∧ x ≤ k ∧ Hid (x + farF s t (s.size - k) k = farB s t) ∧ w' = w.drewN m) (fun _ u _ => s.size - (intOf u).toNat)
  case atStart => exact ⟨0, 0, 0, rfl, rfl, by omega, by omega, E, rfl⟩
  case round =>
    clear E
    obtain ⟨x, k, m, rfl, rfl, hk, hx, HE, rfl⟩ := hrel
    by_cases hlt : k < s.size
    · have hlt' : k < t.size := by omega
      have hd := far_step hlt hlt'
      by_cases hv : s[k].toNat = t[k].toNat
      · have HF : Hid (x + farF s t (s.size - (k + 1)) (k + 1) = farB s t) := by show _ = _; rw [← HE.out, hd, if_pos hv]; omega
        have hb : ((s[k].toNat : Int) == (t[k].toNat : Int)) = true := by rw [beq_iff_eq]; omega
        clear hd
        go_wp2_with fail
        go_quiet (fail)
        go_wp2_with fail
        go_roundw
        case rel => exact ⟨x, k + 1, _, by go_num, by go_num, by omega, by omega, HF, rfl⟩
        case measure => simp [intOf]; omega
      · have HF : Hid ((x + 1) + farF s t (s.size - (k + 1)) (k + 1) = farB s t) := by show _ = _; rw [← HE.out, hd, if_neg hv]; omega
        have hb : ((s[k].toNat : Int) == (t[k].toNat : Int)) = false := by
          rw [beq_eq_false_iff_ne]; omega
        clear hd
        go_wp2_with fail
        go_quiet (fail)
        go_wp2_with fail
        go_roundw
        case rel => exact ⟨x + 1, k + 1, _, by go_num, by go_num, by omega, by omega, HF, rfl⟩
        case measure => simp [intOf]; omega
    · have HF : Hid (farB s t = x) := by show _ = _; rw [← HE.out, far_end (by omega)]; omega
      go_wp2_with fail
      go_ret
      rw [HF.out]
      exact ⟨rfl, _, rfl⟩

end Go.Proofs.YtfhmmebciikgeaaDoor
