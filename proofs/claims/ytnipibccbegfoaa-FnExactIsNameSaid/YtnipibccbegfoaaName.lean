/-
  THE WALK of the law on names.
-/
import Derived.Test.YtnipibccbegfoaaRows
import Derived.Test.YtnipibccbegfoaaBase
namespace Go.Proofs.Ytnipibccbegfoaa
open Go.RowKit

def smallB (b : Int) : Bool := decide (97 ≤ b ∧ b ≤ 122)
def digitB (b : Int) : Bool := decide (48 ≤ b ∧ b ≤ 57)
def nameB (b : Int) : Bool := decide ((97 ≤ b ∧ b ≤ 122) ∨ (48 ≤ b ∧ b ≤ 57) ∨ b = 45)
/-- From place k on all bytes are a name's, n of them are looked at. -/
def restB (s : ByteArray) : Nat → Nat → Bool
  | 0, _ => true
  | n + 1, k => nameB ((s[k]?).getD 0).toNat && restB s n (k + 1)
def isName (s : ByteArray) : Bool := decide (1 ≤ s.size) && decide (s.size ≤ 12) && smallB ((s[0]?).getD 0).toNat && restB s s.size 0

theorem small_any (b : Int) (w : World) : Calls Try.prog 48 #[.int .u8 b] w (Ret0 w (.bool (smallB b))) := by
  go_enter Try.func48, Try.ntmps48
  go_wp2
  all_goals go_ret
  all_goals exact ⟨ret_bool (by simp [smallB]; try omega), rfl⟩
theorem digit_any (b : Int) (w : World) : Calls Try.prog 49 #[.int .u8 b] w (Ret0 w (.bool (digitB b))) := by
  go_enter Try.func49, Try.ntmps49
  go_wp2
  all_goals go_ret
  all_goals exact ⟨ret_bool (by simp [digitB]; try omega), rfl⟩

theorem empty_yes {s : ByteArray} (h : s.size = 0) : s.toList = [] ∧ s.toList.isEmpty = true := by
  have e : s.toList = [] := by
    rw [ByteArray.toList_eq]
    exact List.eq_nil_of_length_eq_zero (by simpa using h)
  exact ⟨e, by rw [e]; rfl⟩
theorem empty_no {s : ByteArray} (h : ¬ s.size = 0) : ¬ s.toList = [] ∧ s.toList.isEmpty = false := by
  have e : ¬ s.toList = [] := by
    rw [ByteArray.toList_eq]
    intro h'
    apply h
    have := congrArg List.length h'
    simpa using this
  exact ⟨e, by simpa using e⟩
theorem getB {s : ByteArray} {k : Nat} (h : k < s.size) : ((s[k]?).getD 0) = s[k] := by simp [h]
theorem rest_step {s : ByteArray} {n k : Nat} (h : k < s.size) : restB s (n + 1) k = (nameB (s[k].toNat : Int) && restB s n (k + 1)) := by
  simp only [restB, getB h]

set_option maxHeartbeats 2000000 in
theorem specIsName_any (s : ByteArray) (w : World) (hs : s.size ≤ 9223372036854775807) : Calls Try.prog 18 #[.string s] w (Ret0 w (.bool (isName s))) := by
  by_cases h0 : s.size = 0
  · have E := Lib.hid (show isName s = false by simp [isName, h0])
    obtain ⟨e1, e2⟩ := empty_yes h0
    clear h0
    go_enter Try.func18, Try.ntmps18
    go_wp2
    go_ret
    exact ⟨ret_bool E.out.symm, rfl⟩
  · obtain ⟨e1, e2⟩ := empty_no h0
    by_cases h1 : s.size ≤ 12
    · have hp : 0 < s.size := by omega
      cases hsm : smallB (s[0].toNat : Int)
      · have E := Lib.hid (show isName s = false by simp [isName, getB hp, hsm])
        go_enter Try.func18, Try.ntmps18
        go_wp2_with (first
          | (go_at_call 48; refine (small_any _ _).mono ?_; rintro e w' ⟨rfl, rfl⟩))
        go_ret
        exact ⟨ret_bool E.out.symm, rfl⟩
      · have E := Lib.hid (show isName s = restB s s.size 0 by simp [isName, getB hp, hsm, h1]; omega)
        go_enter Try.func18, Try.ntmps18
        go_wp2_with (first
          | (go_at_call 48; refine (small_any _ _).mono ?_; rintro e w' ⟨rfl, rfl⟩))
        clear hsm e1 e2
        go_loop [3] (fun u => ∃ k : Nat, u = .int .i64 k ∧ k ≤ s.size ∧ Hid (restB s s.size 0 = restB s (s.size - k) k)) (fun u => s.size - (intOf u).toNat)
        case atStart => exact ⟨0, rfl, by omega, rfl⟩
        case round =>
          obtain ⟨k, rfl, hk, HR⟩ := hrel
          by_cases hlt : k < s.size
          · have e1 : s.size - k = (s.size - (k + 1)) + 1 := by omega
            have h2 := rest_step (n := s.size - (k + 1)) hlt
            cases hn : nameB (s[k].toNat : Int)
            · have HS : Hid (restB s s.size 0 = false) := by show _ = _; rw [HR.out, e1, h2, hn]; rfl
              have n1 : smallB (s[k].toNat : Int) = false := by unfold nameB at hn; unfold smallB; simp at hn ⊢; omega
              have n2 : digitB (s[k].toNat : Int) = false := by unfold nameB at hn; unfold digitB; simp at hn ⊢; omega
              have n3 : ((s[k].toNat : Int) != 45) = true := by unfold nameB at hn; simp at hn ⊢; omega
              clear e1 h2 hn HR
              go_wp2_with (first
                | (go_at_call 48; refine (small_any _ _).mono ?_; rintro e w' ⟨rfl, rfl⟩)
                | (go_at_call 49; refine (digit_any _ _).mono ?_; rintro e w' ⟨rfl, rfl⟩))
              go_ret
              exact ⟨ret_bool (by rw [E.out, HS.out]), rfl⟩
            · have HS : Hid (restB s s.size 0 = restB s (s.size - (k + 1)) (k + 1)) := by show _ = _; rw [HR.out, e1, h2, hn]; rfl
              clear e1 h2 HR
              have hn' := of_decide_eq_true hn
              clear hn
              cases n1 : smallB (s[k].toNat : Int)
              · cases n2 : digitB (s[k].toNat : Int)
                · have n3 : ((s[k].toNat : Int) != 45) = false := by
                    have a := of_decide_eq_false n1; have b := of_decide_eq_false n2; simp; omega
                  clear hn'
                  go_wp2_with (first
                    | (go_at_call 48; refine (small_any _ _).mono ?_; rintro e w' ⟨rfl, rfl⟩)
                    | (go_at_call 49; refine (digit_any _ _).mono ?_; rintro e w' ⟨rfl, rfl⟩))
                  go_round
                  case rel => exact ⟨k + 1, by go_num, by omega, HS⟩
                  case measure => simp [intOf]; omega
                · clear hn'
                  go_wp2_with (first
                    | (go_at_call 48; refine (small_any _ _).mono ?_; rintro e w' ⟨rfl, rfl⟩)
                    | (go_at_call 49; refine (digit_any _ _).mono ?_; rintro e w' ⟨rfl, rfl⟩))
                  go_round
                  case rel => exact ⟨k + 1, by go_num, by omega, HS⟩
                  case measure => simp [intOf]; omega
              · clear hn'
                go_wp2_with (first
                  | (go_at_call 48; refine (small_any _ _).mono ?_; rintro e w' ⟨rfl, rfl⟩)
                  | (go_at_call 49; refine (digit_any _ _).mono ?_; rintro e w' ⟨rfl, rfl⟩))
                go_round
                case rel => exact ⟨k + 1, by go_num, by omega, HS⟩
                case measure => simp [intOf]; omega
          · have HS : Hid (restB s s.size 0 = true) := by show _ = _; rw [HR.out, show s.size - k = 0 by omega]; rfl
            go_wp2
            go_ret
            exact ⟨ret_bool (by rw [E.out, HS.out]), rfl⟩
    · have E := Lib.hid (show isName s = false by simp [isName, h1])
      go_enter Try.func18, Try.ntmps18
      go_wp2
      go_ret
      exact ⟨ret_bool E.out.symm, rfl⟩

set_option maxHeartbeats 4000000 in
theorem implIsName_any (s : ByteArray) (w : World) (hs : s.size ≤ 9223372036854775807) : Calls Try.prog 19 #[.string s] w (Ret0 w (.bool (isName s))) := by
  by_cases h0 : s.size = 0
  · have E := Lib.hid (show isName s = false by simp [isName, h0])
    go_enter Try.func19, Try.ntmps19
    go_wp2
    go_ret
    exact ⟨ret_bool E.out.symm, rfl⟩
  · by_cases h1 : s.size ≤ 12
    · have hp : 0 < s.size := by omega
      cases hsm : smallB (s[0].toNat : Int)
      · have E := Lib.hid (show isName s = false by simp [isName, getB hp, hsm])
        have hb := of_decide_eq_false hsm
        clear hsm
        go_enter Try.func19, Try.ntmps19
        go_wp2
        all_goals (go_ret; exact ⟨ret_bool E.out.symm, rfl⟩)
      · have E := Lib.hid (show isName s = restB s s.size 0 by simp [isName, getB hp, hsm, h1]; omega)
        have hb := of_decide_eq_true hsm
        have R1 : Hid (restB s s.size 0 = restB s (s.size - 1) 1) := by
          show _ = _
          rw [show s.size = (s.size - 1) + 1 by omega, rest_step hp]
          have : nameB (s[0].toNat : Int) = true := by unfold nameB; simp; omega
          rw [this]; rfl
        clear hsm
        go_enter Try.func19, Try.ntmps19
        go_wp2
        clear hb
        go_loop [3] (fun u => ∃ k : Nat, u = .int .i64 k ∧ 1 ≤ k ∧ k ≤ s.size ∧ Hid (restB s s.size 0 = restB s (s.size - k) k)) (fun u => s.size - (intOf u).toNat)
        case atStart => exact ⟨1, rfl, by omega, by omega, R1⟩
        case round =>
          obtain ⟨k, rfl, hk1, hk, HR⟩ := hrel
          clear R1
          by_cases hlt : k < s.size
          · have e1 : s.size - k = (s.size - (k + 1)) + 1 := by omega
            have h2 := rest_step (n := s.size - (k + 1)) hlt
            cases hn : nameB (s[k].toNat : Int)
            · have HS : Hid (restB s s.size 0 = false) := by show _ = _; rw [HR.out, e1, h2, hn]; rfl
              have hn' := of_decide_eq_false hn
              have n3 : ((s[k].toNat : Int) != 45) = true := by simp; omega
              clear e1 h2 hn HR
              go_wp2
              all_goals (go_ret; exact ⟨ret_bool (by rw [E.out, HS.out]), rfl⟩)
            · have HS : Hid (restB s s.size 0 = restB s (s.size - (k + 1)) (k + 1)) := by show _ = _; rw [HR.out, e1, h2, hn]; rfl
              clear e1 h2 HR
              have hn' := of_decide_eq_true hn
              clear hn
              by_cases n3 : (s[k].toNat : Int) = 45
              · have n4 : ((s[k].toNat : Int) != 45) = false := by simpa using n3
                have n5 : (s[k].toNat : Int) ≤ 45 := by omega
                clear n3 hn'
                go_wp2
                all_goals
                  go_round
                  case rel => exact ⟨k + 1, by go_num, by omega, by omega, HS⟩
                  case measure => simp [intOf]; omega
              · have n4 : ((s[k].toNat : Int) != 45) = true := by simpa using n3
                have hn2 : (97 ≤ (s[k].toNat : Int) ∧ (s[k].toNat : Int) ≤ 122) ∨ (48 ≤ (s[k].toNat : Int) ∧ (s[k].toNat : Int) ≤ 57) := by omega
                clear n3 hn'
                rcases hn2 with n1 | n1
                · obtain ⟨n1, n2⟩ := n1
                  go_wp2
                  all_goals
                    go_round
                    case rel => exact ⟨k + 1, by go_num, by omega, by omega, HS⟩
                    case measure => simp [intOf]; omega
                · obtain ⟨n1, n2⟩ := n1
                  go_wp2
                  all_goals
                    go_round
                    case rel => exact ⟨k + 1, by go_num, by omega, by omega, HS⟩
                    case measure => simp [intOf]; omega
          · have HS : Hid (restB s s.size 0 = true) := by show _ = _; rw [HR.out, show s.size - k = 0 by omega]; rfl
            go_wp2
            go_ret
            exact ⟨ret_bool (by rw [E.out, HS.out]), rfl⟩
    · have E := Lib.hid (show isName s = false by simp [isName, h1])
      go_enter Try.func19, Try.ntmps19
      go_wp2
      go_ret
      exact ⟨ret_bool E.out.symm, rfl⟩

theorem walk_FnExactIsName (s : ByteArray) (hs : s.size ≤ 9223372036854775807) (w : World) : Calls Try.prog 5 #[.string s] w (Ret w (.bool true)) := by
  go_enter Try.func5, Try.ntmps5
  go_wp2_with (first
    | (go_at_call 18; refine (specIsName_any s _ hs).mono ?_; rintro e w' ⟨rfl, rfl⟩)
    | (go_at_call 19; refine (implIsName_any s _ hs).mono ?_; rintro e w' ⟨rfl, rfl⟩))
  all_goals (go_ret; exact ⟨rfl, Below.refl _ _⟩)

end Go.Proofs.Ytnipibccbegfoaa
