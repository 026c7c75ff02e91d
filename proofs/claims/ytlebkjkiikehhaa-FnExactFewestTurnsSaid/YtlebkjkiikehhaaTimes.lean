/-
  CONTRACTS on the times of tubes.
-/
import Derived.Test.YtlebkjkiikehhaaIntS
namespace Go.Proofs.Ytlebkjkiikehhaa
open Go.RowKit

def validT (l : List Int) : Bool := inB l.length 1 24 && !outB l 1 1000

set_option maxHeartbeats 1000000 in
theorem l06Times_any (A : Option Addr) (n c : Nat) (l : List Int) (w : World) (h : IntsAt w A l) (hl : n = l.length) (hn0 : n ≤ 1048576) :
    Calls Try.prog 92 #[.slice A n c] w (Ret0 w (.bool (validT l))) := by
  have E : Hid (validT l = (inB n 1 24 && !outB l 1 1000)) := by rw [hl]; rfl
  have H := Lib.hid h
  have HL := Lib.hid hl
  clear h hl
  go_enter Try.func92, Try.ntmps92
  go_wp2
  go_loop [3] (fun u => ∃ (i : Nat), u = .int .i64 i ∧ i ≤ n ∧ Hid (outB l 1 1000 = outB (l.drop i) 1 1000)) (fun u => n - (intOf u).toNat)
  case atStart => exact ⟨0, rfl, by omega, rfl⟩
  case round =>
    obtain ⟨i, rfl, hin, HA⟩ := hrel
    by_cases hlt : i < n
    · obtain ⟨b, o, rfl, hblt, hc⟩ := H.out (by rw [← HL.out]; omega)
      have hil : i < l.length := by rw [← HL.out]; exact hlt
      have c0 := hc i hil
      clear hc
      have hd := outB_step (lo := 1) (hi := 1000) hil
      cases hv : inB l[i] 1 1000
      · have HS : Hid (outB l 1 1000 = true) := by show _ = _; rw [HA.out, hd, hv]; rfl
        clear hd
        go_wp2_with (go_at_call 65; refine (l00In_any _ _ _ _).mono ?_; rintro e w2 ⟨rfl, rfl⟩)
        go_ret
        exact ⟨ret_bool (by rw [E.out, HS.out]; simp), rfl⟩
      · have HS : Hid (outB l 1 1000 = outB (l.drop (i + 1)) 1 1000) := by show _ = _; rw [HA.out, hd, hv]; rfl
        clear hd
        go_wp2_with (go_at_call 65; refine (l00In_any _ _ _ _).mono ?_; rintro e w2 ⟨rfl, rfl⟩)
        go_round
        case rel => exact ⟨i + 1, by go_num, by omega, HS⟩
        case measure => simp [intOf]; omega
    · have HS : Hid (outB l 1 1000 = false) := by show _ = _; rw [HA.out]; exact outB_end (by rw [← HL.out]; omega)
      go_wp2_with (go_at_call 65; refine (l00In_any _ _ _ _).mono ?_; rintro e w2 ⟨rfl, rfl⟩)
      go_ret
      exact ⟨ret_bool (by rw [E.out, HS.out]; simp), rfl⟩

theorem implValidTimes_any (A : Option Addr) (n c : Nat) (l : List Int) (w : World) (h : IntsAt w A l) (hl : n = l.length) (hn0 : n ≤ 1048576) :
    Calls Try.prog 93 #[.slice A n c] w (Ret w (.bool (validT l))) := by
  have E : Hid (validT l = (inB n 1 24 && !outB l 1 1000)) := by rw [hl]; rfl
  have HL := Lib.hid hl
  clear hl
  cases hi : inB n 1 24
  · have E2 : Hid (validT l = false) := by show _ = _; rw [E.out, hi]; rfl
    go_enter Try.func93, Try.ntmps93
    go_wp2_with (first
      | (go_at_call 85; refine (within_any _ _ _ _).mono ?_; rintro e w2 ⟨rfl, rfl⟩))
    go_ret
    exact ⟨ret_bool E2.out.symm, Below.refl _ _⟩
  · have E2 : Hid (validT l = !outB l 1 1000) := by show _ = _; rw [E.out, hi]; rfl
    go_enter Try.func93, Try.ntmps93
    go_wp2_with (first
      | (go_at_call 85; refine (within_any _ _ _ _).mono ?_; rintro e w2 ⟨rfl, rfl⟩)
      | (go_at_call 108; refine (outside_any A n c l 1 1000 _ h HL.out hn0).mono ?_; rintro e w2 ⟨rfl, hb2⟩))
    go_ret
    exact ⟨ret_bool E2.out.symm, hb2⟩

end Go.Proofs.Ytlebkjkiikehhaa
