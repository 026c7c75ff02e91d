/-
  CONTRACT of the laws' own comparison of slices of integers.
-/
import Derived.Test.YtlebkjkiikehhaaRows
import Derived.Test.YtlebkjkiikehhaaSlice
namespace Go.Proofs.Ytlebkjkiikehhaa
open Go.RowKit

set_option maxHeartbeats 1000000 in
theorem eqInt64S_any (A A' : Option Addr) (n c c' : Nat) (l : List Int) (w : World) (h : IntsAt w A l) (h' : IntsAt w A' l) (hl : n = l.length) (hn0 : n ≤ 1048576) :
    Calls Try.prog 22 #[.slice A n c, .slice A' n c'] w (Ret w (.bool true)) := by
  have H := Lib.hid h
  have H' := Lib.hid h'
  have HL := Lib.hid hl
  clear h h' hl
  go_enter Try.func22, Try.ntmps22
  go_wp2
  go_loopw [5] (fun u w' => ∃ (i : Nat), u = .int .i64 i ∧ i ≤ n ∧ Below w.heap.size w w') (fun u _ => n - (intOf u).toNat)
  case atStart => exact ⟨0, rfl, by omega, by go_grown⟩
  case round =>
    obtain ⟨i, rfl, hin, hbel⟩ := hrel
    by_cases hlt : i < n
    · obtain ⟨b, o, rfl, hblt, hc⟩ := H.out (by rw [← HL.out]; omega)
      obtain ⟨b', o', rfl, hblt', hc'⟩ := H'.out (by rw [← HL.out]; omega)
      have c0 := bel_cell hbel (hc i (by rw [← HL.out]; exact hlt))
      have d0 := bel_cell hbel (hc' i (by rw [← HL.out]; exact hlt))
      clear hc hc'
      go_wp2_with fail
      go_quiet (fail)
      go_wp2_with fail
      go_roundw
      case rel => exact ⟨i + 1, by go_num, by omega, below_drewN hbel _⟩
      case measure => simp [intOf]; omega
    · go_wp2_with fail
      go_ret
      exact ⟨rfl, hbel⟩

end Go.Proofs.Ytlebkjkiikehhaa
