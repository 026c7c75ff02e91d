/-
  CONTRACTS of TicksOfWay and SlowestRide.
-/
import Derived.Test.YtlebkjkiikehhaaRideList
namespace Go.Proofs.Ytlebkjkiikehhaa
open Go.RowKit

theorem VR.of4 {r : Rd} (h : vr4 r = true) : VR r.1 r.2.1 r.2.2.1 r.2.2.2 := vr_true h

set_option maxHeartbeats 1000000 in
theorem ticksOf_any (A : Option Addr) (n c : Nat) (l : List Rd) (w : World) (h : RidesAt w A l) (hl : n = l.length) (hv : validL l = true) :
    Calls Try.prog 71 #[.slice A n c] w (Ret w (.int .i64 (sumT l))) := by
  obtain ⟨h8, hall⟩ := validL_true hv
  rw [← hl] at h8
  have HA := Lib.hid hall
  have H := Lib.hid h
  have HL := Lib.hid hl
  clear h hl hall hv
  go_enter Try.func71, Try.ntmps71
  go_wp2_with fail
  go_loopw [3, 8] (fun u v w' => ∃ (i : Nat) (acc : Int), u = .int .i64 acc ∧ v = .int .i64 i ∧ i ≤ n ∧ 0 ≤ acc ∧ acc ≤ 20001 * i ∧ Hid (acc + sumT (l.drop i) = sumT l) ∧ Below w.heap.size w w') (fun _ v _ => n - (intOf v).toNat)
  case atStart => exact ⟨0, 0, rfl, rfl, by omega, by omega, by omega, by show (0 : Int) + sumT l = _; omega, Below.refl _ _⟩
  case round =>
    obtain ⟨i, acc, rfl, rfl, hin, a0, a1, HS, hbel⟩ := hrel
    by_cases hlt : i < n
    · obtain ⟨b, o, rfl, hblt, hc⟩ := H.out (by rw [← HL.out]; omega)
      have hil : i < l.length := by rw [← HL.out]; exact hlt
      obtain ⟨c0, c1, c2, c3⟩ := (hc i hil).bel hbel
      have HV := Lib.hid (VR.of4 (all_at HA.out hil))
      have hbd := vr4_bd (all_at HA.out hil)
      have HS2 : Hid (acc + tk4 l[i] + sumT (l.drop (i + 1)) = sumT l) := by show _ = _; rw [← HS.out, drop_at hil, sumT]; omega
      clear hc
      go_wp2_with fail
      refine (ticks_any _ _ _ _ _ HV.out).mono ?_
      rintro e w2 ⟨rfl, hb2⟩
      rw [show tk l[i].1 (drag l[i].2.1 l[i].2.2.2) (100 * l[i].2.2.1) = tk4 l[i] from rfl]
      go_wp2_with fail
      go_roundw
      case rel => exact ⟨i + 1, acc + tk4 l[i], by go_num, by go_num, by omega, by omega, by omega, HS2, bel_next (hbel.alloc hbel.size _) hb2⟩
      case measure => simp [intOf]; omega
    · have HS2 : Hid (acc = sumT l) := by
        show _ = _; rw [← HS.out, List.drop_of_length_le (by rw [← HL.out]; omega)]; simp [sumT]
      go_wp2_with fail
      go_ret
      exact ⟨by rw [← HS2.out]; rfl, hbel⟩

end Go.Proofs.Ytlebkjkiikehhaa
