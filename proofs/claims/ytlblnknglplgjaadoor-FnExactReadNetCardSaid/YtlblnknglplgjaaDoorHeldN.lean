/-
  CONTRACTS: marks written over the tubes of a network, looked for afterwards; a network of one's own as a result.
-/
import Derived.Test.YtlblnknglplgjaaDoorMark3
import Derived.Test.YtlblnknglplgjaaDoorAid
namespace Go.Proofs.YtlblnknglplgjaaDoor
open Go.RowKit

set_option maxHeartbeats 1000000 in
theorem heldTubeS_any (A : Option Addr) (n c : Nat) (m : Int) (w : World) (h : TubesAt w A (marks3 m n)) (hn0 : n ≤ 3000000) (m0 : 0 ≤ m) (m1 : m ≤ 1000000000) :
    Calls Tryd.prog 54 #[.slice A n c, .int .i64 m] w (Ret w (.int .i64 (m + (n * 3 : Nat)))) := by
  have H := Lib.hid h
  clear h
  go_enter Tryd.func54, Tryd.ntmps54
  go_wp2_with fail
  go_loopw [1, 5] (fun x y w' => ∃ (i : Nat), x = .int .i64 (m + (i * 3 : Nat)) ∧ y = .int .i64 i ∧ i ≤ n ∧ Below w.heap.size w w') (fun _ y _ => n - (intOf y).toNat)
  case atStart => exact ⟨0, by simp, rfl, by omega, Below.refl _ _⟩
  case round =>
    obtain ⟨i, rfl, rfl, hin, hbel⟩ := hrel
    by_cases hlt : i < n
    · obtain ⟨b, o, rfl, hblt, hc⟩ := H.out (by rw [marks3_len]; omega)
      obtain ⟨c0, c1, c2⟩ := (hc i (by rw [marks3_len]; exact hlt)).bel hbel
      rw [marks3_at] at c0 c1 c2
      clear hc
      simp only at c0 c1 c2
      rw [show m + (i * 3 + 1 : Nat) = m + (i * 3 : Nat) + 1 by omega] at c1
      rw [show m + (i * 3 + 2 : Nat) = m + (i * 3 : Nat) + 1 + 1 by omega] at c2
      obtain ⟨z, hz⟩ : ∃ z, m + ((i * 3 : Nat) : Int) = z := ⟨_, rfl⟩
      have hz0 : 0 ≤ z := by omega
      have hz1 : z ≤ 2000000000 := by omega
      have HZ := Lib.hid hz
      rw [hz] at c0 c1 c2 ⊢
      clear hz
      go_wp2_with fail
      go_roundw
      case rel => exact ⟨i + 1, by have := HZ.out; show _ = Value.int .i64 _; congr 1; omega, by go_num, by omega, hbel⟩
      case measure => simp [intOf]; omega
    · have hie : i = n := by omega
      subst hie
      go_wp2_with fail
      go_ret
      exact ⟨rfl, hbel⟩

theorem heldNet_any (S : Int) (A : Option Addr) (n c : Nat) (m : Int) (w : World) (h : TubesAt w A (marks3 m n)) (hn0 : n ≤ 3000000) (m0 : 0 ≤ m) (m1 : m ≤ 1000000000) :
    Calls Tryd.prog 29 #[.agg #[.int .i64 S, .slice A n c], .int .i64 m] w (Ret w (.int .i64 (m + (n * 3 : Nat)))) := by
  go_enter Tryd.func29, Tryd.ntmps29
  go_wp2_with fail
  refine (heldTubeS_any A n c m _ (h.alloc _) hn0 m0 m1).mono ?_
  rintro e w1 ⟨rfl, hb⟩
  have D : Below w.heap.size w w1 := Below.trans (by go_grown) (hb.mono (by simp))
  obtain ⟨z, hz⟩ : ∃ z, m + ((n * 3 : Nat) : Int) = z := ⟨_, rfl⟩
  have hz0 : 0 ≤ z := by omega
  have HZ := Lib.hid hz
  rw [hz]
  clear hb hz
  go_wp2_with fail
  go_ret
  rw [HZ.out]
  exact ⟨rfl, D⟩

end Go.Proofs.YtlblnknglplgjaaDoor
