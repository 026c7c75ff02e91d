/-
  PLAIN LAWS of rides: no program in sight.
-/
import Derived.WalkKit
import Derived.PlainAid
namespace Go.Proofs.Ytnipibccbegfoaa
open Go.RowKit

/-- A number lies between two others. -/
def inB (n lo hi : Int) : Bool := decide (lo ≤ n ∧ n ≤ hi)
theorem inB_true {n lo hi : Int} (h : inB n lo hi = true) : lo ≤ n ∧ n ≤ hi := of_decide_eq_true h
theorem inB_false {n lo hi : Int} (h : inB n lo hi = false) : ¬ (lo ≤ n ∧ n ≤ hi) := of_decide_eq_false h
theorem inB_mk {n lo hi : Int} (h : lo ≤ n ∧ n ≤ hi) : inB n lo hi = true := decide_eq_true h
theorem inB_no {n lo hi : Int} (h : ¬ (lo ≤ n ∧ n ≤ hi)) : inB n lo hi = false := decide_eq_false h

/-- A ride is valid. -/
def vr (L W P B : Int) : Bool := inB L 1 2000 && inB W 0 500 && inB P 1 100 && inB B 0 40
structure VR (L W P B : Int) : Prop where
  l0 : 1 ≤ L
  l1 : L ≤ 2000
  w0 : 0 ≤ W
  w1 : W ≤ 500
  p0 : 1 ≤ P
  p1 : P ≤ 100
  b0 : 0 ≤ B
  b1 : B ≤ 40
theorem vr_true {L W P B : Int} (h : vr L W P B = true) : VR L W P B := by
  simp only [vr, Bool.and_eq_true] at h
  obtain ⟨⟨⟨h1, h2⟩, h3⟩, h4⟩ := h
  have a := inB_true h1; have b := inB_true h2; have c := inB_true h3; have d := inB_true h4
  exact ⟨a.1, a.2, b.1, b.2, c.1, c.2, d.1, d.2⟩

/-- The denominator of a ride's speed. -/
def drag (W B : Int) : Int := 100 + W + 10 * B
theorem drag_bd {W B : Int} (w0 : 0 ≤ W) (w1 : W ≤ 500) (b0 : 0 ≤ B) (b1 : B ≤ 40) : 100 ≤ drag W B ∧ drag W B ≤ 1000 := by unfold drag; omega

/-- The ticks of a ride, out of its length, its denominator and 100 times its pressure. -/
def tk (L D N : Int) : Int := (L * D + N - 1) / N
theorem mul_bd {a b x y : Int} (h0 : 0 ≤ a) (h1 : a ≤ x) (k0 : 0 ≤ b) (k1 : b ≤ y) : 0 ≤ a * b ∧ a * b ≤ x * y :=
  ⟨Int.mul_nonneg h0 k0, Int.mul_le_mul h1 k1 k0 (by omega)⟩
theorem tk_bd {L D N : Int} (l0 : 1 ≤ L) (l1 : L ≤ 2000) (d0 : 100 ≤ D) (d1 : D ≤ 1000) (n0 : 100 ≤ N) (n1 : N ≤ 10000) : 1 ≤ tk L D N ∧ tk L D N ≤ 20001 := by
  have h1 := mul_bd (a := L) (b := D) (x := 2000) (y := 1000) (by omega) l1 (by omega) d1
  have h2 : 1 ≤ L * D := by
    have := Int.mul_le_mul l0 (show (1 : Int) ≤ D by omega) (by omega) (by omega)
    omega
  unfold tk
  constructor
  · rw [Int.le_ediv_iff_mul_le (by omega)]; omega
  · have : (L * D + N - 1) / N < 20002 := by
      rw [Int.ediv_lt_iff_lt_mul (by omega)]; omega
    omega

/-- The first number from 'lo' on, of n, with a property. -/
def find (p : Int → Bool) : Nat → Int → Option Int
  | 0, _ => none
  | n + 1, lo => if p lo then some lo else find p n (lo + 1)
theorem find_yes {p : Int → Bool} {n : Nat} {lo : Int} (h : p lo = true) : find p (n + 1) lo = some lo := by simp [find, h]
theorem find_no {p : Int → Bool} {n : Nat} {lo : Int} (h : p lo = false) : find p (n + 1) lo = find p n (lo + 1) := by simp [find, h]
theorem find_congr {p q : Int → Bool} : ∀ (n : Nat) (lo : Int), (∀ t, lo ≤ t → t < lo + n → p t = q t) → find p n lo = find q n lo
  | 0, _, _ => rfl
  | n + 1, lo, h => by
    simp only [find]
    rw [h lo (by omega) (by omega), find_congr n (lo + 1) (fun t a b => h t (by omega) (by omega))]

end Go.Proofs.Ytnipibccbegfoaa
