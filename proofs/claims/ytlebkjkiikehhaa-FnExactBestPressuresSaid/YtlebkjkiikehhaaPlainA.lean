/-
  PLAIN LAWS of rides: no program in sight.
-/
import Derived.WalkKit
import Derived.PlainAid
namespace Go.Proofs.Ytlebkjkiikehhaa
open Go.RowKit

/-- A number lies between two others. -/
def inB (n lo hi : Int) : Bool := decide (lo ≤ n ∧ n ≤ hi)
theorem inB_true {n lo hi : Int} (h : inB n lo hi = true) : lo ≤ n ∧ n ≤ hi := of_decide_eq_true h
theorem inB_false {n lo hi : Int} (h : inB n lo hi = false) : ¬ (lo ≤ n ∧ n ≤ hi) := of_decide_eq_false h
theorem inB_mk {n lo hi : Int} (h : lo ≤ n ∧ n ≤ hi) : inB n lo hi = true := decide_eq_true h
theorem inB_no {n lo hi : Int} (h : ¬ (lo ≤ n ∧ n ≤ hi)) : inB n lo hi = false := decide_eq_false h

/-- A ride is valid. -/
def vr (L W P B : Int) : Bool := inB L 1 2000 && inB W 0 500 && inB P 1 100 && inB B 0 40
structure VR (L W P B : Int) : Prop where
  l0 : 1 ≤ L
  l1 : L ≤ 2000
  w0 : 0 ≤ W
  w1 : W ≤ 500
  p0 : 1 ≤ P
  p1 : P ≤ 100
  b0 : 0 ≤ B
  b1 : B ≤ 40
theorem vr_true {L W P B : Int} (h : vr L W P B = true) : VR L W P B := by
  simp only [vr, Bool.and_eq_true] at h
  obtain ⟨⟨⟨h1, h2⟩, h3⟩, h4⟩ := h
  have a := inB_true h1; have b := inB_true h2; have c := inB_true h3; have d := inB_true h4
  exact ⟨a.1, a.2, b.1, b.2, c.1, c.2, d.1, d.2⟩

/-- The denominator of a ride's speed. -/
def drag (W B : Int) : Int := 100 + W + 10 * B
theorem drag_bd {W B : Int} (w0 : 0 ≤ W) (w1 : W ≤ 500) (b0 : 0 ≤ B) (b1 : B ≤ 40) : 100 ≤ drag W B ∧ drag W B ≤ 1000 := by unfold drag; omega

/-- The ticks of a ride, out of its length, its denominator and 100 times its pressure. -/
def tk (L D N : Int) : Int := (L * D + N - 1) / N
theorem mul_bd {a b x y : Int} (h0 : 0 ≤ a) (h1 : a ≤ x) (k0 : 0 ≤ b) (k1 : b ≤ y) : 0 ≤ a * b ∧ a * b ≤ x * y :=
  ⟨Int.mul_nonneg h0 k0, Int.mul_le_mul h1 k1 k0 (by omega)⟩
theorem tk_bd {L D N : Int} (l0 : 1 ≤ L) (l1 : L ≤ 2000) (d0 : 100 ≤ D) (d1 : D ≤ 1000) (n0 : 100 ≤ N) (n1 : N ≤ 10000) : 1 ≤ tk L D N ∧ tk L D N ≤ 20001 := by
  have h1 := mul_bd (a := L) (b := D) (x := 2000) (y := 1000) (by omega) l1 (by omega) d1
  have h2 : 1 ≤ L * D := by
    have := Int.mul_le_mul l0 (show (1 : Int) ≤ D by omega) (by omega) (by omega)
    omega
  unfold tk
  constructor
  · rw [Int.le_ediv_iff_mul_le (by omega)]; omega
  · have : (L * D + N - 1) / N < 20002 := by
      rw [Int.ediv_lt_iff_lt_mul (by omega)]; omega
    omega

/-- The first number from 'lo' on, of n, with a property. -/
def find (p : Int → Bool) : Nat → Int → Option Int
  | 0, _ => none
  | n + 1, lo => if p lo then some lo else find p n (lo + 1)
theorem find_yes {p : Int → Bool} {n : Nat} {lo : Int} (h : p lo = true) : find p (n + 1) lo = some lo := by simp [find, h]
theorem find_no {p : Int → Bool} {n : Nat} {lo : Int} (h : p lo = false) : find p (n + 1) lo = find p n (lo + 1) := by simp [find, h]
theorem find_congr {p q : Int → Bool} : ∀ (n : Nat) (lo : Int), (∀ t, lo ≤ t → t < lo + n → p t = q t) → find p n lo = find q n lo
  | 0, _, _ => rfl
  | n + 1, lo, h => by
    simp only [find]
    rw [h lo (by omega) (by omega), find_congr n (lo + 1) (fun t a b => h t (by omega) (by omega))]

/-- The greatest common divisor of two numbers that are not negative. -/
def gcdI (a b : Int) : Int := (Nat.gcd a.toNat b.toNat : Nat)
theorem gcdI_step {a b : Int} (a0 : 0 ≤ a) (b0 : 0 < b) : gcdI b (a % b) = gcdI a b := by
  unfold gcdI
  have h : (a % b).toNat = a.toNat % b.toNat := by
    obtain ⟨x, rfl⟩ := Int.eq_ofNat_of_zero_le a0
    obtain ⟨y, rfl⟩ := Int.eq_ofNat_of_zero_le (show 0 ≤ b by omega)
    rw [← Int.natCast_emod]; rfl
  rw [h, Nat.gcd_comm b.toNat, ← Nat.gcd_rec, Nat.gcd_comm]
theorem gcdI_zero {a : Int} (a0 : 0 ≤ a) : gcdI a 0 = a := by unfold gcdI; simp; omega
theorem gcdI_pos {a b : Int} (b0 : 0 < b) : 1 ≤ gcdI a b := by
  unfold gcdI
  have := Nat.gcd_pos_of_pos_right a.toNat (show 0 < b.toNat by omega)
  omega
theorem gcdI_le {a b : Int} (b0 : 0 < b) : gcdI a b ≤ b := by
  unfold gcdI
  have := Nat.gcd_le_right a.toNat (show 0 < b.toNat by omega)
  omega

/-! ### what the functions on rides return -/
def ticksOfRide (L W P B : Int) : Int × Int := if vr L W P B then (tk L (drag W B) (100 * P), 0) else (0, 1)
def speedOf (L W P B : Int) : Int × Int × Int := if vr L W P B then (100 * P / gcdI (100 * P) (drag W B), drag W B / gcdI (100 * P) (drag W B), 0) else (0, 0, 1)
/-- The second ride has come as far as the first one at tick t. -/
def caught (P D P' D' later t : Int) : Bool := decide (P * t * D' ≤ P' * (t - later) * D)
/-- A number that was found; otherwise 'not found'. -/
def found : Option Int → Int × Int
  | some p => (p, 0)
  | none => (0, 3)
def catchUp (L W P B L' W' P' B' later : Int) : Int × Int :=
  if vr L W P B && vr L' W' P' B' then
    if inB later 0 10000 then
      if L = L' then
        found (find (caught P (drag W B) P' (drag W' B') later) (tk L (drag W B) (100 * P) - later).toNat later)
      else (0, 8)
    else (0, 2)
  else (0, 1)
/-- The code of a ride and a number of ticks. -/
def goal (L W P B ticks : Int) : Int := if vr L W P B then if inB ticks 0 1000000 then 0 else 2 else 1
def pressureFor (L W P B ticks : Int) : Int × Int :=
  if goal L W P B ticks = 0 then
    found (find (fun p => decide (tk L (drag W B) (100 * p) ≤ ticks)) 100 1)
  else (0, goal L W P B ticks)
def found' : Option Int → Int × Int
  | some p => (-p, 0)
  | none => (0, 3)
def heaviestFor (L W P B ticks : Int) : Int × Int :=
  if goal L W P B ticks = 0 then
    found' (find (fun k => decide (tk L (drag (-k) B) (100 * P) ≤ ticks)) 501 (-500))
  else (0, goal L W P B ticks)

theorem caught_eq (P D P' D' later t : Int) : decide (t * (100 * P) * D' ≤ (t - later) * (100 * P') * D) = caught P D P' D' later t := by
  have h1 : t * (100 * P) * D' = 100 * (P * t * D') := by ac_rfl
  have h2 : (t - later) * (100 * P') * D = 100 * (P' * (t - later) * D) := by ac_rfl
  unfold caught
  rw [h1, h2]
  apply decide_eq_decide.2
  omega

end Go.Proofs.Ytlebkjkiikehhaa
