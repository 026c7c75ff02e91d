/-
  PLAIN LAW: the number with a decimal form; two ways to read it are one.
-/
import Derived.Test.YtlblnknglplgjaaDoorDec
import Derived.Lib.ParseIntBTie
import Derived.Lib.AtoiTie
import Derived.Lib.Strings
namespace Go.Proofs.YtlblnknglplgjaaDoor
open Go.RowKit

/-- What stands behind a sign. -/
def strip (l : List UInt8) : List UInt8 := if l.head? = some 45 then l.tail else l
def sgn (l : List UInt8) (m : Nat) : Int := if l.head? = some 45 then -(m : Int) else m
/-- The number with a decimal form of at most 18 digits. -/
def numS (l : List UInt8) : Option Int :=
  if (strip l).length < 1 ∨ 18 < (strip l).length then none
  else match Lib.decNat (strip l) with
    | some m => if Lib.itoa (sgn l m) = l then some (sgn l m) else none
    | none => none
def resO : Option Int → Int × Bool
  | some n => (n, true)
  | none => (0, false)
def readD (s : ByteArray) : Int × Bool := resO (numS s.data.toList)
theorem decDigits_dig : ∀ (u : Nat) (b : UInt8), b ∈ Lib.decDigits u → 48 ≤ b.toNat ∧ b.toNat ≤ 57 := by
  intro u
  induction u using Nat.strongRecOn with
  | _ u ih =>
    intro b hb
    rw [Lib.decDigits] at hb
    split at hb
    · rename_i h
      rw [List.mem_singleton] at hb
      subst hb
      have : (UInt8.ofNat (48 + u)).toNat = 48 + u := by simp; omega
      omega
    · rename_i h
      rw [List.mem_append, List.mem_singleton] at hb
      rcases hb with hb | rfl
      · exact ih (u / 10) (by omega) b hb
      · have : (UInt8.ofNat (48 + u % 10)).toNat = 48 + u % 10 := by simp; omega
        omega
theorem itoa_no_plus (n : Int) (r : List UInt8) : Lib.itoa n ≠ 43 :: r := by
  intro h
  unfold Lib.itoa at h
  split at h
  · injection h with h1 _
    exact absurd h1 (by decide)
  · have := decDigits_dig n.toNat 43 (by rw [h]; simp)
    have e : (43 : UInt8).toNat = 43 := by decide
    omega
/-- The other way to read it. -/
def numP (l : List UInt8) : Option Int :=
  if 18 < (strip l).length then none
  else match Lib.parseIntB 64 l with
    | .ok v => if Lib.itoa v = l then some v else none
    | _ => none
theorem trimP (l : List UInt8) : Lib.trimPrefix l [45] = strip l := by
  unfold Lib.trimPrefix strip Lib.hasPrefix
  cases l with
  | nil => rfl
  | cons b r =>
    simp only [List.isPrefixOf, List.head?_cons, Option.some.injEq]
    by_cases h : b = 45
    · subst h; simp
    · have h2 : ¬ 45 = b := fun e => h e.symm
      simp [h, h2]
theorem u8_eq {b : UInt8} {n : Nat} (hn : n < 256) (h : b.toNat = n) : b = UInt8.ofNat n := by
  apply UInt8.toNat_inj.1
  simp [h]
  omega
theorem decNat_plus (r : List UInt8) : Lib.decNat (43 :: r) = none := by
  unfold Lib.decNat Lib.decFrom
  have : Lib.digitVal 43 = none := by decide
  simp [this]
theorem numP_eq (l : List UInt8) : numP l = numS l := by
  unfold numP numS
  cases l with
  | nil => simp [strip, Lib.parseIntB]
  | cons b r =>
    by_cases h18 : 18 < (strip (b :: r)).length
    · rw [if_pos h18, if_pos (.inr h18)]
    · rw [if_neg h18, Lib.parseIntB_64]
      have h18' : (strip (b :: r)).length ≤ 18 := by omega
      by_cases h45 : b = 45
      · subst h45
        have e1 : strip (45 :: r) = r := by simp [strip]
        have e2 : ∀ m, sgn (45 :: r) m = -(m : Int) := fun m => by simp [sgn]
        rw [e1] at h18' ⊢
        have e3 : (45 : UInt8).toNat = 45 := by decide
        simp only [Lib.atoiAll, e3, e2]
        rw [if_pos (.inr trivial), Lib.parseMag_short r h18']
        cases hd : Lib.decNat r with
        | none =>
          simp only [Lib.NumEnd.ofOption]
          split <;> rfl
        | some m =>
          have hm := Lib.decNat_small h18' hd
          have hr : ¬ (r.length < 1 ∨ 18 < r.length) := by
            rintro (h | h)
            · have : r = [] := List.eq_nil_of_length_eq_zero (by omega)
              subst this
              simp [Lib.decNat] at hd
            · omega
          rw [if_neg hr]
          have h1 : ¬ (9223372036854775808 < m) := by omega
          simp [Lib.NumEnd.ofOption, h1]
      · by_cases h43 : b = 43
        · subst h43
          have e1 : strip (43 :: r) = 43 :: r := by simp [strip]
          rw [e1, decNat_plus]
          have : ∀ v : Int, ¬ Lib.itoa v = 43 :: r := fun v => itoa_no_plus v r
          split
          · rename_i v hv
            rw [if_neg (this v)]
            split <;> rfl
          · split <;> rfl
        · have e1 : strip (b :: r) = b :: r := by simp [strip, h45]
          have e2 : ∀ m, sgn (b :: r) m = (m : Int) := fun m => by simp [sgn, h45]
          rw [e1] at h18' ⊢
          have e45 : ¬ b.toNat = 45 := fun h => h45 (u8_eq (n := 45) (by omega) h)
          have e43 : ¬ b.toNat = 43 := fun h => h43 (u8_eq (n := 43) (by omega) h)
          simp only [Lib.atoiAll, e2]
          rw [if_neg (by rintro (h | h); exact e43 h; exact e45 h), Lib.parseMag_short (b :: r) h18']
          have hr : ¬ ((b :: r).length < 1 ∨ 18 < (b :: r).length) := by
            rintro (h | h)
            · simp at h
            · omega
          rw [if_neg hr]
          cases hd : Lib.decNat (b :: r) with
          | none => simp only [Lib.NumEnd.ofOption]
          | some m =>
            have hm := Lib.decNat_small h18' hd
            have h1 : ¬ (9223372036854775808 ≤ m) := by omega
            simp [Lib.NumEnd.ofOption, h1, e45]
theorem decFrom_bound : ∀ (l : List UInt8) (a m : Nat), Lib.decFrom a l = some m → a ≤ m
  | [], a, m, h => by simp [Lib.decFrom] at h; omega
  | b :: r, a, m, h => by
    rw [Lib.decFrom] at h
    split at h
    · have := decFrom_bound r _ m h
      omega
    · cases h

end Go.Proofs.YtlblnknglplgjaaDoor
