/-
  CONTRACTS: the ticks of all runs in each tube.
-/
import Derived.Test.YtlebkjkiikehhaaRunV
import Derived.Test.YtlebkjkiikehhaaOwnU
import Derived.Test.YtlebkjkiikehhaaMadeI
namespace Go.Proofs.Ytlebkjkiikehhaa
open Go.RowKit

/-- One way's times are added. -/
def useF (ts : List Int) : List Int → List Int → List Int
  | out, [] => out
  | out, x :: xs => useF ts (out.set x.toNat (out.getD x.toNat 0 + ts.getD x.toNat 0)) xs
def usedF (ts : List Int) : List Int → List Rn → List Int
  | out, [] => out
  | out, r :: rs => usedF ts (useF ts out r.1) rs
theorem useF_len (ts : List Int) : ∀ xs out : List Int, (useF ts out xs).length = out.length
  | [], _ => rfl
  | x :: xs, out => by rw [useF, useF_len ts xs, List.length_set]
theorem usedF_len (ts : List Int) : ∀ (rs : List Rn) (out : List Int), (usedF ts out rs).length = out.length
  | [], _ => rfl
  | r :: rs, out => by rw [usedF, usedF_len ts rs, useF_len]
theorem useF_step {ts out l : List Int} {i : Nat} (h : i < l.length) : useF ts out (l.drop i) = useF ts (out.set l[i].toNat (out.getD l[i].toNat 0 + ts.getD l[i].toNat 0)) (l.drop (i + 1)) := by rw [drop_at' h, useF]
theorem usedF_step {ts out : List Int} {l : List Rn} {i : Nat} (h : i < l.length) : usedF ts out (l.drop i) = usedF ts (useF ts out l[i].1) (l.drop (i + 1)) := by rw [drop_at' h, usedF]
def usedR (ts : List Int) (l : List Rn) : List Int × Int := if runsOk ts l then (usedF ts (List.replicate ts.length 0) l, 0) else ([], 1)
theorem usedR_len {ts : List Int} {l : List Rn} {m : Nat} (hm : m = ts.length) (h : m ≤ 1048576) : (usedR ts l).1.length ≤ 1048576 := by
  unfold usedR
  split
  · show (usedF _ _ _).length ≤ _
    rw [usedF_len, List.length_replicate]
    omega
  · simp
/-- All sums are small. -/
def Sums (out : List Int) (b : Nat) : Prop := ∀ (k : Nat) (h : k < out.length), 0 ≤ out[k] ∧ out[k] ≤ b
theorem Sums.set {out : List Int} {b q : Nat} {z : Int} (h : Sums out b) (hq : q < out.length) (z0 : 0 ≤ z) (z1 : z ≤ 1000) : Sums (out.set q (out[q] + z)) (b + 1000) := fun k hk => by
  have hk' : k < out.length := by simpa using hk
  have h1 := h k hk'
  have h2 := h q hq
  rw [List.getElem_set]
  split <;> omega
theorem Sums.mono {out : List Int} {b c : Nat} (h : Sums out b) (hc : b ≤ c) : Sums out c := fun k hk => by have := h k hk; omega
theorem Sums.zero (n : Nat) : Sums (List.replicate n 0) 0 := fun k hk => by simp

end Go.Proofs.Ytlebkjkiikehhaa
