/-
  PLAIN LAWS of lists of rides.
-/
import Derived.Test.YtlebkjkiikehhaaPlainA
import Derived.Test.YtlebkjkiikehhaaSlice
namespace Go.Proofs.Ytlebkjkiikehhaa
open Go.RowKit

def vr4 (r : Rd) : Bool := vr r.1 r.2.1 r.2.2.1 r.2.2.2
def validL (l : List Rd) : Bool := decide (l.length ≤ 8) && l.all vr4
def dr4 (r : Rd) : Int := drag r.2.1 r.2.2.2
def tk4 (r : Rd) : Int := tk r.1 (drag r.2.1 r.2.2.2) (100 * r.2.2.1)
def sumT : List Rd → Int
  | [] => 0
  | r :: rs => tk4 r + sumT rs
theorem drop_at {α : Type} {l : List α} {i : Nat} (h : i < l.length) : l.drop i = l[i] :: l.drop (i + 1) := List.drop_eq_getElem_cons h
theorem vr4_bd {r : Rd} (h : vr4 r = true) : 1 ≤ tk4 r ∧ tk4 r ≤ 20001 := by
  have V := vr_true h
  have hD := drag_bd V.w0 V.w1 V.b0 V.b1
  have := V.p0; have := V.p1
  exact tk_bd V.l0 V.l1 hD.1 hD.2 (by omega) (by omega)
theorem all_at {l : List Rd} (h : l.all vr4 = true) {i : Nat} (hi : i < l.length) : vr4 l[i] = true := List.all_eq_true.1 h _ (List.getElem_mem hi)
theorem validL_true {l : List Rd} (h : validL l = true) : l.length ≤ 8 ∧ l.all vr4 = true := by
  simp only [validL, Bool.and_eq_true, decide_eq_true_eq] at h
  exact h

def ticksOfWay (l : List Rd) : Int × Int := if validL l then (sumT l, 0) else (0, 1)
/-- The slowest ride: the best so far, the place of the next one, the ones to come. -/
def slow : Rd × Int → Int → List Rd → Int
  | b, _, [] => b.2
  | b, i, r :: rs => slow (if r.2.2.1 * dr4 b.1 < b.1.2.2.1 * dr4 r then (r, i) else b) (i + 1) rs
def slowestRide (l : List Rd) : Int × Int :=
  if validL l then match l with
    | [] => (0, 3)
    | r :: rs => (slow (r, 0) 1 rs, 0)
  else (0, 1)
/-- Where a carrier is: (place, ticks in it). -/
def place : Int → Int → List Rd → Option (Int × Int × Rd)
  | _, _, [] => none
  | i, t, r :: rs => if t < tk4 r then some (i, t, r) else place (i + 1) (t - tk4 r) rs
def placeAfter (l : List Rd) (ticks : Int) : Int × (Int × Int) × Int :=
  if validL l then
    if inB ticks 0 1000000 then
      match place 0 ticks l with
      | none => (0, (0, 0), 3)
      | some (i, t, r) => (i, (100 * r.2.2.1 * t / gcdI (100 * r.2.2.1 * t) (dr4 r), dr4 r / gcdI (100 * r.2.2.1 * t) (dr4 r)), 0)
    else (0, (0, 0), 2)
  else (0, (0, 0), 1)

end Go.Proofs.Ytlebkjkiikehhaa
