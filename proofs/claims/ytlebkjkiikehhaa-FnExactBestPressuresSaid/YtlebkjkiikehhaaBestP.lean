/-
  PLAIN LAW: more and more pressure where it saves most. No program in sight.
-/
import Derived.Test.YtlebkjkiikehhaaPlainL
namespace Go.Proofs.Ytlebkjkiikehhaa
open Go.RowKit

/-- A ride with one more of pressure, and with the least. -/
def upP (r : Rd) : Rd := (r.1, r.2.1, r.2.2.1 + 1, r.2.2.2)
def oneP (r : Rd) : Rd := (r.1, r.2.1, 1, r.2.2.2)
def gainP (r : Rd) : Int := tk4 r - tk4 (upP r)
/-- The ride with which one more of pressure saves most, and what it saves. -/
def bestF : List Rd → Nat → Int → Int → Int × Int
  | [], _, b, s => (b, s)
  | r :: rs, i, b, s => if r.2.2.1 = 100 then bestF rs (i + 1) b s else if s < gainP r then bestF rs (i + 1) i (gainP r) else bestF rs (i + 1) b s
def muP (l : List Rd) : Nat := (l.map fun r => (100 - r.2.2.1).toNat).sum
def upAt (l : List Rd) (k : Nat) : List Rd := if h : k < l.length then l.set k (upP l[k]) else l
def presL (l : List Rd) : List Int := l.map fun r => r.2.2.1
def bpF : Nat → List Rd → Int → Option (List Int)
  | 0, _, _ => none
  | k + 1, l, t => if sumT l ≤ t then some (presL l) else if (bestF l 0 (-1) (-1)).1 < 0 then none else bpF k (upAt l (bestF l 0 (-1) (-1)).1.toNat) t
def bpO : Option (List Int) → List Int × Int
  | some ps => (ps, 0)
  | none => ([], 3)
/-- The pressures with which all rides are fast enough, and a code. -/
def bpR (l : List Rd) (t : Int) : List Int × Int :=
  if validL l then if inB t 0 1000000 then bpO (bpF (muP (l.map oneP) + 1) (l.map oneP) t) else ([], 2) else ([], 1)
theorem bestF_step {l : List Rd} {i : Nat} {b s : Int} (h : i < l.length) : bestF (l.drop i) i b s = (if l[i].2.2.1 = 100 then bestF (l.drop (i + 1)) (i + 1) b s else if s < gainP l[i] then bestF (l.drop (i + 1)) (i + 1) i (gainP l[i]) else bestF (l.drop (i + 1)) (i + 1) b s) := by
  rw [drop_at h, bestF]
theorem bestF_full {l : List Rd} {i : Nat} {b s : Int} (h : i < l.length) (h1 : l[i].2.2.1 = 100) : bestF (l.drop i) i b s = bestF (l.drop (i + 1)) (i + 1) b s := by rw [bestF_step h, if_pos h1]
theorem bestF_take {l : List Rd} {i : Nat} {b s : Int} (h : i < l.length) (h1 : l[i].2.2.1 ≠ 100) (h2 : s < gainP l[i]) : bestF (l.drop i) i b s = bestF (l.drop (i + 1)) (i + 1) i (gainP l[i]) := by rw [bestF_step h, if_neg h1, if_pos h2]
theorem bestF_leave {l : List Rd} {i : Nat} {b s : Int} (h : i < l.length) (h1 : l[i].2.2.1 ≠ 100) (h2 : ¬ s < gainP l[i]) : bestF (l.drop i) i b s = bestF (l.drop (i + 1)) (i + 1) b s := by rw [bestF_step h, if_neg h1, if_neg h2]
theorem bestF_end {l : List Rd} {i : Nat} {b s : Int} (h : l.length ≤ i) : bestF (l.drop i) i b s = (b, s) := by rw [List.drop_of_length_le h]; rfl
/-- What is found: a ride that can have more, and what it saves. -/
def GoodB (l : List Rd) (b s : Int) : Prop := b = -1 ∨ ∃ (k : Nat) (h : k < l.length), b = k ∧ l[k].2.2.1 ≠ 100 ∧ s = gainP l[k]
theorem bestF_good (l : List Rd) : ∀ (n i : Nat) (b s : Int), l.length - i ≤ n → GoodB l b s → GoodB l (bestF (l.drop i) i b s).1 (bestF (l.drop i) i b s).2
  | 0, i, b, s, hn, h => by rw [bestF_end (by omega)]; exact h
  | n + 1, i, b, s, hn, h => by
    by_cases hi : i < l.length
    · by_cases h1 : l[i].2.2.1 = 100
      · rw [bestF_full hi h1]; exact bestF_good l n _ _ _ (by omega) h
      · by_cases h2 : s < gainP l[i]
        · rw [bestF_take hi h1 h2]; exact bestF_good l n _ _ _ (by omega) (.inr ⟨i, hi, rfl, h1, rfl⟩)
        · rw [bestF_leave hi h1 h2]; exact bestF_good l n _ _ _ (by omega) h
    · rw [bestF_end (by omega)]; exact h
theorem upAt_eq {l : List Rd} {k : Nat} (h : k < l.length) : upAt l k = l.set k (upP l[k]) := by unfold upAt; rw [dif_pos h]
theorem upAt_len (l : List Rd) (k : Nat) : (upAt l k).length = l.length := by unfold upAt; split <;> simp
theorem sumT_set : ∀ (l : List Rd) (k : Nat) (h : k < l.length) (r : Rd), sumT (l.set k r) = sumT l - tk4 l[k] + tk4 r
  | x :: l, 0, _, r => by simp only [List.set_cons_zero, sumT, List.getElem_cons_zero]; omega
  | x :: l, k + 1, h, r => by
    have h' : k < l.length := by simpa using h
    simp only [List.set_cons_succ, sumT, List.getElem_cons_succ]
    rw [sumT_set l k h' r]; omega
theorem muP_set : ∀ (l : List Rd) (k : Nat) (h : k < l.length) (r : Rd), muP (l.set k r) + (100 - l[k].2.2.1).toNat = muP l + (100 - r.2.2.1).toNat
  | x :: l, 0, _, r => by simp [muP]; omega
  | x :: l, k + 1, h, r => by
    have h' : k < l.length := by simpa using h
    have := muP_set l k h' r
    simp [muP] at this ⊢
    omega
theorem sumT_up {l : List Rd} {k : Nat} (h : k < l.length) : sumT (upAt l k) = sumT l - gainP l[k] := by
  rw [upAt_eq h, sumT_set l k h]; unfold gainP; omega
theorem vr4_up {r : Rd} (h : vr4 r = true) (hp : r.2.2.1 ≠ 100) : vr4 (upP r) = true := by
  have V := vr_true h
  have := V.p0
  have := V.p1
  obtain ⟨L, W, P, B⟩ := r
  simp only at *
  unfold vr4 upP vr
  simp only [vr4, vr, Bool.and_eq_true] at h
  simp only [Bool.and_eq_true]
  exact ⟨⟨⟨h.1.1.1, h.1.1.2⟩, inB_mk (by omega)⟩, h.2⟩
theorem vr4_one {r : Rd} (h : vr4 r = true) : vr4 (oneP r) = true := by
  obtain ⟨L, W, P, B⟩ := r
  unfold vr4 oneP vr
  simp only [vr4, vr, Bool.and_eq_true] at h
  simp only [Bool.and_eq_true]
  exact ⟨⟨⟨h.1.1.1, h.1.1.2⟩, inB_mk (by omega)⟩, h.2⟩
theorem all_up {l : List Rd} {k : Nat} (h : k < l.length) (ha : l.all vr4 = true) (hp : l[k].2.2.1 ≠ 100) : (upAt l k).all vr4 = true := by
  rw [upAt_eq h, List.all_eq_true]
  intro x hx
  rcases List.mem_or_eq_of_mem_set hx with hx | rfl
  · exact List.all_eq_true.1 ha x hx
  · exact vr4_up (all_at ha h) hp
theorem all_one {l : List Rd} (ha : l.all vr4 = true) : (l.map oneP).all vr4 = true := by
  rw [List.all_eq_true]
  intro x hx
  obtain ⟨r, hr, rfl⟩ := List.mem_map.1 hx
  exact vr4_one (List.all_eq_true.1 ha r hr)
theorem muP_up {l : List Rd} {k : Nat} (h : k < l.length) (ha : l.all vr4 = true) (hp : l[k].2.2.1 ≠ 100) : muP (upAt l k) + 1 = muP l := by
  have V := vr_true (show vr l[k].1 l[k].2.1 l[k].2.2.1 l[k].2.2.2 = true from all_at ha h)
  have := V.p1
  have h2 := muP_set l k h (upP l[k])
  rw [upAt_eq h]
  have e : (upP l[k]).2.2.1 = l[k].2.2.1 + 1 := rfl
  rw [e] at h2
  omega
/-- One round of the search. -/
theorem bpF_done {k : Nat} {l : List Rd} {t : Int} (hk : muP l < k) (h : sumT l ≤ t) : bpF k l t = some (presL l) := by
  cases k with
  | zero => omega
  | succ k => rw [bpF, if_pos h]
theorem bpF_none {k : Nat} {l : List Rd} {t b s : Int} (hk : muP l < k) (h : ¬ sumT l ≤ t) (hb : bestF l 0 (-1) (-1) = (b, s)) (h0 : b < 0) : bpF k l t = none := by
  cases k with
  | zero => omega
  | succ k => rw [bpF, if_neg h, hb, if_pos h0]
theorem bpF_next {k : Nat} {l : List Rd} {t s : Int} {j : Nat} (hk : muP l < k) (h : ¬ sumT l ≤ t) (hb : bestF l 0 (-1) (-1) = ((j : Int), s)) : bpF k l t = bpF (k - 1) (upAt l j) t := by
  cases k with
  | zero => omega
  | succ k => rw [bpF, if_neg h, hb, if_neg (by simp only; omega)]; simp
theorem gain_bd {r : Rd} (h : vr4 r = true) (hp : r.2.2.1 ≠ 100) : -20001 ≤ gainP r ∧ gainP r ≤ 20001 := by
  have a := vr4_bd h
  have b := vr4_bd (vr4_up h hp)
  unfold gainP
  omega
theorem sumT_bd : ∀ (l : List Rd), l.all vr4 = true → 0 ≤ sumT l ∧ sumT l ≤ 20001 * l.length
  | [], _ => by simp [sumT]
  | r :: l, h => by
    rw [List.all_cons, Bool.and_eq_true] at h
    have := sumT_bd l h.2
    have := vr4_bd h.1
    simp only [sumT, List.length_cons]
    omega
theorem bpF_len : ∀ (k : Nat) (l : List Rd) (t : Int), (bpO (bpF k l t)).1.length ≤ l.length
  | 0, l, t => by simp [bpF, bpO]
  | k + 1, l, t => by
    rw [bpF]
    split
    · simp [bpO, presL]
    · split
      · simp [bpO]
      · rw [← upAt_len l]; exact bpF_len k _ t
theorem bpR_len (l : List Rd) (t : Int) : (bpR l t).1.length ≤ 8 := by
  unfold bpR
  split
  · rename_i h
    have := (validL_true h).1
    split
    · have := bpF_len (muP (l.map oneP) + 1) (l.map oneP) t
      rw [List.length_map] at this
      omega
    · simp
  · simp
end Go.Proofs.Ytlebkjkiikehhaa
