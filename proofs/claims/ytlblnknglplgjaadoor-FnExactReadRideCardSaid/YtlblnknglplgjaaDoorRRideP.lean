/-
  PLAIN LAW: the ride that a text spells: two ways to read it are one. No program in sight.
-/
import Derived.Test.YtlblnknglplgjaaDoorReadP
import Derived.Test.YtlblnknglplgjaaDoorSplitP
import Derived.Test.YtlblnknglplgjaaDoorRideT
namespace Go.Proofs.YtlblnknglplgjaaDoor
open Go.RowKit

theorem numS_itoa {l : List UInt8} {n : Int} (h : numS l = some n) : Lib.itoa n = l := by
  unfold numS at h
  split at h
  · cases h
  · split at h
    · split at h
      · rename_i h1
        injection h with h
        rw [← h]
        exact h1
      · cases h
    · cases h
/-- A number with one letter behind it. -/
def unitN (u : UInt8) (t : List UInt8) : Option Int := if t.getLast? = some u then numS t.dropLast else none
def trimN (u : UInt8) (t : List UInt8) : List UInt8 := if t.getLast? = some u then t.dropLast else t
theorem trimN_eq (u : UInt8) (t : List UInt8) : Lib.trimSuffix t [u] = trimN u t := by
  unfold Lib.trimSuffix trimN Lib.hasSuffix
  rcases List.eq_nil_or_concat t with rfl | ⟨a, b, rfl⟩
  · simp
  · have : ([u].isSuffixOf (a ++ [b])) = decide (b = u) := by
      rw [List.isSuffixOf, List.reverse_append]
      simp [List.isPrefixOf]
      by_cases h : u = b
      · subst h; simp
      · have h2 : ¬ b = u := fun e => h e.symm
        simp [h, h2]
    rw [List.concat_eq_append, this]
    by_cases h : b = u
    · subst h; simp
    · simp [h]
theorem unitN_some {u : UInt8} {t : List UInt8} {n : Int} (h : unitN u t = some n) : t = Lib.itoa n ++ [u] ∧ numS (trimN u t) = some n := by
  unfold unitN at h
  unfold trimN
  split at h
  · rename_i h1
    rw [if_pos h1, numS_itoa h]
    rcases List.eq_nil_or_concat t with rfl | ⟨a, b, rfl⟩
    · simp at h1
    · rw [List.concat_eq_append] at h h1 ⊢
      simp at h h1 ⊢
      exact ⟨h1, h⟩
  · cases h
theorem unitN_itoa {u : UInt8} {n m : Int} (h : numS (trimN u (Lib.itoa n ++ [u])) = some m) : unitN u (Lib.itoa n ++ [u]) = some m := by
  unfold trimN at h
  unfold unitN
  simpa using h
abbrev R4 := Int × Int × Int × Int
def ride4 (o0 o1 o2 o3 : Option Int) : Option R4 :=
  match o0, o1, o2, o3 with
  | some a, some b, some c, some d => some (a, b, c, d)
  | _, _, _, _ => none
def keepV (o : Option R4) : Option R4 := match o with
  | some (a, b, c, d) => if vr a b c d then some (a, b, c, d) else none
  | none => none
def keepT (s : ByteArray) (o : Option R4) : Option R4 := match o with
  | some (a, b, c, d) => if rideTx a b c d = s then some (a, b, c, d) else none
  | none => none
/-- The ride that a text spells. -/
def readR (s : ByteArray) : Option R4 := match spl 32 [] s.data.toList with
  | [p0, p1, p2, p3] => keepV (ride4 (unitN 109 p0) (unitN 103 p1) (unitN 112 p2) (unitN 98 p3))
  | _ => none
/-- The other way to read it. -/
def readR2 (s : ByteArray) : Option R4 := match spl 32 [] s.data.toList with
  | [p0, p1, p2, p3] => keepT s (ride4 (numS (trimN 109 p0)) (numS (trimN 103 p1)) (numS (trimN 112 p2)) (numS (trimN 98 p3)))
  | _ => none
theorem spl_no {c : UInt8} : ∀ {x acc rest : List UInt8}, (∀ b ∈ x, b ≠ c) → spl c acc (x ++ c :: rest) = (acc ++ x) :: spl c [] rest
  | [], acc, rest, _ => by simp [spl]
  | b :: x, acc, rest, h => by
    have hb : b ≠ c := h b (by simp)
    rw [List.cons_append, spl, if_neg hb, spl_no (fun y hy => h y (by simp [hy]))]
    simp
theorem spl_no1 {c : UInt8} : ∀ {x acc : List UInt8}, (∀ b ∈ x, b ≠ c) → spl c acc x = [acc ++ x]
  | [], acc, _ => by simp [spl]
  | b :: x, acc, h => by
    have hb : b ≠ c := h b (by simp)
    rw [spl, if_neg hb, spl_no1 (fun y hy => h y (by simp [hy]))]
    simp
theorem spl_ne (c : UInt8) : ∀ (l acc : List UInt8), spl c acc l ≠ []
  | [], acc => by simp [spl]
  | b :: r, acc => by
    rw [spl]
    split
    · simp
    · exact spl_ne c r _
def cat (c : UInt8) : List (List UInt8) → List UInt8
  | [] => []
  | [x] => x
  | x :: y :: r => x ++ c :: cat c (y :: r)
theorem spl_cat (c : UInt8) : ∀ (l acc : List UInt8), cat c (spl c acc l) = acc ++ l
  | [], acc => by simp [spl, cat]
  | b :: r, acc => by
    rw [spl]
    split
    · rename_i h
      subst h
      have h1 := spl_cat b r []
      cases hs : spl b [] r with
      | nil => exact absurd hs (spl_ne b r [])
      | cons y q =>
        rw [hs] at h1
        rw [cat, h1]
        simp
    · rw [spl_cat c r]
      simp
theorem itoa_no {n : Int} {u : UInt8} (hu : u ≠ 32) : ∀ b ∈ Lib.itoa n ++ [u], b ≠ 32 := by
  intro b hb
  rw [List.mem_append, List.mem_singleton] at hb
  rcases hb with hb | rfl
  · unfold Lib.itoa at hb
    split at hb
    · rcases List.mem_cons.1 hb with rfl | hb
      · decide
      · have := decDigits_dig _ b hb
        rintro rfl
        have e : (32 : UInt8).toNat = 32 := by decide
        omega
    · have := decDigits_dig _ b hb
      rintro rfl
      have e : (32 : UInt8).toNat = 32 := by decide
      omega
  · exact hu
theorem rideT_list (a b c d : Int) : (rideT a b c d).data.toList = (Lib.itoa a ++ [109]) ++ 32 :: ((Lib.itoa b ++ [103]) ++ 32 :: ((Lib.itoa c ++ [112]) ++ 32 :: (Lib.itoa d ++ [98]))) := by
  unfold rideT decT
  simp [ByteArray.data_append]
theorem ride4_some {o0 o1 o2 o3 : Option Int} {a b c d : Int} : ride4 o0 o1 o2 o3 = some (a, b, c, d) ↔ o0 = some a ∧ o1 = some b ∧ o2 = some c ∧ o3 = some d := by
  cases o0 <;> cases o1 <;> cases o2 <;> cases o3 <;> simp [ride4]
theorem keepV_some {o : Option R4} {a b c d : Int} : keepV o = some (a, b, c, d) ↔ o = some (a, b, c, d) ∧ vr a b c d = true := by
  cases o with
  | none => simp [keepV]
  | some r =>
    obtain ⟨x, y, z, t⟩ := r
    simp only [keepV]
    split
    · rename_i h
      constructor
      · intro e
        injection e with e
        injection e with e1 e
        injection e with e2 e
        injection e with e3 e4
        subst e1 e2 e3 e4
        exact ⟨rfl, h⟩
      · rintro ⟨e, -⟩
        exact e
    · rename_i h
      constructor
      · intro e; cases e
      · rintro ⟨e, h2⟩
        injection e with e
        injection e with e1 e
        injection e with e2 e
        injection e with e3 e4
        subst e1 e2 e3 e4
        exact absurd h2 h
theorem keepT_some {s : ByteArray} {o : Option R4} {a b c d : Int} : keepT s o = some (a, b, c, d) ↔ o = some (a, b, c, d) ∧ rideTx a b c d = s := by
  cases o with
  | none => simp [keepT]
  | some r =>
    obtain ⟨x, y, z, t⟩ := r
    simp only [keepT]
    split
    · rename_i h
      constructor
      · intro e
        injection e with e
        injection e with e1 e
        injection e with e2 e
        injection e with e3 e4
        subst e1 e2 e3 e4
        exact ⟨rfl, h⟩
      · rintro ⟨e, -⟩
        exact e
    · rename_i h
      constructor
      · intro e; cases e
      · rintro ⟨e, h2⟩
        injection e with e
        injection e with e1 e
        injection e with e2 e
        injection e with e3 e4
        subst e1 e2 e3 e4
        exact absurd h2 h
theorem readR_eq (s : ByteArray) : readR2 s = readR s := by
  unfold readR readR2
  have hcat := spl_cat 32 s.data.toList []
  split
  · rename_i p0 p1 p2 p3 hp
    rw [hp] at hcat
    simp only [cat, List.nil_append] at hcat
    apply Option.ext
    rintro ⟨a, b, c, d⟩
    rw [keepV_some, keepT_some, ride4_some, ride4_some]
    constructor
    · rintro ⟨⟨n0, n1, n2, n3⟩, ht⟩
      have hv : vr a b c d = true := by
        cases hv : vr a b c d with
        | true => rfl
        | false =>
          exfalso
          have h1 : rideTx a b c d = ⟨#[]⟩ := by simp [rideTx, hv]
          rw [h1] at ht
          rw [← ht] at hcat
          simp at hcat
      have h1 : rideTx a b c d = rideT a b c d := by simp [rideTx, hv]
      rw [h1] at ht
      rw [← ht, rideT_list, spl_no (itoa_no (by decide)), spl_no (itoa_no (by decide)), spl_no (itoa_no (by decide)), spl_no1 (itoa_no (by decide))] at hp
      simp only [List.nil_append, List.cons.injEq, and_true] at hp
      obtain ⟨e0, e1, e2, e3⟩ := hp
      rw [← e0] at n0 ⊢
      rw [← e1] at n1 ⊢
      rw [← e2] at n2 ⊢
      rw [← e3] at n3 ⊢
      exact ⟨⟨unitN_itoa n0, unitN_itoa n1, unitN_itoa n2, unitN_itoa n3⟩, hv⟩
    · rintro ⟨⟨u0, u1, u2, u3⟩, hv⟩
      obtain ⟨e0, n0⟩ := unitN_some u0
      obtain ⟨e1, n1⟩ := unitN_some u1
      obtain ⟨e2, n2⟩ := unitN_some u2
      obtain ⟨e3, n3⟩ := unitN_some u3
      refine ⟨⟨n0, n1, n2, n3⟩, ?_⟩
      have h1 : rideTx a b c d = rideT a b c d := by simp [rideTx, hv]
      rw [h1]
      apply ByteArray.ext
      apply Array.toList_inj.1
      rw [rideT_list, ← hcat, e0, e1, e2, e3]
  · rfl

end Go.Proofs.YtlblnknglplgjaaDoor
