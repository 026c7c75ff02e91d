/-
  WHERE TWO SIMPLE WAYS NEED DIFFERENT SETTINGS: the specification's and the program's search agree. No program in sight.
-/
import Derived.Test.YthkfdpicacaphaaSimple2
namespace Go.Proofs.Ythkfdpicacaphaa
open Go.RowKit

/-- The tube that a way needs at a station; -1 if it needs none. -/
def needF (l : List Tb) (s : Int) : List Int → Int
  | [] => -1
  | x :: xs => if frW l x = s then x else needF l s xs
theorem needF_step {l : List Tb} {s : Int} {way : List Int} {i : Nat} (h : i < way.length) : needF l s (way.drop i) = if frW l way[i] = s then way[i] else needF l s (way.drop (i + 1)) := by
  rw [drop_at' h, needF]
/-- The stations are looked at from i on. -/
def scanF (l : List Tb) (a b : List Int) : Nat → Nat → Int
  | 0, _ => -1
  | k + 1, i => if 0 ≤ needF l i a ∧ 0 ≤ needF l i b ∧ needF l i a ≠ needF l i b then (i : Int) else scanF l a b k (i + 1)
/-- One pair of tubes is looked at. -/
def pairF (l : List Tb) (i k m : Int) : Int := if i ≠ k ∧ frW l k = frW l i ∧ (m < 0 ∨ frW l i < m) then frW l i else m
def rowP (l : List Tb) (i : Int) (b : List Int) (m : Int) : Int := b.foldl (fun m k => pairF l i k m) m
def clashF (l : List Tb) (a b : List Int) (m : Int) : Int := a.foldl (fun m i => rowP l i b m) m
theorem rowP_step {l : List Tb} {i m : Int} {b : List Int} {k : Nat} (h : k < b.length) : rowP l i (b.drop k) m = rowP l i (b.drop (k + 1)) (pairF l i b[k] m) := by
  unfold rowP
  rw [drop_at' h, List.foldl_cons]
theorem clashF_step {l : List Tb} {m : Int} {a b : List Int} {i : Nat} (h : i < a.length) : clashF l (a.drop i) b m = clashF l (a.drop (i + 1)) b (rowP l a[i] b m) := by
  unfold clashF
  rw [drop_at' h, List.foldl_cons]

/-- A number is the least of a set, or -1 and the set is empty. -/
def LeastOf (m : Int) (P : Int → Prop) : Prop := (m = -1 ∧ ∀ s, ¬ P s) ∨ (0 ≤ m ∧ P m ∧ ∀ s, P s → m ≤ s)
theorem LeastOf.eq {m k : Int} {P Q : Int → Prop} (h : LeastOf m P) (h' : LeastOf k Q) (e : ∀ s, P s ↔ Q s) : m = k := by
  rcases h with ⟨rfl, h1⟩ | ⟨h0, h1, h2⟩
  · rcases h' with ⟨rfl, _⟩ | ⟨_, h4, _⟩
    · rfl
    · exact absurd ((e _).2 h4) (h1 _)
  · rcases h' with ⟨rfl, h3⟩ | ⟨_, h4, h5⟩
    · exact absurd ((e _).1 h1) (h3 _)
    · have := h5 m ((e _).1 h1)
      have := h2 k ((e _).2 h4)
      omega
theorem LeastOf.pair {l : List Tb} {m i k : Int} {P : Int → Prop} (h : LeastOf m P) (hi : 0 ≤ frW l i) : LeastOf (pairF l i k m) (fun s => P s ∨ (i ≠ k ∧ frW l k = frW l i ∧ s = frW l i)) := by
  unfold pairF
  by_cases hc : i ≠ k ∧ frW l k = frW l i
  · rcases h with ⟨rfl, h1⟩ | ⟨h0, h1, h2⟩
    · rw [if_pos ⟨hc.1, hc.2, .inl (by omega)⟩]
      refine .inr ⟨hi, .inr ⟨hc.1, hc.2, rfl⟩, fun s hs => ?_⟩
      rcases hs with hs | ⟨_, _, rfl⟩
      · exact absurd hs (h1 s)
      · exact Int.le_refl _
    · by_cases hm : frW l i < m
      · rw [if_pos ⟨hc.1, hc.2, .inr hm⟩]
        refine .inr ⟨hi, .inr ⟨hc.1, hc.2, rfl⟩, fun s hs => ?_⟩
        rcases hs with hs | ⟨_, _, rfl⟩
        · have := h2 s hs; omega
        · exact Int.le_refl _
      · rw [if_neg (by intro ⟨_, _, h3⟩; omega)]
        refine .inr ⟨h0, .inl h1, fun s hs => ?_⟩
        rcases hs with hs | ⟨_, _, rfl⟩
        · exact h2 s hs
        · omega
  · rw [if_neg (by intro ⟨h3, h4, _⟩; exact hc ⟨h3, h4⟩)]
    rcases h with ⟨rfl, h1⟩ | ⟨h0, h1, h2⟩
    · refine .inl ⟨rfl, fun s hs => ?_⟩
      rcases hs with hs | ⟨h3, h4, _⟩
      · exact h1 s hs
      · exact hc ⟨h3, h4⟩
    · refine .inr ⟨h0, .inl h1, fun s hs => ?_⟩
      rcases hs with hs | ⟨h3, h4, _⟩
      · exact h2 s hs
      · exact absurd ⟨h3, h4⟩ hc
theorem LeastOf.congr {m : Int} {P Q : Int → Prop} (h : LeastOf m P) (e : ∀ s, P s ↔ Q s) : LeastOf m Q := by
  rcases h with ⟨h0, h1⟩ | ⟨h0, h1, h2⟩
  · exact .inl ⟨h0, fun s hs => h1 s ((e s).2 hs)⟩
  · exact .inr ⟨h0, (e _).1 h1, fun s hs => h2 s ((e s).2 hs)⟩
theorem LeastOf.row {l : List Tb} {i : Int} (hi : 0 ≤ frW l i) : ∀ (b : List Int) (m : Int) (P : Int → Prop), LeastOf m P → LeastOf (rowP l i b m) (fun s => P s ∨ ∃ k ∈ b, i ≠ k ∧ frW l k = frW l i ∧ s = frW l i)
  | [], m, P, h => h.congr fun s => by simp
  | k :: b, m, P, h => by
    show LeastOf (rowP l i b (pairF l i k m)) _
    refine (LeastOf.row hi b _ _ (h.pair (k := k) hi)).congr fun s => ?_
    simp only [List.mem_cons]
    constructor
    · rintro ((h1 | h1) | ⟨x, hx, h2⟩)
      · exact .inl h1
      · exact .inr ⟨k, .inl rfl, h1⟩
      · exact .inr ⟨x, .inr hx, h2⟩
    · rintro (h1 | ⟨x, rfl | hx, h2⟩)
      · exact .inl (.inl h1)
      · exact .inl (.inr h2)
      · exact .inr ⟨x, hx, h2⟩
theorem LeastOf.all {l : List Tb} (b : List Int) : ∀ (a : List Int) (m : Int) (P : Int → Prop), (∀ x ∈ a, 0 ≤ frW l x) → LeastOf m P → LeastOf (clashF l a b m) (fun s => P s ∨ ∃ i ∈ a, ∃ k ∈ b, i ≠ k ∧ frW l k = frW l i ∧ s = frW l i)
  | [], m, P, _, h => h.congr fun s => by simp
  | i :: a, m, P, ha, h => by
    show LeastOf (clashF l a b (rowP l i b m)) _
    refine (LeastOf.all b a _ _ (fun x hx => ha x (List.mem_cons_of_mem _ hx)) (LeastOf.row (ha i List.mem_cons_self) b m P h)).congr fun s => ?_
    simp only [List.mem_cons]
    constructor
    · rintro ((h1 | h1) | ⟨x, hx, h2⟩)
      · exact .inl h1
      · exact .inr ⟨i, .inl rfl, h1⟩
      · exact .inr ⟨x, .inr hx, h2⟩
    · rintro (h1 | ⟨x, rfl | hx, h2⟩)
      · exact .inl (.inl h1)
      · exact .inl (.inr h2)
      · exact .inr ⟨x, hx, h2⟩
theorem needF_cases (l : List Tb) (s : Int) : ∀ (a : List Int), (needF l s a = -1 ∧ ∀ x ∈ a, frW l x ≠ s) ∨ (needF l s a ∈ a ∧ frW l (needF l s a) = s)
  | [] => .inl ⟨rfl, fun x hx => absurd hx (by simp)⟩
  | x :: xs => by
    rw [needF]
    by_cases h : frW l x = s
    · rw [if_pos h]; exact .inr ⟨List.mem_cons_self, h⟩
    · rw [if_neg h]
      rcases needF_cases l s xs with ⟨h1, h2⟩ | ⟨h1, h2⟩
      · refine .inl ⟨h1, fun y hy => ?_⟩
        rcases List.mem_cons.1 hy with rfl | hy
        · exact h
        · exact h2 y hy
      · exact .inr ⟨List.mem_cons_of_mem _ h1, h2⟩
theorem nodF_uniq (l : List Tb) : ∀ (xs seen : List Int), nodF l xs seen = true → (∀ x ∈ xs, hasD seen (frW l x) = false) ∧ ∀ x ∈ xs, ∀ y ∈ xs, frW l x = frW l y → x = y
  | [], _, _ => ⟨fun x hx => absurd hx (by simp), fun x hx => absurd hx (by simp)⟩
  | z :: xs, seen, h => by
    rw [nodF] at h
    simp only [Bool.and_eq_true, Bool.not_eq_true'] at h
    obtain ⟨h1, h2⟩ := nodF_uniq l xs _ h.2
    have h3 : ∀ x ∈ xs, hasD seen (frW l x) = false ∧ frW l z ≠ frW l x := by
      intro x hx
      have := h1 x hx
      rw [hasD_app] at this
      simp only [Bool.or_eq_false_iff, decide_eq_false_iff_not] at this
      exact this
    refine ⟨fun x hx => ?_, fun x hx y hy e => ?_⟩
    · rcases List.mem_cons.1 hx with rfl | hx
      · exact h.1
      · exact (h3 x hx).1
    · rcases List.mem_cons.1 hx with hxz | hx'
      · rcases List.mem_cons.1 hy with hyz | hy'
        · rw [hxz, hyz]
        · rw [hxz] at e; exact absurd e (h3 y hy').2
      · rcases List.mem_cons.1 hy with hyz | hy'
        · rw [hyz] at e; exact absurd e.symm (h3 x hx').2
        · exact h2 x hx' y hy' e
theorem simpF_nod (l : List Tb) : ∀ (xs : List Int) (p : Option Int) (seen : List Int), simpF l xs p seen = true → nodF l xs seen = true
  | [], _, _, _ => rfl
  | x :: xs, p, seen, h => by
    cases p <;> rw [simpF] at h <;> simp only [Bool.and_eq_true] at h <;> rw [nodF, h.1.1.2, simpF_nod l xs _ _ h.2] <;> rfl
theorem out_at' {way : List Int} {n : Int} (h : outB way 0 (n - 1) = false) {x : Int} (hx : x ∈ way) : 0 ≤ x ∧ x < n := by
  obtain ⟨i, hi, rfl⟩ := List.getElem_of_mem hx
  have := outB_at h hi
  omega
/-- What a simple way of a valid network gives of each of its tubes. -/
theorem fr_in {S : Int} {l : List Tb} {way : List Int} (hv : validN S l = true) (ho : outB way 0 ((l.length : Int) - 1) = false) {x : Int} (hx : x ∈ way) : 0 ≤ x ∧ 0 ≤ frW l x ∧ frW l x < S := by
  have h1 := out_at' ho hx
  obtain ⟨q, rfl⟩ : ∃ q : Nat, x = q := ⟨x.toNat, by omega⟩
  have hql : q < l.length := by omega
  have hva := validN_at (validN_true hv).2.2.2 hql
  simp only [validTube, Bool.and_eq_true] at hva
  have := inB_true hva.1.1.1
  rw [frW_eq hql]
  omega
theorem scanF_least {l : List Tb} {a b : List Int} : ∀ (k i : Nat), LeastOf (scanF l a b k i) (fun s => (i : Int) ≤ s ∧ s < (i : Int) + k ∧ 0 ≤ needF l s a ∧ 0 ≤ needF l s b ∧ needF l s a ≠ needF l s b)
  | 0, i => .inl ⟨rfl, fun s hs => by omega⟩
  | k + 1, i => by
    rw [scanF]
    by_cases h : 0 ≤ needF l i a ∧ 0 ≤ needF l i b ∧ needF l i a ≠ needF l i b
    · rw [if_pos h]
      exact .inr ⟨by omega, ⟨by omega, by omega, h⟩, fun s hs => hs.1⟩
    · rw [if_neg h]
      refine (scanF_least k (i + 1)).congr fun s => ?_
      constructor
      · rintro ⟨h1, h2, h3⟩
        exact ⟨by omega, by omega, h3⟩
      · rintro ⟨h1, h2, h3⟩
        by_cases e : s = (i : Int)
        · rw [e] at h3; exact absurd h3 h
        · exact ⟨by omega, by omega, h3⟩
/-- Both searches find the same station. -/
theorem clash_eq {s : Nat} {l : List Tb} {a b : List Int} (hv : validN (s : Int) l = true) (ha : simpW l a = true) (hb : simpW l b = true) (oa : outB a 0 ((l.length : Int) - 1) = false) (ob : outB b 0 ((l.length : Int) - 1) = false) : scanF l a b s 0 = clashF l a b (-1) := by
  have h1 := scanF_least (l := l) (a := a) (b := b) s 0
  have h2 := LeastOf.all (l := l) b a (-1) (fun _ => False) (fun x hx => (fr_in hv oa hx).2.1) (.inl ⟨rfl, fun _ h => h⟩)
  refine h1.eq h2 fun t => ?_
  have ua := (nodF_uniq l a [] (simpF_nod l a _ _ ha)).2
  have ub := (nodF_uniq l b [] (simpF_nod l b _ _ hb)).2
  constructor
  · rintro ⟨-, -, h3, h4, h5⟩
    rcases needF_cases l t a with ⟨e1, _⟩ | ⟨m1, f1⟩
    · omega
    · rcases needF_cases l t b with ⟨e2, _⟩ | ⟨m2, f2⟩
      · omega
      · exact .inr ⟨_, m1, _, m2, h5, by rw [f1, f2], f1.symm⟩
  · rintro (h | ⟨i, hi, k, hk, hne, hfr, rfl⟩)
    · exact h.elim
    · obtain ⟨i0, f0, f1⟩ := fr_in hv oa hi
      obtain ⟨k0, -, -⟩ := fr_in hv ob hk
      have ea : needF l (frW l i) a = i := by
        rcases needF_cases l (frW l i) a with ⟨_, h3⟩ | ⟨m1, e1⟩
        · exact absurd rfl (h3 i hi)
        · exact ua _ m1 _ hi e1
      have eb : needF l (frW l i) b = k := by
        rcases needF_cases l (frW l i) b with ⟨_, h3⟩ | ⟨m1, e1⟩
        · exact absurd hfr (h3 k hk)
        · exact ub _ m1 _ hk (by rw [e1, hfr])
      rw [ea, eb]
      exact ⟨by omega, by omega, i0, k0, hne⟩

end Go.Proofs.Ythkfdpicacaphaa
