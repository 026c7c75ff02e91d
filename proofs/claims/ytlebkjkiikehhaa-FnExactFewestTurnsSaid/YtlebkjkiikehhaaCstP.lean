/-
  THE LEAST COSTS to a station (printed by tools/gen_cost.py). No program in sight.
-/
import Derived.Test.YtlebkjkiikehhaaNetV
namespace Go.Proofs.Ytlebkjkiikehhaa.Cst
open Go.RowKit

/-- The length kept for a station; -1 if there is none. -/
def at_ (o : List Int) (v : Nat) : Int := o.getD v (-1)
/-- One tube is looked at. -/
def relax (o : List Int) (t : Tb) : List Int :=
  if at_ o t.2.1.toNat < 0 then o else if at_ o t.1.toNat < 0 ∨ at_ o t.2.1.toNat + t.2.2 < at_ o t.1.toNat then o.set t.1.toNat (at_ o t.2.1.toNat + t.2.2) else o
/-- One pass, without one tube. -/
def passI (wo : Int) : List Tb → Int → List Int → List Int
  | [], _, o => o
  | t :: ts, k, o => passI wo ts (k + 1) (if k = wo then o else relax o t)
def eff (wo : Int) : List Tb → Int → List Tb
  | [], _ => []
  | t :: ts, k => if k = wo then eff wo ts (k + 1) else t :: eff wo ts (k + 1)
theorem passI_eff (wo : Int) : ∀ (l : List Tb) (k : Int) (o : List Int), passI wo l k o = (eff wo l k).foldl relax o
  | [], _, _ => rfl
  | t :: ts, k, o => by
    rw [passI, eff]
    split
    · rw [passI_eff]
    · rw [passI_eff]; rfl
theorem eff_mem (wo : Int) : ∀ (l : List Tb) (k : Int) (t : Tb), t ∈ eff wo l k → t ∈ l
  | [], _, _, h => h
  | t :: ts, k, u, h => by
    rw [eff] at h
    split at h
    · exact List.mem_cons_of_mem _ (eff_mem wo ts _ u h)
    · rcases List.mem_cons.1 h with rfl | h
      · exact List.mem_cons_self
      · exact List.mem_cons_of_mem _ (eff_mem wo ts _ u h)

structure GoodT (S : Nat) (t : Tb) : Prop where
  f0 : 0 ≤ t.1
  f1 : t.1 < S
  t0 : 0 ≤ t.2.1
  t1 : t.2.1 < S
  g0 : 1 ≤ t.2.2
  g1 : t.2.2 ≤ 102000
def Good (S : Nat) (E : List Tb) : Prop := ∀ t ∈ E, GoodT S t

theorem at_set (o : List Int) (i v : Nat) (x : Int) : at_ (o.set i x) v = if i = v ∧ i < o.length then x else at_ o v := by
  unfold at_
  simp only [List.getD_eq_getElem?_getD, List.getElem?_set]
  by_cases h : i = v
  · subst h
    by_cases h2 : i < o.length
    · simp [h2]
    · simp [h2]
  · simp [h]
theorem relax_len (o : List Int) (t : Tb) : (relax o t).length = o.length := by
  unfold relax
  split
  · rfl
  · split <;> simp
theorem fold_len : ∀ (E : List Tb) (o : List Int), (E.foldl relax o).length = o.length
  | [], _ => rfl
  | t :: E, o => by rw [List.foldl_cons, fold_len E, relax_len]

/-- What is known stays known and does not grow. -/
def Mo (a b : List Int) : Prop := ∀ v, 0 ≤ at_ a v → 0 ≤ at_ b v ∧ at_ b v ≤ at_ a v
theorem Mo.refl (a : List Int) : Mo a a := fun _ h => ⟨h, Int.le_refl _⟩
theorem Mo.trans {a b c : List Int} (h : Mo a b) (k : Mo b c) : Mo a c := fun v hv => by
  have h1 := h v hv
  have h2 := k v h1.1
  exact ⟨h2.1, Int.le_trans h2.2 h1.2⟩
theorem relax_cases (o : List Int) (t : Tb) : relax o t = o ∨ (relax o t = o.set t.1.toNat (at_ o t.2.1.toNat + t.2.2) ∧ 0 ≤ at_ o t.2.1.toNat ∧ (at_ o t.1.toNat < 0 ∨ at_ o t.2.1.toNat + t.2.2 < at_ o t.1.toNat)) := by
  unfold relax
  split
  · exact .inl rfl
  · split
    · exact .inr ⟨rfl, by omega, by assumption⟩
    · exact .inl rfl
theorem relax_mo {S : Nat} {t : Tb} (h : GoodT S t) (o : List Int) : Mo o (relax o t) := by
  rcases relax_cases o t with e | ⟨e, h0, h1⟩
  · rw [e]; exact Mo.refl _
  · rw [e]
    intro v hv
    rw [at_set]
    have := h.g0
    split
    · rename_i hc
      rw [← hc.1] at hv ⊢
      omega
    · exact ⟨hv, Int.le_refl _⟩
theorem relax_get {S : Nat} {t : Tb} (h : GoodT S t) (o : List Int) (ho : o.length = S) (h0 : 0 ≤ at_ o t.2.1.toNat) : 0 ≤ at_ (relax o t) t.1.toNat ∧ at_ (relax o t) t.1.toNat ≤ at_ o t.2.1.toNat + t.2.2 := by
  have := h.f0
  have := h.f1
  have := h.g0
  unfold relax
  rw [if_neg (by omega)]
  split
  · rw [at_set, if_pos ⟨rfl, by omega⟩]; omega
  · omega
theorem fold_mo {S : Nat} : ∀ (E : List Tb) (o : List Int), Good S E → Mo o (E.foldl relax o)
  | [], o, _ => Mo.refl o
  | t :: E, o, h => (relax_mo (h t List.mem_cons_self) o).trans (fold_mo E _ fun u hu => h u (List.mem_cons_of_mem _ hu))
theorem fold_get {S : Nat} : ∀ (E : List Tb) (o : List Int), Good S E → o.length = S → ∀ t ∈ E, 0 ≤ at_ o t.2.1.toNat → 0 ≤ at_ (E.foldl relax o) t.1.toNat ∧ at_ (E.foldl relax o) t.1.toNat ≤ at_ o t.2.1.toNat + t.2.2
  | [], _, _, _, t, ht, _ => absurd ht (by simp)
  | t :: E, o, h, ho, u, hu, h0 => by
    have hE : Good S E := fun u hu => h u (List.mem_cons_of_mem _ hu)
    rcases List.mem_cons.1 hu with rfl | hu
    · have h1 := relax_get (h u List.mem_cons_self) o ho h0
      have h2 := fold_mo E (relax o u) hE _ h1.1
      exact ⟨h2.1, Int.le_trans h2.2 h1.2⟩
    · have h1 := relax_mo (h t List.mem_cons_self) o _ h0
      have h2 := fold_get E (relax o t) hE (by rw [relax_len, ho]) u hu h1.1
      exact ⟨h2.1, by have := h2.2; rw [List.foldl_cons]; omega⟩
theorem fold_org {S : Nat} : ∀ (E : List Tb) (o : List Int), Good S E → ∀ v, at_ (E.foldl relax o) v ≠ at_ o v →
    ∃ t ∈ E, t.1.toNat = v ∧ 0 ≤ at_ (E.foldl relax o) t.2.1.toNat ∧ at_ (E.foldl relax o) t.2.1.toNat + t.2.2 ≤ at_ (E.foldl relax o) v
  | [], _, _, _, h => absurd rfl h
  | t :: E, o, h, v, hv => by
    have hE : Good S E := fun u hu => h u (List.mem_cons_of_mem _ hu)
    rw [List.foldl_cons] at hv ⊢
    by_cases h1 : at_ (E.foldl relax (relax o t)) v = at_ (relax o t) v
    · rcases relax_cases o t with e | ⟨e, h0, _⟩
      · rw [h1, e] at hv; exact absurd rfl hv
      · have hs : at_ (relax o t) v = if t.1.toNat = v ∧ t.1.toNat < o.length then at_ o t.2.1.toNat + t.2.2 else at_ o v := by rw [e, at_set]
        by_cases hc : t.1.toNat = v ∧ t.1.toNat < o.length
        · rw [if_pos hc] at hs
          have h2 := (relax_mo (h t List.mem_cons_self) o).trans (fold_mo E _ hE) _ h0
          exact ⟨t, List.mem_cons_self, hc.1, h2.1, by rw [h1, hs]; omega⟩
        · rw [if_neg hc] at hs
          rw [h1, hs] at hv
          exact absurd rfl hv
    · obtain ⟨u, hu, h2⟩ := fold_org E (relax o t) hE v h1
      exact ⟨u, List.mem_cons_of_mem _ hu, h2⟩
theorem relax_ge {S : Nat} {t : Tb} (h : GoodT S t) (o : List Int) (ho : ∀ v, -1 ≤ at_ o v) : ∀ v, -1 ≤ at_ (relax o t) v := by
  intro v
  rcases relax_cases o t with e | ⟨e, h0, _⟩
  · rw [e]; exact ho v
  · rw [e, at_set]
    have := h.g0
    have := ho v
    split <;> omega
theorem fold_ge {S : Nat} : ∀ (E : List Tb) (o : List Int), Good S E → (∀ v, -1 ≤ at_ o v) → ∀ v, -1 ≤ at_ (E.foldl relax o) v
  | [], _, _, ho => ho
  | t :: E, o, h, ho => fold_ge E _ (fun u hu => h u (List.mem_cons_of_mem _ hu)) (relax_ge (h t List.mem_cons_self) o ho)
theorem relax_le {S : Nat} {t : Tb} (h : GoodT S t) (o : List Int) (B : Int) (ho : ∀ v, at_ o v ≤ B) : ∀ v, at_ (relax o t) v ≤ B + 102000 := by
  intro v
  have := h.g1
  have := ho v
  have := ho t.2.1.toNat
  rcases relax_cases o t with e | ⟨e, h0, _⟩
  · rw [e]; omega
  · rw [e, at_set]
    split <;> omega

/-! ### the passes -/
def itP (E : List Tb) (o : List Int) : Nat → List Int
  | 0 => o
  | k + 1 => E.foldl relax (itP E o k)
def start (S : Nat) (gl : Nat) : List Int := (List.replicate S (-1)).set gl 0
theorem start_len (S gl : Nat) : (start S gl).length = S := by simp [start]
theorem start_at (S gl v : Nat) (h : gl < S) : at_ (start S gl) v = if v = gl then 0 else -1 := by
  unfold start
  rw [at_set]
  by_cases hv : gl = v
  · subst hv; simp [h]
  · rw [if_neg (by simp [hv]), if_neg (fun e => hv e.symm)]
    unfold at_
    simp only [List.getD_eq_getElem?_getD, List.getElem?_replicate]
    split <;> rfl

theorem least {P : Nat → Prop} : ∀ m, P m → ∃ k, P k ∧ ∀ j, P j → k ≤ j := by
  intro m
  induction m using Nat.strongRecOn with
  | ind m ih =>
    intro hm
    by_cases h : ∃ j, j < m ∧ P j
    · obtain ⟨j, hj, hp⟩ := h
      exact ih j hj hp
    · refine ⟨m, hm, fun j hj => ?_⟩
      rcases Nat.lt_or_ge j m with h1 | h1
      · exact absurd ⟨j, h1, hj⟩ h
      · exact h1
theorem countP_lt {p q : Nat → Bool} : ∀ (l : List Nat), (∀ x ∈ l, p x = true → q x = true) → (∃ x ∈ l, q x = true ∧ p x = false) → l.countP p < l.countP q
  | [], _, ⟨x, hx, _⟩ => absurd hx (by simp)
  | y :: l, h, ⟨x, hx, h1, h2⟩ => by
    have hm : l.countP p ≤ l.countP q := List.countP_mono_left fun z hz => h z (List.mem_cons_of_mem _ hz)
    rw [List.countP_cons, List.countP_cons]
    rcases List.mem_cons.1 hx with rfl | hx
    · rw [h1, h2]; simp; omega
    · have := countP_lt l (fun z hz => h z (List.mem_cons_of_mem _ hz)) ⟨x, hx, h1, h2⟩
      have h3 := h y List.mem_cons_self
      cases hp : p y
      · simp; split <;> omega
      · rw [h3 hp]; simp; omega

section
variable {S : Nat} {E : List Tb} {gl : Nat} (hE : Good S E) (ht : gl < S)
include hE ht
omit hE ht in
theorem A_len (k : Nat) : (itP E (start S gl) k).length = S := by
  induction k with
  | zero => exact start_len S gl
  | succ k ih => rw [itP, fold_len, ih]
theorem A_ge (k : Nat) : ∀ v, -1 ≤ at_ (itP E (start S gl) k) v := by
  induction k with
  | zero => intro v; rw [itP, start_at S gl v ht]; split <;> omega
  | succ k ih => exact fold_ge E _ hE ih
omit ht in
theorem A_mo (k j : Nat) : Mo (itP E (start S gl) k) (itP E (start S gl) (k + j)) := by
  induction j with
  | zero => exact Mo.refl _
  | succ j ih => exact ih.trans (fold_mo E _ hE)
theorem A_to (k : Nat) : at_ (itP E (start S gl) k) gl = 0 := by
  have h0 : at_ (itP E (start S gl) 0) gl = 0 := by rw [itP, start_at S gl gl ht, if_pos rfl]
  have := A_mo (gl := gl) hE 0 k gl (by omega)
  rw [Nat.zero_add] at this
  omega

/-- The least length, over all passes. -/
def IsF (S : Nat) (E : List Tb) (gl : Nat) (F : Nat → Int) : Prop := ∀ v, (F v = -1 ∧ ∀ k, at_ (itP E (start S gl) k) v < 0) ∨
  (0 ≤ F v ∧ (∃ k, at_ (itP E (start S gl) k) v = F v ∧ ∀ j, j < k → at_ (itP E (start S gl) j) v ≠ F v) ∧ ∀ k, 0 ≤ at_ (itP E (start S gl) k) v → F v ≤ at_ (itP E (start S gl) k) v)
omit hE ht in
theorem hasF : ∃ F, IsF S E gl F := by
  suffices h : ∀ v, ∃ x : Int, (x = -1 ∧ ∀ k, at_ (itP E (start S gl) k) v < 0) ∨
      (0 ≤ x ∧ (∃ k, at_ (itP E (start S gl) k) v = x ∧ ∀ j, j < k → at_ (itP E (start S gl) j) v ≠ x) ∧ ∀ k, 0 ≤ at_ (itP E (start S gl) k) v → x ≤ at_ (itP E (start S gl) k) v) from ⟨fun v => Classical.choose (h v), fun v => Classical.choose_spec (h v)⟩
  intro v
  by_cases h : ∃ k, 0 ≤ at_ (itP E (start S gl) k) v
  · obtain ⟨k, hk⟩ := h
    obtain ⟨m, ⟨k1, hk1⟩, hm⟩ := least (P := fun m => ∃ k, at_ (itP E (start S gl) k) v = (m : Int)) (at_ (itP E (start S gl) k) v).toNat ⟨k, by omega⟩
    obtain ⟨k2, h2, h3⟩ := least (P := fun k => at_ (itP E (start S gl) k) v = (m : Int)) k1 hk1
    refine ⟨(m : Int), .inr ⟨by omega, ⟨k2, h2, fun j hj e => ?_⟩, fun j hj => ?_⟩⟩
    · have := h3 j e; omega
    · have := hm (at_ (itP E (start S gl) j) v).toNat ⟨j, by omega⟩
      omega
  · exact ⟨-1, .inl ⟨rfl, fun k => by rcases Int.lt_or_le (at_ (itP E (start S gl) k) v) 0 with h1 | h1; exact h1; exact absurd ⟨k, h1⟩ h⟩⟩
variable {F : Nat → Int} (hF : IsF S E gl F)
include hF
theorem F_org (v : Nat) (h0 : 0 ≤ F v) (hv : v ≠ gl) : ∃ t ∈ E, t.1.toNat = v ∧ 0 ≤ F t.2.1.toNat ∧ F t.2.1.toNat + t.2.2 ≤ F v := by
  rcases hF v with h | ⟨_, ⟨k, hk, hm⟩, _⟩
  · omega
  · cases k with
    | zero => rw [itP, start_at S gl v ht, if_neg hv] at hk; omega
    | succ k =>
      have h1 := hm k (by omega)
      rw [← hk] at h1
      obtain ⟨t, hu, h2, h3, h4⟩ := fold_org E (itP E (start S gl) k) hE v (fun e => h1 e.symm)
      refine ⟨t, hu, h2, ?_⟩
      rcases hF t.2.1.toNat with h | ⟨h5, _, h6⟩
      · have := h.2 (k + 1)
        rw [itP] at this
        omega
      · have := h6 (k + 1) (by rw [itP]; exact h3)
        rw [itP] at this hk
        omega
theorem F_keep (k v : Nat) (h : at_ (itP E (start S gl) k) v = F v) : at_ (itP E (start S gl) (k + 1)) v = F v := by
  rcases hF v with h1 | ⟨h1, _, h2⟩
  · have := h1.2 (k + 1)
    have := A_ge hE ht (k + 1) v
    omega
  · have h3 := A_mo (gl := gl) hE k 1 v (by omega)
    have := h2 (k + 1) h3.1
    omega
theorem F_more (k : Nat) (h : ∃ v, v < S ∧ at_ (itP E (start S gl) k) v ≠ F v) : ∃ v, v < S ∧ at_ (itP E (start S gl) k) v ≠ F v ∧ at_ (itP E (start S gl) (k + 1)) v = F v := by
  have hneg : ∀ v, at_ (itP E (start S gl) k) v ≠ F v → 0 ≤ F v := by
    intro v hv
    rcases hF v with h1 | ⟨h1, _⟩
    · have := h1.2 k
      have := A_ge hE ht k v
      omega
    · exact h1
  obtain ⟨v0, hv0, hne0⟩ := h
  obtain ⟨m, ⟨v, hv, hne, hm⟩, hmin⟩ := least (P := fun m => ∃ v, v < S ∧ at_ (itP E (start S gl) k) v ≠ F v ∧ F v = (m : Int)) (F v0).toNat ⟨v0, hv0, hne0, by have := hneg v0 hne0; omega⟩
  have hvt : v ≠ gl := by
    rintro rfl
    rcases hF v with h1 | ⟨h1, _, h2⟩
    · have := h1.2 0
      have := A_to hE ht 0
      omega
    · have := h2 k
      have := A_to hE ht k
      omega
  obtain ⟨t, hu, h2, h3, h4⟩ := F_org hE ht hF v (by omega) hvt
  have hg := hE t hu
  have := hg.g0
  have := hg.t0
  have := hg.t1
  have hs : at_ (itP E (start S gl) k) t.2.1.toNat = F t.2.1.toNat := by
    by_cases e : at_ (itP E (start S gl) k) t.2.1.toNat = F t.2.1.toNat
    · exact e
    · have := hmin (F t.2.1.toNat).toNat ⟨t.2.1.toNat, by omega, e, by omega⟩
      omega
  have h5 := fold_get E (itP E (start S gl) k) hE (A_len k) t hu (by omega)
  rw [h2] at h5
  refine ⟨v, hv, hne, ?_⟩
  rcases hF v with h1 | ⟨h1, _, h6⟩
  · omega
  · have := h6 (k + 1) h5.1
    rw [itP] at this ⊢
    omega
theorem F_count (k : Nat) : (∀ v, v < S → at_ (itP E (start S gl) k) v = F v) ∨ k + 1 ≤ (List.range S).countP fun v => decide (at_ (itP E (start S gl) k) v = F v) := by
  induction k with
  | zero =>
    right
    apply List.countP_pos_iff.2
    refine ⟨gl, by simp [ht], ?_⟩
    have h0 := A_to hE ht 0
    rcases hF gl with h1 | ⟨h1, _, h2⟩
    · have := h1.2 0; omega
    · have := h2 0 (by omega)
      simp
      omega
  | succ k ih =>
    by_cases h : ∃ v, v < S ∧ at_ (itP E (start S gl) k) v ≠ F v
    · right
      rcases ih with h1 | h1
      · obtain ⟨v, hv, hne⟩ := h
        exact absurd (h1 v hv) hne
      · obtain ⟨v, hv, h2, h3⟩ := F_more hE ht hF k h
        have := countP_lt (p := fun v => decide (at_ (itP E (start S gl) k) v = F v)) (q := fun v => decide (at_ (itP E (start S gl) (k + 1)) v = F v)) (List.range S)
          (fun x _ hx => by simp at hx ⊢; exact F_keep hE ht hF k x hx) ⟨v, by simp [hv], by simp [h3], by simp [h2]⟩
        omega
    · left
      intro v hv
      by_cases e : at_ (itP E (start S gl) k) v = F v
      · exact F_keep hE ht hF k v e
      · exact absurd ⟨v, hv, e⟩ h
theorem F_done : ∀ v, v < S → at_ (itP E (start S gl) S) v = F v := by
  rcases F_count hE ht hF S with h | h
  · exact h
  · have h1 : (List.range S).countP (fun v => decide (at_ (itP E (start S gl) S) v = F v)) ≤ (List.range S).length := List.countP_le_length
    rw [List.length_range] at h1
    omega
omit hF
omit hE ht in
theorem ext_at {a b : List Int} (hl : a.length = b.length) (h : ∀ v, v < a.length → at_ a v = at_ b v) : a = b := by
  apply List.ext_getElem hl
  intro i h1 h2
  have := h i h1
  simpa [at_, h1, h2] using this
/-- After as many passes as there are stations, one more changes nothing. -/
theorem A_fix : itP E (start S gl) (S + 1) = itP E (start S gl) S := by
  obtain ⟨F, hF⟩ := hasF (S := S) (E := E) (gl := gl)
  have h := F_done hE ht hF
  apply ext_at
  · rw [A_len, A_len]
  · intro v hv
    rw [A_len] at hv
    rw [h v hv, F_keep hE ht hF S v (h v hv)]
omit hE ht in
theorem it_stay (o : List Int) (k : Nat) (h : itP E o (k + 1) = itP E o k) (j : Nat) : itP E o (k + j) = itP E o k := by
  induction j with
  | zero => rfl
  | succ j ih =>
    rw [← Nat.add_assoc, itP, ih]
    rw [itP] at h
    exact h
/-- A pass that changes nothing is the last one. -/
theorem A_stop (k : Nat) (h : itP E (start S gl) (k + 1) = itP E (start S gl) k) : itP E (start S gl) k = itP E (start S gl) S := by
  rcases Nat.le_total k S with hk | hk
  · have := it_stay _ k h (S - k)
    rw [show k + (S - k) = S by omega] at this
    exact this.symm
  · have := it_stay _ S (A_fix hE ht) (k - S)
    rw [show S + (k - S) = k by omega] at this
    exact this
/-- From a station that reaches the goal a tube leads on along a shortest way. -/
theorem A_next (v : Nat) (hv : v < S) (h0 : 0 ≤ at_ (itP E (start S gl) S) v) (hvt : v ≠ gl) : ∃ t ∈ E, t.1.toNat = v ∧ 0 ≤ at_ (itP E (start S gl) S) t.2.1.toNat ∧ at_ (itP E (start S gl) S) t.2.1.toNat + t.2.2 = at_ (itP E (start S gl) S) v := by
  obtain ⟨F, hF⟩ := hasF (S := S) (E := E) (gl := gl)
  have h := F_done hE ht hF
  rw [h v hv] at h0 ⊢
  obtain ⟨t, hu, h2, h3, h4⟩ := F_org hE ht hF v h0 hvt
  have hg := hE t hu
  have := hg.t0
  have := hg.t1
  have hs := h t.2.1.toNat (by omega)
  refine ⟨t, hu, h2, by rw [hs]; exact h3, ?_⟩
  have h5 := fold_get E (itP E (start S gl) S) hE (A_len S) t hu (by omega)
  have h6 : at_ (List.foldl relax (itP E (start S gl) S) E) t.1.toNat = F v := by
    rw [h2]
    exact F_keep hE ht hF S v (h v hv)
  rw [h6] at h5
  rw [hs] at h5 ⊢
  omega
end

/-- The least lengths to a station without a tube. -/
def distN (S : Int) (l : List Tb) (gl wo : Int) : List Int := itP (eff wo l 0) (start S.toNat gl.toNat) S.toNat
/-- A network whose lengths are costs. -/
def validC (S : Int) (l : List Tb) : Prop := 2 ≤ S ∧ S ≤ 10 ∧ l.length ≤ 24 ∧ Good S.toNat l
theorem validC_true {S : Int} {l : List Tb} (h : validC S l) : 2 ≤ S ∧ S ≤ 10 ∧ l.length ≤ 24 ∧ Good S.toNat l := h
theorem good_eff {S : Int} {l : List Tb} (h : validC S l) (wo : Int) (k : Int) : Good S.toNat (eff wo l k) := fun t ht => h.2.2.2 t (eff_mem wo l k t ht)
theorem good_at {S : Int} {l : List Tb} (h : validC S l) {i : Nat} (hi : i < l.length) : GoodT S.toNat l[i] := h.2.2.2 _ (List.getElem_mem hi)

end Go.Proofs.Ytlebkjkiikehhaa.Cst
