/-
  THE FIRST SHORTEST WAY: what the next tube is, and that there is one. No program in sight.
-/
import Derived.Test.YtliamhhmjnhgcaaShort
import Derived.Test.YtliamhhmjnhgcaaTubesFrom2
namespace Go.Proofs.Ytliamhhmjnhgcaa
open Go.RowKit

theorem eff_none {wo : Int} : ∀ (l : List Tb) (k : Int), wo < k → eff wo l k = l
  | [], _, _ => rfl
  | t :: ts, k, h => by rw [eff, if_neg (by omega), eff_none ts (k + 1) (by omega)]
/-- A tube leads on along a shortest way. -/
def leads (D : List Int) (a : Nat) (t : Tb) : Prop := t.1 = (a : Int) ∧ 0 ≤ at_ D t.2.1.toNat ∧ at_ D t.2.1.toNat + t.2.2 = at_ D a
instance (D : List Int) (a : Nat) (t : Tb) : Decidable (leads D a t) := by unfold leads; infer_instance
/-- The first tube that leads on, from k on. -/
def stepF (D : List Int) (a : Nat) : List Tb → Nat → Option Nat
  | [], _ => none
  | t :: ts, k => if leads D a t then some k else stepF D a ts (k + 1)
theorem stepF_step {D : List Int} {a i : Nat} {l : List Tb} (h : i < l.length) : stepF D a (l.drop i) i = if leads D a l[i] then some i else stepF D a (l.drop (i + 1)) (i + 1) := by
  rw [drop_at' h, stepF]
theorem stepF_some (D : List Int) (a : Nat) : ∀ (l : List Tb) (k : Nat), (∃ t ∈ l, leads D a t) → ∃ j, stepF D a l k = some (k + j) ∧ ∃ h : j < l.length, leads D a l[j]
  | [], _, ⟨t, ht, _⟩ => absurd ht (by simp)
  | t :: ts, k, h => by
    rw [stepF]
    by_cases hl : leads D a t
    · exact ⟨0, by rw [if_pos hl]; rfl, by simp, hl⟩
    · rw [if_neg hl]
      obtain ⟨j, h1, h2, h3⟩ := stepF_some D a ts (k + 1) (by
        obtain ⟨u, hu, hlu⟩ := h
        rcases List.mem_cons.1 hu with rfl | hu
        · exact absurd hlu hl
        · exact ⟨u, hu, hlu⟩)
      exact ⟨j + 1, by rw [h1]; congr 1; omega, by simpa using h2, h3⟩
/-- The way on from a station, as long as some fuel lasts. -/
def wayF (l : List Tb) (D : List Int) (gl : Nat) : Nat → Nat → List Int
  | 0, _ => []
  | k + 1, a => if a = gl then [] else match stepF D a l 0 with
    | none => []
    | some j => (j : Int) :: wayF l D gl k (l.getD j (0, 0, 0)).2.1.toNat
/-- The fuel: the length that is left. -/
def fuelD (D : List Int) (a : Nat) : Nat := (at_ D a).toNat + 1
theorem wayF_more (l : List Tb) (D : List Int) (gl : Nat) (S : Nat) (hg : Good S l) : ∀ (k m a : Nat), fuelD D a ≤ k → wayF l D gl (k + m) a = wayF l D gl k a
  | 0, m, a, h => by unfold fuelD at h; omega
  | k + 1, m, a, h => by
    rw [show k + 1 + m = (k + m) + 1 by omega, wayF, wayF]
    by_cases ha : a = gl
    · rw [if_pos ha, if_pos ha]
    · rw [if_neg ha, if_neg ha]
      by_cases he : ∃ t ∈ l, leads D a t
      · obtain ⟨j, h1, h2, h3⟩ := stepF_some D a l 0 he
        rw [h1, Nat.zero_add]
        have hj : l.getD j (0, 0, 0) = l[j] := by simp [h2]
        have hgj := hg l[j] (List.getElem_mem h2)
        have h4 := h3.2.1
        have h5 := h3.2.2
        have := hgj.g0
        simp only
        rw [hj, wayF_more l D gl S hg k m _ (by unfold fuelD at h ⊢; omega)]
      · have h1 : stepF D a l 0 = none := by
          have : ∀ (l : List Tb) (k : Nat), (∀ t ∈ l, ¬ leads D a t) → stepF D a l k = none := by
            intro l
            induction l with
            | nil => intro _ _; rfl
            | cons t ts ih => intro k h; rw [stepF, if_neg (h t List.mem_cons_self), ih _ fun u hu => h u (List.mem_cons_of_mem _ hu)]
          exact this l 0 fun t ht hl => he ⟨t, ht, hl⟩
        rw [h1]
def wayD (l : List Tb) (D : List Int) (gl a : Nat) : List Int := wayF l D gl (fuelD D a) a
theorem wayD_goal (l : List Tb) (D : List Int) (gl : Nat) : wayD l D gl gl = [] := by
  unfold wayD fuelD
  rw [wayF, if_pos rfl]
/-- One step along the way: the next tube. -/
theorem wayD_step {l : List Tb} {D : List Int} {gl S a j : Nat} (hg : Good S l) (ha : a ≠ gl) (hj : stepF D a l 0 = some j) (hjl : j < l.length) (hl : leads D a l[j]) : wayD l D gl a = (j : Int) :: wayD l D gl l[j].2.1.toNat := by
  unfold wayD
  have hgj := hg l[j] (List.getElem_mem hjl)
  have h4 := hl.2.1
  have h5 := hl.2.2
  have := hgj.g0
  have hf : fuelD D a = (at_ D a).toNat + 1 := rfl
  rw [hf, wayF, if_neg ha, hj]
  have hjj : l.getD j (0, 0, 0) = l[j] := by simp [hjl]
  simp only
  rw [hjj]
  have hle : fuelD D l[j].2.1.toNat ≤ (at_ D a).toNat := by unfold fuelD; omega
  have hw := wayF_more l D gl S hg (fuelD D l[j].2.1.toNat) ((at_ D a).toNat - fuelD D l[j].2.1.toNat) _ (Nat.le_refl _)
  rw [show fuelD D l[j].2.1.toNat + ((at_ D a).toNat - fuelD D l[j].2.1.toNat) = (at_ D a).toNat by omega] at hw
  rw [hw]
/-- From a station that reaches the goal there is a next tube. -/
theorem next_ex {s : Nat} {l : List Tb} {gl a : Nat} (hv : validN (s : Int) l = true) (hgl : gl < s) (has : a < s) (h0 : 0 ≤ at_ (distN s l gl (-1)) a) (ha : a ≠ gl) : ∃ j, stepF (distN s l gl (-1)) a l 0 = some j ∧ ∃ h : j < l.length, leads (distN s l gl (-1)) a l[j] := by
  have hE : eff (-1) l 0 = l := eff_none l 0 (by omega)
  have hg : Good s l := by have := good_eff hv (-1) 0; rw [hE, Int.toNat_natCast] at this; exact this
  have hd : distN s l gl (-1) = itP l (start s gl) s := by unfold distN; rw [hE, Int.toNat_natCast, Int.toNat_natCast]
  rw [hd] at h0 ⊢
  obtain ⟨t, ht, h1, h2, h3⟩ := A_next hg hgl a has h0 ha
  have hgt := (hg t ht).f0
  obtain ⟨j, h4, h5, h6⟩ := stepF_some (itP l (start s gl) s) a l 0 ⟨t, ht, by omega, h2, h3⟩
  exact ⟨j, by rw [h4, Nat.zero_add], h5, h6⟩
theorem good_l {s : Nat} {l : List Tb} (hv : validN (s : Int) l = true) : Good s l := by
  have := good_eff hv (-1) 0
  rw [eff_none l 0 (by omega), Int.toNat_natCast] at this
  exact this
theorem wayF_len (l : List Tb) (D : List Int) (gl : Nat) : ∀ k a, (wayF l D gl k a).length ≤ k
  | 0, _ => Nat.le_refl _
  | k + 1, a => by
    rw [wayF]
    split
    · simp
    · split
      · simp
      · have := wayF_len l D gl k
        simp only [List.length_cons]
        exact Nat.succ_le_succ (this _)
/-- A bound on all lengths. -/
theorem dist_le {s : Nat} {l : List Tb} {gl : Nat} (hv : validN (s : Int) l = true) (hgl : gl < s) (v : Nat) : at_ (distN s l gl (-1)) v ≤ 480000 := by
  have hE : eff (-1) l 0 = l := eff_none l 0 (by omega)
  have hd : distN s l gl (-1) = itP l (start s gl) s := by unfold distN; rw [hE, Int.toNat_natCast, Int.toNat_natCast]
  obtain ⟨v0, v1, v2, -⟩ := validN_true hv
  have hg := good_l hv
  have hfold : ∀ (E : List Tb) (o : List Int) (B : Int), Good s E → (∀ v, at_ o v ≤ B) → 0 ≤ B → ∀ v, at_ (E.foldl relax o) v ≤ B + 2000 * (E.length : Int) := by
    intro E
    induction E with
    | nil => intro o B _ h _ v; simpa using h v
    | cons t E ih =>
      intro o B hE h hB v
      have h1 := relax_le (hE t List.mem_cons_self) o B h
      have h2 := ih (relax o t) (B + 2000) (fun u hu => hE u (List.mem_cons_of_mem _ hu)) h1 (by omega) v
      simp only [List.foldl_cons, List.length_cons]
      omega
  have hit : ∀ k : Nat, ∀ v, at_ (itP l (start s gl) k) v ≤ 48000 * (k : Int) := by
    intro k
    induction k with
    | zero => intro v; have := start_le s gl hgl v; simpa [itP] using this
    | succ k ih =>
      intro v
      have := hfold l _ _ hg ih (by omega) v
      rw [itP]
      omega
  rw [hd]
  have := hit s v
  omega

end Go.Proofs.Ytliamhhmjnhgcaa
