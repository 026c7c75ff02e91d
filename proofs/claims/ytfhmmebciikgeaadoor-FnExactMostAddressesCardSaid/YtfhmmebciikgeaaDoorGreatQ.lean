/-
  PLAIN LAW: words as lists of letters; the greatest number of words with a distance.
-/
import Derived.Test.YtfhmmebciikgeaaDoorGreatP
import Derived.Test.YtfhmmebciikgeaaDoorAllP
namespace Go.Proofs.YtfhmmebciikgeaaDoor

theorem farF_symm (s t : ByteArray) : ∀ n k, farF s t n k = farF t s n k
  | 0, _ => rfl
  | n + 1, k => by
    rw [farF, farF, farF_symm s t n (k + 1)]
    congr 1
    by_cases h : (s.data.getD k 0).toNat = (t.data.getD k 0).toNat
    all_goals simp [eq_comm]
/-- Two words differ in so many of the first r places. -/
def farR (r : Nat) (d : Int) (a b : ByteArray) : Bool := decide (d ≤ (farF a b r 0 : Int))
theorem farR_symm (r : Nat) (d : Int) (a b : ByteArray) : farR r d a b = farR r d b a := by unfold farR; rw [farF_symm]
theorem farR_eq {r : Nat} {d : Int} {a b : ByteArray} (h : a.size = r) : farR r d a b = decide (d ≤ (farB a b : Int)) := by unfold farR farB; rw [h]

/-! ### the greatest number under a map -/
theorem alF_map {α β : Type} (far : α → α → Bool) (far' : β → β → Bool) (f : α → β) (h : ∀ a b, far' (f a) (f b) = far a b) : ∀ (k : Nat) (S : List α), alF far' k (S.map f) = alF far k S := by
  intro k
  induction k with
  | zero => intro S; rfl
  | succ k ih =>
    intro S
    cases S with
    | nil => rfl
    | cons x xs =>
      have e : (xs.map f).filter (far' (f x)) = (xs.filter (far x)).map f := by
        rw [List.filter_map]
        congr 1
        apply List.filter_congr
        intro y _
        exact h x y
      simp only [List.map_cons, alF, e, ih]
theorem alL_map {α β : Type} (far : α → α → Bool) (far' : β → β → Bool) (f : α → β) (h : ∀ a b, far' (f a) (f b) = far a b) (S : List α) : alL far' (S.map f) = alL far S := by
  unfold alL
  rw [List.length_map, alF_map far far' f h]

/-! ### words as lists of letters -/
def encL (l : List Nat) : ByteArray := ⟨(l.map fun c => UInt8.ofNat (97 + c)).toArray⟩
def lsL (g : Nat) : Nat → List (List Nat)
  | 0 => [[]]
  | r + 1 => (lsL g r).flatMap fun s => (List.range g).map fun c => s ++ [c]
theorem encL_snoc (l : List Nat) (c : Nat) : encL (l ++ [c]) = encL l ++ lettr c := by
  have h : (encL (l ++ [c])).data = (encL l ++ lettr c).data := by
    rw [ByteArray.data_append]
    simp [encL, lettr]
  exact ByteArray.ext h
theorem sufF_ls (l : List Nat) : ∀ m c, sufF (encL l) m c = ((List.range' c m).map fun c => l ++ [c]).map encL
  | 0, _ => rfl
  | m + 1, c => by rw [sufF, sufF_ls l m (c + 1), List.range'_succ, List.map_cons, List.map_cons, encL_snoc]
theorem nextW_ls (g : Nat) : ∀ ls : List (List Nat), nextW g (ls.map encL) = (ls.flatMap fun s => (List.range g).map fun c => s ++ [c]).map encL
  | [] => rfl
  | l :: ls => by
    rw [List.map_cons, nextW, nextW_ls g ls, List.flatMap_cons, List.map_append, sufF_ls, List.range_eq_range']
theorem allW_ls (g : Nat) : ∀ r, allW g r = (lsL g r).map encL
  | 0 => rfl
  | r + 1 => by rw [allW, allW_ls g r, nextW_ls, lsL]
theorem lsL_mem {g : Nat} : ∀ (r : Nat) (x : List Nat), x ∈ lsL g r ↔ x.length = r ∧ ∀ c ∈ x, c < g
  | 0, x => by simp [lsL]; intro h; subst h; simp
  | r + 1, x => by
    rw [lsL, List.mem_flatMap]
    constructor
    · rintro ⟨s, hs, hx⟩
      obtain ⟨c, hc, rfl⟩ := List.mem_map.1 hx
      obtain ⟨h1, h2⟩ := (lsL_mem r s).1 hs
      refine ⟨by simp [h1], fun y hy => ?_⟩
      rcases List.mem_append.1 hy with hy | hy
      · exact h2 y hy
      · rw [List.mem_singleton] at hy; subst hy; exact List.mem_range.1 hc
    · rintro ⟨h1, h2⟩
      have hne : x ≠ [] := fun e => by subst e; simp at h1
      refine ⟨x.dropLast, (lsL_mem r _).2 ⟨by simp [h1], fun c hc => h2 c (List.dropLast_subset x hc)⟩, List.mem_map.2 ⟨x.getLast hne, List.mem_range.2 (h2 _ (List.getLast_mem hne)), List.dropLast_concat_getLast hne⟩⟩

/-- In how many places two words differ. -/
def difL : List Nat → List Nat → Nat
  | a :: us, b :: vs => (if a = b then 0 else 1) + difL us vs
  | _, _ => 0
/-- A word turned by another one. -/
def turnL (g : Nat) : List Nat → List Nat → List Nat
  | a :: us, b :: vs => (a + (g - b)) % g :: turnL g us vs
  | _, _ => []
theorem turn_inj {g a b c : Nat} (ha : a < g) (hb : b < g) (hc : c < g) (h : (a + (g - c)) % g = (b + (g - c)) % g) : a = b := by
  have e : ∀ x, x < g → (x + (g - c)) % g = if x + (g - c) < g then x + (g - c) else x + (g - c) - g := by
    intro x hx
    by_cases h : x + (g - c) < g
    · rw [if_pos h, Nat.mod_eq_of_lt h]
    · rw [if_neg h, Nat.mod_eq_sub_mod (by omega), Nat.mod_eq_of_lt (by omega)]
  rw [e a ha, e b hb] at h
  split at h <;> split at h <;> omega
theorem turnL_len (g : Nat) : ∀ (x y : List Nat), x.length = y.length → (turnL g x y).length = x.length
  | [], [], _ => rfl
  | a :: us, b :: vs, h => by rw [turnL, List.length_cons, List.length_cons, turnL_len g us vs (by simpa using h)]
theorem turnL_lt {g : Nat} (hg : 0 < g) : ∀ (x y : List Nat), ∀ c ∈ turnL g x y, c < g
  | [], [], c, h => by cases h
  | [], _ :: _, c, h => by cases h
  | _ :: _, [], c, h => by cases h
  | a :: us, b :: vs, c, h => by
    rw [turnL] at h
    rcases List.mem_cons.1 h with h | h
    · rw [h]; exact Nat.mod_lt _ hg
    · exact turnL_lt hg us vs c h
theorem turnL_dif {g : Nat} : ∀ (x x' y : List Nat), (∀ c ∈ x, c < g) → (∀ c ∈ x', c < g) → (∀ c ∈ y, c < g) → x.length = y.length → x'.length = y.length → difL (turnL g x y) (turnL g x' y) = difL x x'
  | [], [], [], _, _, _, _, _ => rfl
  | [], _ :: _, _, _, _, _, l1, l2 => by rw [List.length_nil] at l1; rw [List.length_cons] at l2; omega
  | _ :: _, [], _, _, _, _, l1, l2 => by rw [List.length_nil] at l2; rw [List.length_cons] at l1; omega
  | a :: us, b :: vs, c :: ws, h1, h2, h3, l1, l2 => by
    rw [turnL, turnL, difL, difL, turnL_dif us vs ws (fun x hx => h1 x (List.mem_cons_of_mem _ hx)) (fun x hx => h2 x (List.mem_cons_of_mem _ hx)) (fun x hx => h3 x (List.mem_cons_of_mem _ hx)) (by simpa using l1) (by simpa using l2)]
    congr 1
    by_cases e : a = b
    · subst e; simp
    · have : ¬ (a + (g - c)) % g = (b + (g - c)) % g := fun h => e (turn_inj (h1 a List.mem_cons_self) (h2 b List.mem_cons_self) (h3 c List.mem_cons_self) h)
      rw [if_neg e, if_neg this]
theorem turnL_self {g : Nat} (hg : 0 < g) : ∀ (y : List Nat), (∀ c ∈ y, c < g) → turnL g y y = List.replicate y.length 0
  | [], _ => rfl
  | c :: ws, h => by
    have hc := h c List.mem_cons_self
    rw [turnL, turnL_self hg ws (fun x hx => h x (List.mem_cons_of_mem _ hx)), show c + (g - c) = g by omega, Nat.mod_self, List.length_cons, List.replicate_succ]

theorem encL_size (l : List Nat) : (encL l).size = l.length := by
  show (encL l).data.size = _
  simp [encL]
theorem encL_get {l : List Nat} {k : Nat} (h : k < l.length) : (((encL l)[k]?).getD 0).toNat = (97 + l[k]) % 256 := by
  have hs : k < (encL l).size := by rw [encL_size]; exact h
  have e : (encL l)[k]? = some ((encL l)[k]'hs) := by simp [hs]
  rw [e]
  show ((encL l).data[k]'hs).toNat = _
  simp [encL]
theorem farF_enc {a b : List Nat} (hl : a.length = b.length) (ha : ∀ c ∈ a, c < 100) (hb : ∀ c ∈ b, c < 100) : ∀ n k, k + n = a.length → farF (encL a) (encL b) n k = difL (a.drop k) (b.drop k)
  | 0, k, h => by
    rw [farF, List.drop_of_length_le (by omega)]
    rfl
  | n + 1, k, h => by
    have h1 : k < a.length := by omega
    have h2 : k < b.length := by omega
    have m1 := ha _ (List.getElem_mem h1)
    have m2 := hb _ (List.getElem_mem h2)
    rw [farF, encL_get h1, encL_get h2, farF_enc hl ha hb n (k + 1) (by omega), List.drop_eq_getElem_cons h1, List.drop_eq_getElem_cons h2, difL]
    congr 1
    by_cases e : a[k] = b[k]
    · rw [if_pos (by rw [e]), if_pos e]
    · rw [if_neg (by omega), if_neg e]
theorem lsL_nodup (g : Nat) : ∀ r, (lsL g r).Nodup
  | 0 => by simp [lsL]
  | r + 1 => by
    rw [lsL, List.Nodup, List.pairwise_flatMap]
    refine ⟨fun s _ => ?_, ?_⟩
    · rw [List.pairwise_map]
      refine List.Pairwise.imp ?_ (List.nodup_range (n := g))
      intro a b hab e
      exact hab (by simpa using e)
    · refine List.Pairwise.imp ?_ (lsL_nodup g r)
      intro s t hst x hx y hy e
      obtain ⟨c, -, rfl⟩ := List.mem_map.1 hx
      obtain ⟨c', -, rfl⟩ := List.mem_map.1 hy
      exact hst (List.append_inj_left' e rfl)

theorem difL_symm : ∀ x y : List Nat, difL x y = difL y x
  | [], [] => rfl
  | [], _ :: _ => rfl
  | _ :: _, [] => rfl
  | a :: us, b :: vs => by
    rw [difL, difL, difL_symm us vs]
    congr 1
    by_cases e : a = b
    · rw [if_pos e, if_pos e.symm]
    · rw [if_neg e, if_neg (fun h => e h.symm)]
theorem difL_zero : ∀ x y : List Nat, x.length = y.length → difL x y = 0 → x = y
  | [], [], _, _ => rfl
  | a :: us, b :: vs, h, h0 => by
    rw [difL] at h0
    by_cases e : a = b
    · rw [if_pos e] at h0
      rw [e, difL_zero us vs (by simpa using h) (by omega)]
    · rw [if_neg e] at h0; omega
theorem difL_self : ∀ x : List Nat, difL x x = 0
  | [] => rfl
  | a :: us => by rw [difL, if_pos rfl, difL_self us]
def farL (d : Int) (a b : List Nat) : Bool := decide (d ≤ (difL a b : Int))
theorem farL_symm (d : Int) (a b : List Nat) : farL d a b = farL d b a := by unfold farL; rw [difL_symm]
theorem lsL_head {g : Nat} (hg : 0 < g) : ∀ r, ∃ t, lsL g r = List.replicate r 0 :: t
  | 0 => ⟨[], rfl⟩
  | r + 1 => by
    obtain ⟨t, ht⟩ := lsL_head hg r
    obtain ⟨q, rfl⟩ : ∃ q, g = q + 1 := ⟨g - 1, by omega⟩
    rw [lsL, ht, List.flatMap_cons, List.range_succ_eq_map, List.map_cons, List.cons_append]
    exact ⟨_, by rw [List.replicate_succ']⟩

/-- The greatest number of words with a distance: the first word is in one of the greatest codes. -/
theorem great_lists {g : Nat} (hg : 0 < g) (r : Nat) (d : Int) : IsAl (farL d) (fun a => a ∈ lsL g r) (1 + alL (farL d) ((lsL g r).tail.filter (farL d (List.replicate r 0)))) := by
  obtain ⟨t, ht⟩ := lsL_head hg r
  have hn := lsL_nodup g r
  rw [ht] at hn
  obtain ⟨hz, hnt⟩ := List.nodup_cons.1 hn
  refine IsAl.first (farL_symm d) (z := List.replicate r 0) (by rw [ht]; exact List.mem_cons_self) ?_ ?_
  · intro v hv
    obtain ⟨v1, v2⟩ := (lsL_mem r v).1 hv
    refine ⟨fun x => turnL g x v, ?_, ?_⟩
    · show turnL g v v = _
      rw [turnL_self hg v v2, v1]
    · intro a b ha hb
      obtain ⟨a1, a2⟩ := (lsL_mem r a).1 ha
      obtain ⟨b1, b2⟩ := (lsL_mem r b).1 hb
      have hd := turnL_dif (g := g) a b v a2 b2 v2 (by omega) (by omega)
      refine ⟨(lsL_mem r _).2 ⟨by rw [turnL_len g a v (by omega), a1], turnL_lt hg a v⟩, ?_, fun e => difL_zero a b (by omega) ?_⟩
      · unfold farL
        rw [hd]
      · rw [← hd, show turnL g a v = turnL g b v from e, difL_self]
  · unfold alL
    refine IsAl.congr (alF_isAl (farL d) (farL_symm d) _ _ (Nat.le_refl _) ?_) (fun _ _ _ _ _ => rfl) (fun a => ?_)
    · rw [ht, List.tail_cons]
      exact List.Pairwise.filter _ hnt
    · rw [List.mem_filter, ht, List.tail_cons, List.mem_cons]
      constructor
      · rintro ⟨h1, h2⟩
        exact ⟨.inr h1, fun e => hz (by rw [← e]; exact h1), h2⟩
      · rintro ⟨h1, h2, h3⟩
        rcases h1 with h1 | h1
        · exact absurd h1 h2
        · exact ⟨h1, h3⟩

theorem alF_mapM {α β : Type} (far : α → α → Bool) (far' : β → β → Bool) (f : α → β) : ∀ (k : Nat) (S : List α), (∀ a ∈ S, ∀ b ∈ S, far' (f a) (f b) = far a b) → alF far' k (S.map f) = alF far k S := by
  intro k
  induction k with
  | zero => intro S _; rfl
  | succ k ih =>
    intro S h
    cases S with
    | nil => rfl
    | cons x xs =>
      have e : (xs.map f).filter (far' (f x)) = (xs.filter (far x)).map f := by
        rw [List.filter_map]
        congr 1
        apply List.filter_congr
        intro y hy
        exact h x List.mem_cons_self y (List.mem_cons_of_mem _ hy)
      have h1 := ih xs fun a ha b hb => h a (List.mem_cons_of_mem _ ha) b (List.mem_cons_of_mem _ hb)
      have h2 := ih (xs.filter (far x)) fun a ha b hb => h a (List.mem_cons_of_mem _ (List.mem_filter.1 ha).1) b (List.mem_cons_of_mem _ (List.mem_filter.1 hb).1)
      simp only [List.map_cons, alF, e, h1, h2]
theorem farR_enc {g r : Nat} (hg : g ≤ 4) (d : Int) {a b : List Nat} (ha : a ∈ lsL g r) (hb : b ∈ lsL g r) : farR r d (encL a) (encL b) = farL d a b := by
  obtain ⟨a1, a2⟩ := (lsL_mem r a).1 ha
  obtain ⟨b1, b2⟩ := (lsL_mem r b).1 hb
  unfold farR farL
  rw [farF_enc (a := a) (b := b) (by omega) (fun c hc => by have := a2 c hc; omega) (fun c hc => by have := b2 c hc; omega) r 0 (by omega)]
  simp
/-- What the specification finds. -/
def greatW (g r : Nat) (d : Int) : Nat := 1 + alL (farR r d) ((allW g r).tail.filter (farR r d (encL (List.replicate r 0))))
theorem greatW_isAl {g : Nat} (hg0 : 0 < g) (hg : g ≤ 4) (r : Nat) (d : Int) : IsAl (farL d) (fun a => a ∈ lsL g r) (greatW g r d) := by
  have h := great_lists hg0 r d
  obtain ⟨t, ht⟩ := lsL_head hg0 r
  have hz : List.replicate r 0 ∈ lsL g r := by rw [ht]; exact List.mem_cons_self
  have hs : ∀ a ∈ (lsL g r).tail, a ∈ lsL g r := fun a ha => List.mem_of_mem_tail ha
  have e : (allW g r).tail.filter (farR r d (encL (List.replicate r 0))) = ((lsL g r).tail.filter (farL d (List.replicate r 0))).map encL := by
    rw [allW_ls, ← List.map_tail, List.filter_map]
    congr 1
    apply List.filter_congr
    intro y hy
    exact farR_enc hg d hz (hs y hy)
  have e2 : greatW g r d = 1 + alL (farL d) ((lsL g r).tail.filter (farL d (List.replicate r 0))) := by
    unfold greatW alL
    rw [e, List.length_map, alF_mapM (farL d) (farR r d) encL _ _ fun a ha b hb => farR_enc hg d (hs a (List.mem_filter.1 ha).1) (hs b (List.mem_filter.1 hb).1)]
  rw [e2]
  exact h

end Go.Proofs.YtfhmmebciikgeaaDoor
