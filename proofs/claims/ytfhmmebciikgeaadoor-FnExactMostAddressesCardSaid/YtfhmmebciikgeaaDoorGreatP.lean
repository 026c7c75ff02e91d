/-
  PLAIN LAW: the greatest number of things of which each two are far from one another. No program in sight.
-/
import Derived.Test.YtfhmmebciikgeaaDoorBase
namespace Go.Proofs.YtfhmmebciikgeaaDoor
open Go.RowKit

/-- Each two different things of a list are far from one another. -/
def Ind {α : Type} (far : α → α → Bool) (T : List α) : Prop := ∀ a, a ∈ T → ∀ b, b ∈ T → a ≠ b → far a b = true
/-- m is the greatest number of things of P of which each two are far from one another. -/
def IsAl {α : Type} (far : α → α → Bool) (P : α → Prop) (m : Nat) : Prop :=
  (∃ T : List α, T.Nodup ∧ (∀ a ∈ T, P a) ∧ Ind far T ∧ T.length = m) ∧ ∀ T : List α, T.Nodup → (∀ a ∈ T, P a) → Ind far T → T.length ≤ m
theorem IsAl.unique {α : Type} {far : α → α → Bool} {P : α → Prop} {m k : Nat} (h : IsAl far P m) (h' : IsAl far P k) : m = k := by
  obtain ⟨⟨T, t1, t2, t3, t4⟩, hu⟩ := h
  obtain ⟨⟨U, u1, u2, u3, u4⟩, hv⟩ := h'
  have a := hu U u1 u2 u3
  have b := hv T t1 t2 t3
  omega
theorem IsAl.congr {α : Type} {far far' : α → α → Bool} {P Q : α → Prop} {m : Nat} (h : IsAl far P m) (hf : ∀ a b, P a → P b → a ≠ b → far a b = far' a b) (hp : ∀ a, P a ↔ Q a) : IsAl far' Q m := by
  obtain ⟨⟨T, t1, t2, t3, t4⟩, hu⟩ := h
  refine ⟨⟨T, t1, fun a ha => (hp a).1 (t2 a ha), fun a ha b hb hn => ?_, t4⟩, fun U u1 u2 u3 => hu U u1 (fun a ha => (hp a).2 (u2 a ha)) (fun a ha b hb hn => ?_)⟩
  · rw [← hf a b (t2 a ha) (t2 b hb) hn]; exact t3 a ha b hb hn
  · rw [hf a b ((hp a).2 (u2 a ha)) ((hp b).2 (u2 b hb)) hn]; exact u3 a ha b hb hn
theorem Ind.sub {α : Type} {far : α → α → Bool} {T U : List α} (h : Ind far T) (hs : ∀ a ∈ U, a ∈ T) : Ind far U := fun a ha b hb hn => h a (hs a ha) b (hs b hb) hn

theorem nodup_map {α β : Type} {f : α → β} : ∀ {l : List α}, l.Nodup → (∀ a ∈ l, ∀ b ∈ l, f a = f b → a = b) → (l.map f).Nodup
  | [], _, _ => by simp
  | x :: l, h, hf => by
    rw [List.nodup_cons] at h
    rw [List.map_cons, List.nodup_cons]
    refine ⟨fun hx => ?_, nodup_map h.2 fun a ha b hb => hf a (List.mem_cons_of_mem _ ha) b (List.mem_cons_of_mem _ hb)⟩
    obtain ⟨a, ha, e⟩ := List.mem_map.1 hx
    exact h.1 ((hf a (List.mem_cons_of_mem _ ha) x List.mem_cons_self e) ▸ ha)
/-- The specification's search: one of the things that are left is taken, or left out. -/
def alF {α : Type} (far : α → α → Bool) : Nat → List α → Nat
  | 0, _ => 0
  | _ + 1, [] => 0
  | k + 1, x :: xs => max (1 + alF far k (xs.filter (far x))) (alF far k xs)
theorem alF_isAl {α : Type} (far : α → α → Bool) (hs : ∀ a b, far a b = far b a) : ∀ (k : Nat) (S : List α), S.length ≤ k → S.Nodup → IsAl far (fun a => a ∈ S) (alF far k S) := by
  classical
  intro k
  induction k with
  | zero =>
    intro S h _
    have : S = [] := List.eq_nil_of_length_eq_zero (by omega)
    subst this
    exact ⟨⟨[], by simp, by simp, fun a h => absurd h (by simp), rfl⟩, fun T _ h2 _ => by
      cases T with
      | nil => simp [alF]
      | cons a T => exact absurd (h2 a (by simp)) (by simp)⟩
  | succ k ih =>
    intro S h hn
    cases S with
    | nil =>
      exact ⟨⟨[], by simp, by simp, fun a h => absurd h (by simp), rfl⟩, fun T _ h2 _ => by
        cases T with
        | nil => simp [alF]
        | cons a T => exact absurd (h2 a (by simp)) (by simp)⟩
    | cons x xs =>
      rw [List.nodup_cons] at hn
      have hl : xs.length ≤ k := by simpa using h
      have hf : (xs.filter (far x)).length ≤ k := Nat.le_trans (List.length_filter_le _ _) hl
      obtain ⟨⟨T, t1, t2, t3, t4⟩, tu⟩ := ih _ hf (hn.2.filter _)
      obtain ⟨⟨U, u1, u2, u3, u4⟩, uu⟩ := ih _ hl hn.2
      rw [alF]
      refine ⟨?_, fun V v1 v2 v3 => ?_⟩
      · by_cases hc : alF far k xs ≤ 1 + alF far k (xs.filter (far x))
        · refine ⟨x :: T, ?_, ?_, ?_, ?_⟩
          · rw [List.nodup_cons]
            exact ⟨fun hx => hn.1 (List.mem_filter.1 (t2 x hx)).1, t1⟩
          · intro a ha
            rcases List.mem_cons.1 ha with rfl | ha
            · exact List.mem_cons_self
            · exact List.mem_cons_of_mem _ (List.mem_filter.1 (t2 a ha)).1
          · intro a ha b hb hne
            rcases List.mem_cons.1 ha with rfl | ha' <;> rcases List.mem_cons.1 hb with rfl | hb'
            · exact absurd rfl hne
            · exact (List.mem_filter.1 (t2 b hb')).2
            · rw [hs]; exact (List.mem_filter.1 (t2 a ha')).2
            · exact t3 a ha' b hb' hne
          · rw [List.length_cons, t4, Nat.max_eq_left hc]; omega
        · exact ⟨U, u1, fun a ha => List.mem_cons_of_mem _ (u2 a ha), u3, by rw [u4, Nat.max_eq_right (by omega)]⟩
      · by_cases hx : x ∈ V
        · have h1 : (V.erase x).length ≤ alF far k (xs.filter (far x)) := by
            refine tu _ (v1.erase x) (fun a ha => ?_) (v3.sub fun a ha => List.mem_of_mem_erase ha)
            have hax : a ≠ x := fun e => by rw [e] at ha; exact (List.Nodup.not_mem_erase v1) ha
            have hav := List.mem_of_mem_erase ha
            rcases List.mem_cons.1 (v2 a hav) with e | hm
            · exact absurd e hax
            · exact List.mem_filter.2 ⟨hm, v3 x hx a hav (fun e => hax e.symm)⟩
          rw [List.length_erase_of_mem hx] at h1
          exact Nat.le_trans (by omega) (Nat.le_max_left _ _)
        · refine Nat.le_trans (uu V v1 (fun a ha => ?_) v3) (Nat.le_max_right _ _)
          rcases List.mem_cons.1 (v2 a ha) with rfl | hm
          · exact absurd ha hx
          · exact hm
theorem alF_more {α : Type} (far : α → α → Bool) : ∀ (k m : Nat) (S : List α), S.length ≤ k → alF far (k + m) S = alF far k S
  | 0, m, S, h => by
    have : S = [] := List.eq_nil_of_length_eq_zero (by omega)
    subst this
    cases m <;> rfl
  | k + 1, m, [], h => by rw [show k + 1 + m = (k + m) + 1 by omega]; rfl
  | k + 1, m, x :: xs, h => by
    have hl : xs.length ≤ k := by simpa using h
    rw [show k + 1 + m = (k + m) + 1 by omega, alF, alF, alF_more far k m xs hl, alF_more far k m _ (Nat.le_trans (List.length_filter_le _ _) hl)]
def alL {α : Type} (far : α → α → Bool) (S : List α) : Nat := alF far S.length S
theorem alL_nil {α : Type} (far : α → α → Bool) : alL far [] = 0 := rfl
theorem alL_cons {α : Type} (far : α → α → Bool) (x : α) (xs : List α) : alL far (x :: xs) = max (1 + alL far (xs.filter (far x))) (alL far xs) := by
  unfold alL
  rw [List.length_cons, alF]
  have h := List.length_filter_le (far x) xs
  have := alF_more far (xs.filter (far x)).length (xs.length - (xs.filter (far x)).length) (xs.filter (far x)) (Nat.le_refl _)
  rw [show (xs.filter (far x)).length + (xs.length - (xs.filter (far x)).length) = xs.length by omega] at this
  rw [this]
theorem alL_le {α : Type} (far : α → α → Bool) : ∀ S : List α, alL far S ≤ S.length := by
  intro S
  suffices h : ∀ k, ∀ S : List α, S.length ≤ k → alF far k S ≤ S.length from h _ S (Nat.le_refl _)
  intro k
  induction k with
  | zero => intro S _; simp [alF]
  | succ k ih =>
    intro S h
    cases S with
    | nil => simp [alF]
    | cons x xs =>
      have hl : xs.length ≤ k := by simpa using h
      have h1 := ih xs hl
      have h2 := ih _ (Nat.le_trans (List.length_filter_le (far x) xs) hl)
      have h3 := List.length_filter_le (far x) xs
      rw [alF, List.length_cons]
      omega
/-- The search with the best number that was found so far. -/
theorem walk_cut {α : Type} {far : α → α → Bool} {S : List α} {many best : Nat} (h : many + S.length ≤ best) : max best (many + alL far S) = best := by
  have := alL_le far S
  omega
theorem walk_nil {α : Type} {far : α → α → Bool} {many best : Nat} (h : best < many) : max best (many + alL far ([] : List α)) = many := by
  rw [alL_nil]; omega
theorem walk_cons {α : Type} {far : α → α → Bool} {x : α} {xs : List α} {many best : Nat} :
    max (max best (many + 1 + alL far (xs.filter (far x)))) (many + alL far xs) = max best (many + alL far (x :: xs)) := by
  rw [alL_cons]; omega

/-! ### The program's search -/
section
variable {far : Nat → Nat → Bool} {P : Nat → Prop}
/-- One with at most one near it can always be taken. -/
theorem IsAl.take (hs : ∀ a b, far a b = far b a) {x m : Nat} (hx : P x) (h1 : ∀ a b, P a → P b → a ≠ x → b ≠ x → far x a = false → far x b = false → a = b)
    (h : IsAl far (fun a => P a ∧ a ≠ x ∧ far x a = true) m) : IsAl far P (1 + m) := by
  classical
  obtain ⟨⟨T, t1, t2, t3, t4⟩, hu⟩ := h
  refine ⟨⟨x :: T, ?_, ?_, ?_, ?_⟩, fun V v1 v2 v3 => ?_⟩
  · rw [List.nodup_cons]
    exact ⟨fun hh => (t2 x hh).2.1 rfl, t1⟩
  · intro a ha
    rcases List.mem_cons.1 ha with rfl | ha
    · exact hx
    · exact (t2 a ha).1
  · intro a ha b hb hne
    rcases List.mem_cons.1 ha with rfl | ha' <;> rcases List.mem_cons.1 hb with rfl | hb'
    · exact absurd rfl hne
    · exact (t2 b hb').2.2
    · rw [hs]; exact (t2 a ha').2.2
    · exact t3 a ha' b hb' hne
  · rw [List.length_cons, t4]; omega
  · by_cases hq : ∃ q, q ∈ V ∧ (q = x ∨ far x q = false)
    · obtain ⟨q, hqv, hqx⟩ := hq
      have h2 : (V.erase q).length ≤ m := by
        refine hu _ (v1.erase q) (fun a ha => ?_) (v3.sub fun a ha => List.mem_of_mem_erase ha)
        have haq : a ≠ q := fun e => by rw [e] at ha; exact (List.Nodup.not_mem_erase v1) ha
        have hav := List.mem_of_mem_erase ha
        have hfq := v3 q hqv a hav (fun e => haq e.symm)
        rcases hqx with rfl | hqx
        · exact ⟨v2 a hav, haq, hfq⟩
        · by_cases hax : a = x
          · subst hax
            rw [hs, hqx] at hfq
            exact absurd hfq (by simp)
          · refine ⟨v2 a hav, hax, ?_⟩
            cases hf : far x a with
            | true => rfl
            | false =>
              by_cases hqe : q = x
              · subst hqe
                rw [hf] at hfq
                exact absurd hfq (by simp)
              · exact absurd (h1 a q (v2 a hav) (v2 q hqv) hax hqe hf hqx) haq
      rw [List.length_erase_of_mem hqv] at h2
      omega
    · have := hu V v1 (fun a ha => ⟨v2 a ha, fun e => hq ⟨a, ha, .inl e⟩, by
        cases hf : far x a with
        | true => rfl
        | false => exact absurd ⟨a, ha, .inr hf⟩ hq⟩) v3
      omega
/-- One is taken, or left out. -/
theorem IsAl.split (hs : ∀ a b, far a b = far b a) {x m k : Nat} (hx : P x) (h : IsAl far (fun a => P a ∧ a ≠ x) k)
    (h' : IsAl far (fun a => (P a ∧ a ≠ x) ∧ far x a = true) m) : IsAl far P (max k (1 + m)) := by
  classical
  obtain ⟨⟨T, t1, t2, t3, t4⟩, hu⟩ := h'
  obtain ⟨⟨U, u1, u2, u3, u4⟩, hv⟩ := h
  refine ⟨?_, fun V v1 v2 v3 => ?_⟩
  · by_cases hc : k ≤ 1 + m
    · refine ⟨x :: T, ?_, ?_, ?_, ?_⟩
      · rw [List.nodup_cons]
        exact ⟨fun hh => (t2 x hh).1.2 rfl, t1⟩
      · intro a ha
        rcases List.mem_cons.1 ha with rfl | ha
        · exact hx
        · exact (t2 a ha).1.1
      · intro a ha b hb hne
        rcases List.mem_cons.1 ha with rfl | ha' <;> rcases List.mem_cons.1 hb with rfl | hb'
        · exact absurd rfl hne
        · exact (t2 b hb').2
        · rw [hs]; exact (t2 a ha').2
        · exact t3 a ha' b hb' hne
      · rw [List.length_cons, t4, Nat.max_eq_right hc]; omega
    · exact ⟨U, u1, fun a ha => (u2 a ha).1, u3, by rw [u4, Nat.max_eq_left (by omega)]⟩
  · by_cases hxv : x ∈ V
    · have h1 : (V.erase x).length ≤ m := by
        refine hu _ (v1.erase x) (fun a ha => ?_) (v3.sub fun a ha => List.mem_of_mem_erase ha)
        have hax : a ≠ x := fun e => by rw [e] at ha; exact (List.Nodup.not_mem_erase v1) ha
        have hav := List.mem_of_mem_erase ha
        exact ⟨⟨v2 a hav, hax⟩, v3 x hxv a hav (fun e => hax e.symm)⟩
      rw [List.length_erase_of_mem hxv] at h1
      exact Nat.le_trans (by omega) (Nat.le_max_right _ _)
    · exact Nat.le_trans (hv V v1 (fun a ha => ⟨v2 a ha, fun e => hxv (e ▸ ha)⟩) v3) (Nat.le_max_left _ _)
end
theorem IsAl.none {α : Type} {far : α → α → Bool} {P : α → Prop} (h : ∀ a, ¬ P a) : IsAl far P 0 :=
  ⟨⟨[], by simp, by simp, fun a h => absurd h (by simp), rfl⟩, fun T _ h2 _ => by
    cases T with
    | nil => simp
    | cons a T => exact absurd (h2 a (by simp)) (h a)⟩
/-- A way from one set of things to another that keeps what is far. -/
theorem IsAl.map {α β : Type} {far : α → α → Bool} {far' : β → β → Bool} {P : α → Prop} {Q : β → Prop} {m : Nat} (f : α → β) (g : β → α)
    (hf : ∀ a, P a → Q (f a) ∧ g (f a) = a) (hg : ∀ b, Q b → P (g b) ∧ f (g b) = b) (hh : ∀ a b, P a → P b → far a b = far' (f a) (f b)) (h : IsAl far P m) : IsAl far' Q m := by
  obtain ⟨⟨T, t1, t2, t3, t4⟩, hu⟩ := h
  refine ⟨⟨T.map f, ?_, ?_, ?_, ?_⟩, fun V v1 v2 v3 => ?_⟩
  · exact nodup_map t1 fun a ha b hb he => by rw [← (hf a (t2 a ha)).2, ← (hf b (t2 b hb)).2, he]
  · intro b hb
    obtain ⟨a, ha, rfl⟩ := List.mem_map.1 hb
    exact (hf a (t2 a ha)).1
  · intro y hy z hz hn
    obtain ⟨a, ha, rfl⟩ := List.mem_map.1 hy
    obtain ⟨b, hb, rfl⟩ := List.mem_map.1 hz
    rw [← hh a b (t2 a ha) (t2 b hb)]
    exact t3 a ha b hb (fun e => hn (by rw [e]))
  · rw [List.length_map, t4]
  · have hh : (V.map g).length ≤ m := by
     refine hu _ ?_ ?_ ?_
     · exact nodup_map v1 fun a ha b hb he => by rw [← (hg a (v2 a ha)).2, ← (hg b (v2 b hb)).2, he]
     · intro a ha
       obtain ⟨b, hb, rfl⟩ := List.mem_map.1 ha
       exact (hg b (v2 b hb)).1
     · intro y hy z hz hn
       obtain ⟨a, ha, rfl⟩ := List.mem_map.1 hy
       obtain ⟨b, hb, rfl⟩ := List.mem_map.1 hz
       rw [hh _ _ (hg a (v2 a ha)).1 (hg b (v2 b hb)).1, (hg a (v2 a ha)).2, (hg b (v2 b hb)).2]
       exact v3 a ha b hb (fun e => hn (by rw [e]))
    rwa [List.length_map] at hh
/-- Where all things are alike, each of them is in one of the greatest sets. -/
theorem IsAl.first {α : Type} {far : α → α → Bool} (hs : ∀ a b, far a b = far b a) {P : α → Prop} {z : α} (hz : P z)
    (hsh : ∀ v, P v → ∃ f : α → α, f v = z ∧ ∀ a b, P a → P b → P (f a) ∧ far (f a) (f b) = far a b ∧ (f a = f b → a = b))
    {m : Nat} (h : IsAl far (fun a => P a ∧ a ≠ z ∧ far z a = true) m) : IsAl far P (1 + m) := by
  classical
  obtain ⟨⟨T, t1, t2, t3, t4⟩, hu⟩ := h
  refine ⟨⟨z :: T, ?_, ?_, ?_, ?_⟩, fun V v1 v2 v3 => ?_⟩
  · rw [List.nodup_cons]
    exact ⟨fun hh => (t2 z hh).2.1 rfl, t1⟩
  · intro a ha
    rcases List.mem_cons.1 ha with rfl | ha
    · exact hz
    · exact (t2 a ha).1
  · intro a ha b hb hne
    rcases List.mem_cons.1 ha with rfl | ha' <;> rcases List.mem_cons.1 hb with rfl | hb'
    · exact absurd rfl hne
    · exact (t2 b hb').2.2
    · rw [hs]; exact (t2 a ha').2.2
    · exact t3 a ha' b hb' hne
  · rw [List.length_cons, t4]; omega
  · cases V with
    | nil => simp
    | cons v V =>
      obtain ⟨f, hfz, hf⟩ := hsh v (v2 v (by simp))
      rw [List.nodup_cons] at v1
      have hV : ∀ a ∈ V, P a := fun a ha => v2 a (List.mem_cons_of_mem _ ha)
      have h2 : (V.map f).length ≤ m := by
        refine hu _ ?_ ?_ ?_
        · exact nodup_map v1.2 fun a ha b hb he => (hf a b (hV a ha) (hV b hb)).2.2 he
        · intro b hb
          obtain ⟨a, ha, rfl⟩ := List.mem_map.1 hb
          have h3 := hf v a (v2 v (by simp)) (hV a ha)
          have hne : v ≠ a := fun e => v1.1 (e ▸ ha)
          refine ⟨(hf a a (hV a ha) (hV a ha)).1, fun e => hne (h3.2.2 (by rw [hfz, e])), ?_⟩
          rw [← hfz, h3.2.1]
          exact v3 v (by simp) a (List.mem_cons_of_mem _ ha) hne
        · intro y hy z hz hn
          obtain ⟨a, ha, rfl⟩ := List.mem_map.1 hy
          obtain ⟨b, hb, rfl⟩ := List.mem_map.1 hz
          rw [(hf a b (hV a ha) (hV b hb)).2.1]
          exact v3 a (List.mem_cons_of_mem _ ha) b (List.mem_cons_of_mem _ hb) (fun e => hn (by rw [e]))
      rw [List.length_map] at h2
      rw [List.length_cons]
      omega
end Go.Proofs.YtfhmmebciikgeaaDoor
