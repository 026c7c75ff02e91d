/-
  PLAIN LAW: the first of the simple ways with the fewest turned switches and, among these, the least length, is the first way with the least cost. No program in sight.
-/
import Derived.Test.YtlebkjkiikehhaaCst3
import Derived.Test.YtlebkjkiikehhaaSet
namespace Go.Proofs.Ytlebkjkiikehhaa.Cst
open Go.RowKit

/-! ### costs -/
def costT (st : List Int) (k : Nat) (t : Tb) : Int := if stAt st t.1.toNat = (k : Int) then t.2.2 else t.2.2 + 100000
def costsF (st : List Int) : List Tb → Nat → List Tb
  | [], _ => []
  | t :: ts, k => (t.1, t.2.1, costT st k t) :: costsF st ts (k + 1)
theorem costsF_len (st : List Int) : ∀ (l : List Tb) (k : Nat), (costsF st l k).length = l.length
  | [], _ => rfl
  | t :: ts, k => by rw [costsF, List.length_cons, costsF_len st ts, List.length_cons]
theorem costsF_at (st : List Int) : ∀ (l : List Tb) (k i : Nat) (h : i < l.length) (h' : i < (costsF st l k).length), (costsF st l k)[i] = (l[i].1, l[i].2.1, costT st (k + i) l[i])
  | t :: ts, k, 0, _, _ => rfl
  | t :: ts, k, i + 1, h, h' => by
    simp only [costsF, List.getElem_cons_succ]
    rw [costsF_at st ts (k + 1) i (by simpa using h)]
    rw [show k + 1 + i = k + (i + 1) by omega]
theorem costsF_snoc (st : List Int) : ∀ (l : List Tb) (k i : Nat) (h : i < l.length), costsF st (l.take i) k ++ [(l[i].1, l[i].2.1, costT st (k + i) l[i])] = costsF st (l.take (i + 1)) k
  | t :: ts, k, 0, _ => rfl
  | t :: ts, k, i + 1, h => by
    have := costsF_snoc st ts (k + 1) i (by simpa using h)
    simp only [List.take_succ_cons, costsF, List.getElem_cons_succ, List.cons_append]
    rw [← this, show k + 1 + i = k + (i + 1) by omega]
def costs (l : List Tb) (st : List Int) : List Tb := costsF st l 0
theorem costs_len (l : List Tb) (st : List Int) : (costs l st).length = l.length := costsF_len st l 0
theorem tb_costs (l : List Tb) (st : List Int) {i : Nat} (h : i < l.length) : tbAt (costs l st) i = ((tbAt l i).1, (tbAt l i).2.1, costT st i (tbAt l i)) := by
  have h' : i < (costs l st).length := by rw [costs_len]; exact h
  rw [tbAt_eq h', tbAt_eq h]
  have := costsF_at st l 0 i h h'
  rw [Nat.zero_add] at this
  exact this
theorem valid_costs {s : Nat} {l : List Tb} (hv : validN (s : Int) l = true) (st : List Int) : validC (s : Int) (costs l st) := by
  obtain ⟨s0, s1, h24, ha⟩ := validN_true hv
  refine ⟨s0, s1, by rw [costs_len]; exact h24, fun t ht => ?_⟩
  obtain ⟨i, hi, rfl⟩ := List.getElem_of_mem ht
  have hi' : i < l.length := by rw [← costs_len l st]; exact hi
  have e := costsF_at st l 0 i hi' hi
  have hv := validN_at ha hi'
  simp only [validTube, Bool.and_eq_true] at hv
  have h0 := inB_true hv.1.1.1
  have h1 := inB_true hv.1.1.2
  have h2 := inB_true hv.2
  have h3 : l[i].2.2 ≤ costT st (0 + i) l[i] ∧ costT st (0 + i) l[i] ≤ l[i].2.2 + 100000 := by unfold costT; split <;> omega
  show GoodT _ (costsF st l 0)[i]
  rw [e]
  exact ⟨by show 0 ≤ l[i].1; omega, by show l[i].1 < _; omega, by show 0 ≤ l[i].2.1; omega, by show l[i].2.1 < _; omega, by show 1 ≤ costT st (0 + i) l[i]; omega, by show costT st (0 + i) l[i] ≤ _; omega⟩
theorem fromI_costs (a : Int) (st : List Int) : ∀ (l : List Tb) (k : Nat) (k' : Int), fromI a (costsF st l k) k' = fromI a l k'
  | [], _, _ => rfl
  | t :: ts, k, k' => by rw [costsF, fromI, fromI, fromI_costs a st ts]

/-! ### ways -/
def tuF (l : List Tb) (st : List Int) : List Int → Nat
  | [] => 0
  | x :: xs => (if stAt st (tbAt l x.toNat).1.toNat = x then 0 else 1) + tuF l st xs
def leF (l : List Tb) : List Int → Int
  | [] => 0
  | x :: xs => (tbAt l x.toNat).2.2 + leF l xs
/-- All numbers of a list are tubes. -/
def Idx (l : List Tb) (way : List Int) : Prop := ∀ x ∈ way, ∃ q : Nat, x = q ∧ q < l.length
theorem co_eq {l : List Tb} {st : List Int} : ∀ {way : List Int}, Idx l way → leF (costs l st) way = leF l way + 100000 * (tuF l st way : Int)
  | [], _ => by simp [leF, tuF]
  | x :: xs, h => by
    obtain ⟨q, rfl, hq⟩ := h x List.mem_cons_self
    have ih := co_eq (l := l) (st := st) (way := xs) fun y hy => h y (List.mem_cons_of_mem _ hy)
    rw [leF, leF, tuF, ih, Int.toNat_natCast, tb_costs l st hq]
    simp only [costT]
    split <;> omega
abbrev St := List Int × Int × Int
def stepS (l : List Tb) (st : List Int) (s : St) (way : List Int) : St :=
  if s.2.1 < 0 ∨ (tuF l st way : Int) < s.2.1 ∨ ((tuF l st way : Int) = s.2.1 ∧ leF l way < s.2.2) then (way, (tuF l st way : Int), leF l way) else s
def nxtI (l : List Tb) (i : Int) : Int := (tbAt l i.toNat).2.1
def badW (ps : List Int) (a : Nat) (d : Int) : Bool := ps.contains d || decide (d = (a : Int))
def waysF (l : List Tb) (gl : Nat) : Nat → List Int → Nat → List (List Int)
  | 0, _, _ => []
  | k + 1, ps, a => if a = gl then [[]] else (fromI a l 0).flatMap fun i => if badW ps a (nxtI l i) then [] else (waysF l gl k (ps ++ [(a : Int)]) (nxtI l i).toNat).map (i :: ·)
def dfsF (l : List Tb) (st : List Int) (gl : Nat) : Nat → List Int → List Int → Nat → St → St
  | 0, _, _, _, s => s
  | k + 1, way, ps, a, s => if a = gl then stepS l st s way else (fromI a l 0).foldl (fun s i => if badW ps a (nxtI l i) then s else dfsF l st gl k (way ++ [i]) (ps ++ [(a : Int)]) (nxtI l i).toNat s) s
theorem dfs_ways (l : List Tb) (st : List Int) (gl : Nat) : ∀ (k : Nat) (way ps : List Int) (a : Nat) (s : St), dfsF l st gl k way ps a s = ((waysF l gl k ps a).map (way ++ ·)).foldl (stepS l st) s
  | 0, _, _, _, _ => rfl
  | k + 1, way, ps, a, s => by
    rw [dfsF, waysF]
    split
    · simp
    · generalize fromI a l 0 = is
      induction is generalizing s with
      | nil => rfl
      | cons i is ih =>
        rw [List.foldl_cons, ih, List.flatMap_cons, List.map_append, List.foldl_append]
        congr 1
        split
        · rfl
        · rw [dfs_ways l st gl k]
          rw [List.map_map]
          congr 1
          apply List.map_congr_left
          intro u _
          simp
theorem ways_costs (l : List Tb) (st : List Int) (gl : Nat) : ∀ (k : Nat) (ps : List Int) (a : Nat), waysF (costs l st) gl k ps a = waysF l gl k ps a
  | 0, _, _ => rfl
  | k + 1, ps, a => by
    have e : ∀ i, i ∈ fromI a l 0 → nxtI (costs l st) i = nxtI l i := by
      intro i hi
      have : ∀ (ts : List Tb) (k : Nat), i ∈ fromI a ts k → ∃ q : Nat, i = q ∧ q < k + ts.length := by
        intro ts
        induction ts with
        | nil => intro k h; simp [fromI] at h
        | cons t ts ih =>
          intro k h
          rw [fromI] at h
          have go : i ∈ fromI a ts (k + 1 : Nat) → ∃ q : Nat, i = q ∧ q < k + (t :: ts).length := fun h => by
            obtain ⟨q, h1, h2⟩ := ih (k + 1) h
            exact ⟨q, h1, by simp only [List.length_cons]; omega⟩
          split at h
          · rcases List.mem_cons.1 h with h | h
            · exact ⟨k, h, by simp⟩
            · exact go h
          · exact go h
      obtain ⟨q, rfl, hq⟩ := this l 0 hi
      unfold nxtI
      rw [Int.toNat_natCast, tb_costs l st (by omega)]
    rw [waysF, waysF]
    split
    · rfl
    · have hf : fromI a (costs l st) 0 = fromI a l 0 := fromI_costs a st l 0 0
      rw [hf]
      have : ∀ (is : List Int), (∀ i ∈ is, nxtI (costs l st) i = nxtI l i) → is.flatMap (fun i => if badW ps a (nxtI (costs l st) i) then [] else (waysF (costs l st) gl k (ps ++ [(a : Int)]) (nxtI (costs l st) i).toNat).map (i :: ·)) = is.flatMap (fun i => if badW ps a (nxtI l i) then [] else (waysF l gl k (ps ++ [(a : Int)]) (nxtI l i).toNat).map (i :: ·)) := by
        intro is
        induction is with
        | nil => intro _; rfl
        | cons i is ih =>
          intro h
          rw [List.flatMap_cons, List.flatMap_cons, ih fun j hj => h j (List.mem_cons_of_mem _ hj), h i List.mem_cons_self, ways_costs l st gl k]
      exact this _ e

/-! ### what the least costs are -/
theorem D_eq {s : Nat} {l : List Tb} (gl : Nat) : distN (s : Int) l gl (-1) = itP l (start s gl) s := by
  unfold distN
  rw [eff_none l 0 (by omega), Int.toNat_natCast, Int.toNat_natCast]
theorem D_goal {s gl : Nat} {l : List Tb} (hv : validC (s : Int) l) (hgl : gl < s) : at_ (distN (s : Int) l gl (-1)) gl = 0 := by
  rw [D_eq]
  exact A_to (good_l hv) hgl s
theorem D_rel {s gl : Nat} {l : List Tb} (hv : validC (s : Int) l) (hgl : gl < s) {t : Tb} (ht : t ∈ l) (h0 : 0 ≤ at_ (distN (s : Int) l gl (-1)) t.2.1.toNat) :
    0 ≤ at_ (distN (s : Int) l gl (-1)) t.1.toNat ∧ at_ (distN (s : Int) l gl (-1)) t.1.toNat ≤ at_ (distN (s : Int) l gl (-1)) t.2.1.toNat + t.2.2 := by
  rw [D_eq] at h0 ⊢
  have h := fold_get l (itP l (start s gl) s) (good_l hv) (A_len s) t ht h0
  have e : l.foldl relax (itP l (start s gl) s) = itP l (start s gl) s := A_fix (good_l hv) hgl
  rw [e] at h
  exact h
theorem from_mem (a : Int) : ∀ (l : List Tb) (k : Nat) (i : Int), i ∈ fromI a l k → ∃ (q : Nat) (h : q < l.length), i = ((k + q : Nat) : Int) ∧ l[q].1 = a
  | [], _, _, h => by simp [fromI] at h
  | t :: ts, k, i, h => by
    rw [fromI] at h
    have go : i ∈ fromI a ts (k + 1 : Nat) → ∃ (q : Nat) (h : q < (t :: ts).length), i = ((k + q : Nat) : Int) ∧ ((t :: ts)[q]).1 = a := fun h => by
      obtain ⟨q, h1, h2, h3⟩ := from_mem a ts (k + 1) i h
      exact ⟨q + 1, by simpa using h1, by rw [h2]; congr 1; omega, by simpa using h3⟩
    split at h
    · rename_i ht
      rcases List.mem_cons.1 h with h | h
      · exact ⟨0, by simp, h, ht⟩
      · exact go h
    · exact go h
theorem tb_mem {l : List Tb} {q : Nat} (h : q < l.length) : tbAt l q ∈ l := by rw [tbAt_eq h]; exact List.getElem_mem h
/-- No way is cheaper than the least cost. -/
theorem ways_ge {s gl : Nat} {l : List Tb} (hv : validC (s : Int) l) (hgl : gl < s) : ∀ (k : Nat) (ps : List Int) (a : Nat) (u : List Int), u ∈ waysF l gl k ps a →
    0 ≤ at_ (distN (s : Int) l gl (-1)) a ∧ at_ (distN (s : Int) l gl (-1)) a ≤ leF l u ∧ u.length ≤ k ∧ Idx l u
  | 0, _, _, _, h => by simp [waysF] at h
  | k + 1, ps, a, u, h => by
    rw [waysF] at h
    split at h
    · rename_i ha
      have : u = [] := by simpa using h
      subst this
      subst ha
      have := D_goal hv hgl
      exact ⟨by omega, by rw [leF]; omega, by simp, fun x hx => by simp at hx⟩
    · obtain ⟨i, hi, hu⟩ := List.mem_flatMap.1 h
      obtain ⟨q, hq, rfl, hqa⟩ := from_mem a l 0 i hi
      rw [Nat.zero_add] at hu
      split at hu
      · simp at hu
      · obtain ⟨u', hu', rfl⟩ := List.mem_map.1 hu
        obtain ⟨h1, h2, h3, h4⟩ := ways_ge hv hgl k _ _ u' hu'
        have hn : nxtI l (q : Int) = (tbAt l q).2.1 := by unfold nxtI; rw [Int.toNat_natCast]
        rw [hn] at h1 h2
        have hr := D_rel hv hgl (tb_mem hq) h1
        have ha : (tbAt l q).1.toNat = a := by rw [tbAt_eq hq, hqa]; simp
        rw [ha] at hr
        refine ⟨hr.1, by rw [leF, Int.toNat_natCast]; omega, by simp; omega, fun x hx => ?_⟩
        rcases List.mem_cons.1 hx with rfl | hx
        · exact ⟨q, by simp, hq⟩
        · exact h4 x hx
theorem first_split (D : List Int) (a : Nat) : ∀ (l : List Tb) (k m : Nat), stepF D a l k = some m → ∃ i1 i2, fromI (a : Int) l k = i1 ++ (m : Int) :: i2 ∧ ∀ i ∈ i1, ∃ (q : Nat) (h : q < l.length), i = ((k + q : Nat) : Int) ∧ l[q].1 = (a : Int) ∧ ¬ leads D a l[q]
  | [], _, _, h => by simp [stepF] at h
  | t :: ts, k, m, h => by
    rw [stepF] at h
    rw [fromI]
    split at h
    · rename_i hl
      injection h with h
      subst h
      rw [if_pos hl.1]
      exact ⟨[], _, rfl, fun i hi => by simp at hi⟩
    · rename_i hl
      obtain ⟨i1, i2, e, hi⟩ := first_split D a ts (k + 1) m h
      have hi' : ∀ i ∈ i1, ∃ (q : Nat) (h : q < (t :: ts).length), i = ((k + q : Nat) : Int) ∧ ((t :: ts)[q]).1 = (a : Int) ∧ ¬ leads D a ((t :: ts)[q]) := fun i hm => by
        obtain ⟨q, h1, h2, h3, h4⟩ := hi i hm
        exact ⟨q + 1, by simpa using h1, by rw [h2]; congr 1; omega, by simpa using h3, by simpa using h4⟩
      have e' : fromI (a : Int) ts ((k : Int) + 1) = i1 ++ (m : Int) :: i2 := e
      split
      · rename_i ht
        refine ⟨(k : Int) :: i1, i2, by rw [e']; rfl, fun i hm => ?_⟩
        rcases List.mem_cons.1 hm with rfl | hm
        · exact ⟨0, by simp, rfl, ht, hl⟩
        · exact hi' i hm
      · exact ⟨i1, i2, e', hi'⟩
theorem nodup_le : ∀ (l m : List Int), l.Nodup → (∀ x ∈ l, x ∈ m) → l.length ≤ m.length
  | [], _, _, _ => by simp
  | x :: l, m, h, hs => by
    rw [List.nodup_cons] at h
    have hx := hs x List.mem_cons_self
    have h1 := nodup_le l (m.erase x) h.2 (fun y hy => by
      have hne : y ≠ x := fun e => h.1 (e ▸ hy)
      exact (List.mem_erase_of_ne hne).2 (hs y (List.mem_cons_of_mem _ hy)))
    rw [List.length_erase_of_mem hx] at h1
    have : 0 < m.length := List.length_pos_of_mem hx
    rw [List.length_cons]
    omega
theorem pigeon {s a : Nat} {ps : List Int} (h : ps.Nodup) (hp : ∀ p ∈ ps, ∃ q : Nat, p = q ∧ q < s) (ha : (a : Int) ∉ ps) (has : a < s) : ps.length < s := by
  have := nodup_le ((a : Int) :: ps) ((List.range s).map fun (q : Nat) => (q : Int)) (by rw [List.nodup_cons]; exact ⟨ha, h⟩) (fun x hx => by
    rcases List.mem_cons.1 hx with rfl | hx
    · exact List.mem_map.2 ⟨a, by simp [has], rfl⟩
    · obtain ⟨q, rfl, hq⟩ := hp x hx
      exact List.mem_map.2 ⟨q, by simp [hq], rfl⟩)
  simp at this
  omega
/-- The first way with the least cost is among the ways, and those ahead of it cost more. -/
theorem ways_first {s gl : Nat} {l : List Tb} (hv : validC (s : Int) l) (hgl : gl < s) : ∀ (k : Nat) (ps : List Int) (a : Nat), a < s → 0 ≤ at_ (distN (s : Int) l gl (-1)) a →
    (∀ p ∈ ps, ∃ q : Nat, p = q ∧ q < s ∧ at_ (distN (s : Int) l gl (-1)) a < at_ (distN (s : Int) l gl (-1)) q) → ps.Nodup → ps.length + k = s →
    ∃ pre post, waysF l gl k ps a = pre ++ wayD l (distN (s : Int) l gl (-1)) gl a :: post ∧ (∀ w ∈ pre, at_ (distN (s : Int) l gl (-1)) a < leF l w) ∧ leF l (wayD l (distN (s : Int) l gl (-1)) gl a) = at_ (distN (s : Int) l gl (-1)) a := by
  obtain ⟨D, hD⟩ : ∃ D, distN (s : Int) l gl (-1) = D := ⟨_, rfl⟩
  have hge := fun k ps a u h => ways_ge hv hgl k ps a u h
  have hrel := fun (t : Tb) (ht : t ∈ l) => D_rel (t := t) hv hgl ht
  have hg0 := D_goal hv hgl
  have hnx := fun a (has : a < s) => next_ex (a := a) hv hgl has
  rw [hD] at hge hrel hg0 hnx ⊢
  intro k
  induction k with
  | zero =>
    intro ps a has h0 hp hn hl
    have := pigeon hn (fun p hpp => by obtain ⟨q, h1, h2, _⟩ := hp p hpp; exact ⟨q, h1, h2⟩) (fun hm => by
      obtain ⟨q, h1, _, h3⟩ := hp _ hm
      have : q = a := by omega
      subst this
      omega) has
    omega
  | succ k ih =>
    intro ps a has h0 hp hn hl
    rw [waysF]
    by_cases hag : a = gl
    · rw [if_pos hag]
      subst hag
      rw [wayD_goal]
      exact ⟨[], [], rfl, fun w hw => by simp at hw, by rw [leF]; omega⟩
    · rw [if_neg hag]
      obtain ⟨j, hj, hjl, hle⟩ := hnx a has h0 hag
      obtain ⟨i1, i2, e, hi1⟩ := first_split D a l 0 j hj
      have e0 : fromI (a : Int) l 0 = i1 ++ (j : Int) :: i2 := e
      have hgj := good_l hv l[j] (List.getElem_mem hjl)
      have hw := wayD_step (good_l hv) hag hj hjl hle
      have hnj : nxtI l (j : Int) = l[j].2.1 := by unfold nxtI; rw [Int.toNat_natCast, tbAt_eq hjl]
      obtain ⟨d, hd⟩ : ∃ d : Nat, l[j].2.1 = d := ⟨l[j].2.1.toNat, by have := hgj.t0; omega⟩
      have hds : d < s := by have := hgj.t1; rw [hd] at this; omega
      have h5 := hle.2.1
      have h6 := hle.2.2
      rw [hd, Int.toNat_natCast] at h5 h6 hw
      have hlt : at_ D d < at_ D a := by have := hgj.g0; omega
      have hap : (a : Int) ∉ ps := fun hm => by
        obtain ⟨q, h1, _, h3⟩ := hp _ hm
        have : q = a := by omega
        subst this
        omega
      obtain ⟨pre, post, e2, hpre, hco⟩ := ih (ps ++ [(a : Int)]) d hds h5 (fun p hm => by
        rcases List.mem_append.1 hm with hm | hm
        · obtain ⟨q, h1, h2, h3⟩ := hp p hm
          exact ⟨q, h1, h2, by omega⟩
        · have : p = (a : Int) := by simpa using hm
          exact ⟨a, this, has, hlt⟩) (by
        rw [List.nodup_append]
        refine ⟨hn, by simp, fun x hx y hy e => ?_⟩
        have : y = (a : Int) := by simpa using hy
        subst this
        subst e
        exact hap hx) (by simp; omega)
      have hbad : badW ps a (d : Int) = false := by
        unfold badW
        rw [Bool.or_eq_false_iff]
        constructor
        · cases hc : ps.contains (d : Int) with
          | false => rfl
          | true =>
            exfalso
            have hm : (d : Int) ∈ ps := by simpa using hc
            obtain ⟨q, h1, _, h3⟩ := hp _ hm
            have : q = d := by omega
            subst this
            omega
        · rw [decide_eq_false_iff_not]
          intro e
          have : d = a := by omega
          subst this
          omega
      refine ⟨(i1.flatMap fun i => if badW ps a (nxtI l i) then [] else (waysF l gl k (ps ++ [(a : Int)]) (nxtI l i).toNat).map (i :: ·)) ++ pre.map ((j : Int) :: ·), post.map ((j : Int) :: ·) ++ (i2.flatMap fun i => if badW ps a (nxtI l i) then [] else (waysF l gl k (ps ++ [(a : Int)]) (nxtI l i).toNat).map (i :: ·)), ?_, ?_, ?_⟩
      · rw [e0, List.flatMap_append, List.flatMap_cons, hnj, hd, hbad, Int.toNat_natCast, e2, hw]
        simp
      · intro w hm
        rcases List.mem_append.1 hm with hm | hm
        · obtain ⟨i, hi, hm⟩ := List.mem_flatMap.1 hm
          obtain ⟨q, hq, rfl, hqa, hnl⟩ := hi1 i hi
          rw [Nat.zero_add] at hm
          split at hm
          · simp at hm
          · obtain ⟨u, hu, rfl⟩ := List.mem_map.1 hm
            obtain ⟨g1, g2, -, -⟩ := hge _ _ _ u hu
            have hnq : nxtI l (q : Int) = l[q].2.1 := by unfold nxtI; rw [Int.toNat_natCast, tbAt_eq hq]
            rw [hnq] at g1 g2
            have hr := hrel l[q] (List.getElem_mem hq) g1
            rw [hqa, Int.toNat_natCast] at hr
            have hne : at_ D l[q].2.1.toNat + l[q].2.2 ≠ at_ D a := fun e => hnl ⟨hqa, g1, e⟩
            rw [leF, Int.toNat_natCast, tbAt_eq hq]
            omega
        · obtain ⟨u, hu, rfl⟩ := List.mem_map.1 hm
          have := hpre u hu
          rw [leF, Int.toNat_natCast, tbAt_eq hjl]
          omega
      · rw [hw, leF, Int.toNat_natCast, tbAt_eq hjl, hco]
        omega

/-! ### the search -/
theorem le_bd {s : Nat} {l : List Tb} (hv : validN (s : Int) l = true) : ∀ {u : List Int}, Idx l u → 0 ≤ leF l u ∧ leF l u ≤ 2000 * (u.length : Int)
  | [], _ => by simp [leF]
  | x :: xs, h => by
    obtain ⟨q, rfl, hq⟩ := h x List.mem_cons_self
    have ih := le_bd hv (u := xs) fun y hy => h y (List.mem_cons_of_mem _ hy)
    have hvt := validN_at (validN_true hv).2.2.2 hq
    simp only [validTube, Bool.and_eq_true] at hvt
    have h2 := inB_true hvt.2
    rw [leF, Int.toNat_natCast, tbAt_eq hq, List.length_cons]
    omega
/-- What the state knows when all ways so far cost more than C. -/
def More (C : Int) (s : St) : Prop := s.2.1 < 0 ∨ (0 ≤ s.2.1 ∧ 0 ≤ s.2.2 ∧ s.2.2 < 100000 ∧ C < s.2.2 + 100000 * s.2.1)
theorem fold_more {l : List Tb} {st : List Int} {C : Int} : ∀ (W : List (List Int)) (s : St), (∀ w ∈ W, 0 ≤ leF l w ∧ leF l w < 100000 ∧ C < leF l w + 100000 * (tuF l st w : Int)) → More C s → More C (W.foldl (stepS l st) s)
  | [], s, _, h => h
  | w :: W, s, hw, h => by
    rw [List.foldl_cons]
    apply fold_more W _ (fun x hx => hw x (List.mem_cons_of_mem _ hx))
    have := hw w List.mem_cons_self
    unfold stepS
    split
    · right
      exact ⟨by show 0 ≤ (tuF l st w : Int); omega, this.1, this.2.1, this.2.2⟩
    · exact h
theorem fold_keep {l : List Tb} {st : List Int} : ∀ (W : List (List Int)) (g : List Int), (0 ≤ leF l g ∧ leF l g < 100000) → (∀ w ∈ W, 0 ≤ leF l w ∧ leF l w < 100000 ∧ leF l g + 100000 * (tuF l st g : Int) ≤ leF l w + 100000 * (tuF l st w : Int)) →
    W.foldl (stepS l st) (g, (tuF l st g : Int), leF l g) = (g, (tuF l st g : Int), leF l g)
  | [], _, _, _ => rfl
  | w :: W, g, hg, hw => by
    have := hw w List.mem_cons_self
    have e : stepS l st (g, (tuF l st g : Int), leF l g) w = (g, (tuF l st g : Int), leF l g) := by
      unfold stepS
      rw [if_neg]
      simp only
      omega
    rw [List.foldl_cons, e]
    exact fold_keep W g hg fun x hx => hw x (List.mem_cons_of_mem _ hx)
def st0 : St := ([], -1, 0)
theorem few_law {s gl u : Nat} {l : List Tb} {st : List Int} (hv : validN (s : Int) l = true) (hgl : gl < s) (hu : u < s) :
    (at_ (distN (s : Int) (costs l st) gl (-1)) u < 0 → dfsF l st gl s [] [] u st0 = st0) ∧
    (0 ≤ at_ (distN (s : Int) (costs l st) gl (-1)) u → dfsF l st gl s [] [] u st0 =
      (wayD (costs l st) (distN (s : Int) (costs l st) gl (-1)) gl u, (tuF l st (wayD (costs l st) (distN (s : Int) (costs l st) gl (-1)) gl u) : Int), leF l (wayD (costs l st) (distN (s : Int) (costs l st) gl (-1)) gl u)) ∧ Idx l (wayD (costs l st) (distN (s : Int) (costs l st) gl (-1)) gl u) ∧ (wayD (costs l st) (distN (s : Int) (costs l st) gl (-1)) gl u).length ≤ s) := by
  have hc := valid_costs hv st
  have hs := (validN_true hv).2.1
  have hge := fun w (h : w ∈ waysF l gl s [] u) => ways_ge hc hgl s [] u w (by rw [ways_costs]; exact h)
  have hidx : ∀ w, Idx (costs l st) w → Idx l w := fun w h x hx => by obtain ⟨q, h1, h2⟩ := h x hx; exact ⟨q, h1, by rw [costs_len] at h2; exact h2⟩
  have hm : ∀ W : List (List Int), W.map (([] : List Int) ++ ·) = W := fun W => by simp
  rw [dfs_ways, hm]
  constructor
  · intro h
    have : waysF l gl s [] u = [] := by
      cases hw : waysF l gl s [] u with
      | nil => rfl
      | cons w W =>
        have := (hge w (by rw [hw]; exact List.mem_cons_self)).1
        omega
    rw [this]
    rfl
  · intro h
    obtain ⟨pre, post, e, hpre, hco⟩ := ways_first hc hgl s [] u hu h (fun p hp => by simp at hp) (by simp) (by simp)
    rw [ways_costs] at e
    obtain ⟨g, hg⟩ : ∃ g, wayD (costs l st) (distN (s : Int) (costs l st) gl (-1)) gl u = g := ⟨_, rfl⟩
    rw [hg] at e hco ⊢
    have hfact : ∀ w, w ∈ waysF l gl s [] u → Idx l w ∧ w.length ≤ s ∧ 0 ≤ leF l w ∧ leF l w < 100000 ∧ leF (costs l st) w = leF l w + 100000 * (tuF l st w : Int) := fun w hw => by
      obtain ⟨-, -, h3, h4⟩ := hge w hw
      have h5 := hidx w h4
      have h6 := le_bd hv h5
      exact ⟨h5, h3, h6.1, by omega, co_eq h5⟩
    have hgm : g ∈ waysF l gl s [] u := by rw [e]; simp
    obtain ⟨f1, f2, f3, f4, f5⟩ := hfact g hgm
    refine ⟨?_, f1, f2⟩
    rw [e, List.foldl_append, List.foldl_cons]
    have hmore := fold_more (l := l) (st := st) (C := leF l g + 100000 * (tuF l st g : Int)) pre st0 (fun w hw => by
      obtain ⟨-, -, p3, p4, p5⟩ := hfact w (by rw [e]; simp [hw])
      have := hpre w hw
      exact ⟨p3, p4, by omega⟩) (.inl (by show (-1 : Int) < 0; omega))
    have hst : stepS l st (pre.foldl (stepS l st) st0) g = (g, (tuF l st g : Int), leF l g) := by
      obtain ⟨s9, hs9⟩ : ∃ s9, pre.foldl (stepS l st) st0 = s9 := ⟨_, rfl⟩
      rw [hs9] at hmore ⊢
      unfold stepS
      rw [if_pos]
      rcases hmore with hm1 | ⟨hm1, hm2, hm3, hm4⟩
      · exact .inl hm1
      · omega
    rw [hst]
    exact fold_keep post g ⟨f3, f4⟩ fun w hw => by
      have hwm : w ∈ waysF l gl s [] u := by rw [e]; simp [hw]
      obtain ⟨-, -, p3, p4, p5⟩ := hfact w hwm
      have := (hge w hwm).2.1
      exact ⟨p3, p4, by omega⟩
end Go.Proofs.Ytlebkjkiikehhaa.Cst
