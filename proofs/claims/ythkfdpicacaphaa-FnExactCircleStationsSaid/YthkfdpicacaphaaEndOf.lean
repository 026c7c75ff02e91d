/-
  CONTRACTS: where a carrier stops (printed by tools/gen_route.py).
-/
import Derived.Test.YthkfdpicacaphaaRoute
namespace Go.Proofs.Ythkfdpicacaphaa
open Go.RowKit

/-- The station at which a carrier stops within some steps; -1 if it does not. -/
def stopF (l : List Tb) (st : List Int) : Nat → Nat → Int
  | 0, _ => -1
  | k + 1, a => if stAt st a < 0 then (a : Int) else stopF l st k (nx l st a)
theorem runF_stopF (l : List Tb) (st : List Int) : ∀ (k a : Nat) (xs : List Int), (runF l st (-1) k a xs).2 = stopF l st (k + 1) a
  | 0, a, xs => by
    have h1 : ¬ (a : Int) = -1 := by omega
    rw [runF, stopF, stopF]
    by_cases h : stAt st a < 0
    · rw [if_pos (.inr h), if_pos h]
    · rw [if_neg (by simp only [not_or]; exact ⟨h1, h⟩), if_neg h]
  | k + 1, a, xs => by
    have h1 : ¬ (a : Int) = -1 := by omega
    rw [runF, stopF]
    by_cases h : stAt st a < 0
    · rw [if_pos (.inr h), if_pos h]
    · rw [if_neg (by simp only [not_or]; exact ⟨h1, h⟩), if_neg h, runF_stopF l st k]
theorem stopF_cases (l : List Tb) (st : List Int) : ∀ (k a : Nat), stopF l st k a = -1 ∨ 0 ≤ stopF l st k a
  | 0, _ => .inl rfl
  | k + 1, a => by
    rw [stopF]
    split
    · right; omega
    · exact stopF_cases l st k _
/-- Where a carrier is after some steps. -/
def itF (l : List Tb) (st : List Int) : Nat → Nat → Nat
  | 0, a => a
  | k + 1, a => itF l st k (nx l st a)
theorem itF_add (l : List Tb) (st : List Int) : ∀ (m k a : Nat), itF l st (m + k) a = itF l st k (itF l st m a)
  | 0, k, a => by rw [Nat.zero_add, itF]
  | m + 1, k, a => by rw [show m + 1 + k = (m + k) + 1 by omega, itF, itF, itF_add l st m k]
theorem stopF_none (l : List Tb) (st : List Int) : ∀ (k a : Nat), stopF l st k a = -1 ↔ ∀ j, j < k → 0 ≤ stAt st (itF l st j a)
  | 0, a => ⟨fun _ j hj => absurd hj (by omega), fun _ => rfl⟩
  | k + 1, a => by
    rw [stopF]
    by_cases h : stAt st a < 0
    · rw [if_pos h]
      constructor
      · intro h2; omega
      · intro h2
        have := h2 0 (by omega)
        rw [itF] at this
        omega
    · rw [if_neg h, stopF_none l st k]
      constructor
      · intro h2 j hj
        cases j with
        | zero => rw [itF]; omega
        | succ j => rw [itF]; exact h2 j (by omega)
      · intro h2 j hj
        have := h2 (j + 1) (by omega)
        rw [itF] at this
        exact this
theorem stopF_more (l : List Tb) (st : List Int) : ∀ (k m a : Nat), stopF l st k a ≠ -1 → stopF l st (k + m) a = stopF l st k a
  | 0, _, _, h => absurd rfl h
  | k + 1, m, a, h => by
    rw [show k + 1 + m = (k + m) + 1 by omega, stopF, stopF]
    rw [stopF] at h
    by_cases hs : stAt st a < 0
    · rw [if_pos hs, if_pos hs]
    · rw [if_neg hs, if_neg hs]
      rw [if_neg hs] at h
      exact stopF_more l st k m _ h
/-- More pigeons than holes. -/
theorem pigeon : ∀ (S : Nat) (f : Nat → Nat), (∀ i, i ≤ S → f i < S) → ∃ i j, i < j ∧ j ≤ S ∧ f i = f j
  | 0, f, h => absurd (h 0 (by omega)) (by omega)
  | S + 1, f, h => by
    by_cases hc : ∃ i, i ≤ S ∧ f i = f (S + 1)
    · obtain ⟨i, hi, he⟩ := hc
      exact ⟨i, S + 1, by omega, by omega, he⟩
    · have hv := h (S + 1) (by omega)
      obtain ⟨i, j, h1, h2, h3⟩ := pigeon S (fun i => if f i = S then f (S + 1) else f i) (by
        intro i hi
        have h4 := h i (by omega)
        have h5 : f i ≠ f (S + 1) := fun e => hc ⟨i, hi, e⟩
        show (if f i = S then f (S + 1) else f i) < S
        split <;> omega)
      have h5 : f i ≠ f (S + 1) := fun e => hc ⟨i, by omega, e⟩
      have h6 : f j ≠ f (S + 1) := fun e => hc ⟨j, by omega, e⟩
      refine ⟨i, j, h1, by omega, ?_⟩
      split at h3 <;> split at h3 <;> omega
/-- A carrier that has not stopped after as many steps as there are stations never does. -/
theorem stop_eq {s : Nat} {l : List Tb} {st : List Int} (h : setOK s l st = true) {a : Nat} (ha : a < s) (m : Nat) : stopF l st (s + m) a = stopF l st s a := by
  by_cases hn : stopF l st s a = -1
  · rw [hn]
    have hs := (stopF_none l st s a).1 hn
    have hlen : st.length = s := by have := (setOK_true h).2.1; omega
    have hin : ∀ j, j ≤ s → itF l st j a < s := by
      intro j
      induction j with
      | zero => intro _; rw [itF]; exact ha
      | succ j ih =>
        intro hj
        have h1 := ih (by omega)
        have h2 := hs j (by omega)
        have hal : itF l st j a < st.length := by rw [hlen]; exact h1
        rw [stAt_eq hal] at h2
        obtain ⟨q, hql, hq1, hq2, hq3, hq4⟩ := nx_ok h hal h2
        rw [itF_add l st j 1, itF, itF, hq4]
        omega
    obtain ⟨i, j, h1, h2, h3⟩ := pigeon s (fun k => itF l st k a) hin
    have hall : ∀ k, 0 ≤ stAt st (itF l st k a) := by
      intro k
      induction k using Nat.strongRecOn with
      | ind k ih =>
        by_cases hk : k < s
        · exact hs k hk
        · have h4 := ih (i + (k - j)) (by omega)
          rw [itF_add] at h4
          rw [h3, ← itF_add, show j + (k - j) = k by omega] at h4
          exact h4
    exact (stopF_none l st (s + m) a).2 fun k _ => hall k
  · exact stopF_more l st s m a hn

set_option maxHeartbeats 4000000 in
theorem stopOf_any (S : Int) (A : Option Addr) (n c : Nat) (l : List Tb) (A' : Option Addr) (n' c' : Nat) (st : List Int) (fr : Nat) (w : World) (h : TubesAt w A l) (hl : n = l.length) (h' : IntsAt w A' st) (hl' : n' = st.length) (hv : setOK S l st = true) (hf : (fr : Int) < S) :
    Calls Try.prog 50 #[.agg #[.int .i64 S, .slice A n c], .slice A' n' c', .int .i64 fr] w (Ret w (.int .i64 (stopF l st S.toNat fr))) := by
  have HL := Lib.hid hl
  have HL' := Lib.hid hl'
  have H' := Lib.hid h'
  have H := Lib.hid h
  have HV := Lib.hid hv
  obtain ⟨hvn, hsl, -⟩ := setOK_true hv
  obtain ⟨v0, v1, v2, -⟩ := validN_true hvn
  obtain ⟨s, rfl⟩ : ∃ s : Nat, S = s := ⟨S.toNat, by omega⟩
  rw [Int.toNat_natCast]
  have hn's : s = n' := by rw [hl']; omega
  subst hn's
  have hs10 : s ≤ 10 := by omega
  have hfs : fr < s := by omega
  clear hl h' hl' h hv hsl hvn v0 v1 v2 hf
  obtain ⟨rx, HX⟩ : ∃ r, Hid (stopF l st (s - 0) fr = r) := ⟨_, rfl⟩
  have HXR : Hid (stopF l st s fr = rx) := HX
  rw [HXR.out]
  go_enter Try.func50, Try.ntmps50
  go_wp2_with fail
  go_loopw [2, 9] (fun u v w' => ∃ (a j : Nat), u = .int .i64 a ∧ v = .int .i64 j ∧ a < s ∧ j ≤ s ∧ Hid (stopF l st (s - j) a = rx) ∧ Hid (Blk w' w.heap.size 30 #[.int .i64 s, .slice A n c]) ∧ Below w.heap.size w w') (fun _ v _ => s - (intOf v).toNat)
  case atStart => exact ⟨fr, 0, rfl, rfl, hfs, by omega, HX, Blk.new _ _ _, by go_grown⟩
  case round =>
    clear HX HXR hfs
    obtain ⟨a, j, rfl, rfl, has, hjs, HX, HN, hbel⟩ := hrel
    obtain ⟨b0, b1, -⟩ := HN.out.c2
    by_cases hlt : j < s
    · have hal : a < st.length := by rw [← HL'.out]; omega
      obtain ⟨b', o, rfl, hblt, hc⟩ := (H'.out.bel hbel) (by omega)
      have t0 := hc a hal
      have hst : stAt st a = st[a] := stAt_eq hal
      have hss : stopF l st (s - j) a = if stAt st a < 0 then (a : Int) else stopF l st (s - (j + 1)) (nx l st a) := by rw [show s - j = (s - (j + 1)) + 1 by omega, stopF]
      obtain ⟨x, hx⟩ : ∃ x, st[a] = x := ⟨_, rfl⟩
      rw [hx] at t0 hst
      rw [hst] at hss
      by_cases hx0 : x < 0
      · have HR : Hid (rx = (a : Int)) := by show _ = _; rw [← HX.out, hss, if_pos hx0]
        clear hss hst hx hc
        go_wp2_with fail
        go_ret
        rw [HR.out]
        exact ⟨rfl, hbel⟩
      · obtain ⟨q, hql, hq1, hq2, hq3, hq4⟩ := nx_ok HV.out hal (by rw [hx]; omega)
        rw [hx] at hq1
        subst hq1
        obtain ⟨b2, o2, rfl, hblt2, hc2⟩ := (H.out.bel hbel) (by omega)
        obtain ⟨y0, y1, y2⟩ := hc2 q hql
        obtain ⟨d, hd⟩ : ∃ d : Nat, l[q].2.1 = d := ⟨l[q].2.1.toNat, by omega⟩
        rw [hd] at y1 hq2 hq3 hq4
        rw [Int.toNat_natCast] at hq4
        have HX2 : Hid (stopF l st (s - (j + 1)) d = rx) := by show _ = _; rw [← HX.out, hss, if_neg hx0, hq4]
        have hqn : q < n := by rw [HL.out]; exact hql
        clear hss hst hx hc hq4 hc2 hd y0 y2
        go_wp2_with fail
        go_quiet (fail)
        go_wp2_with fail
        go_roundw
        case rel => exact ⟨d, j + 1, rfl, by go_num, by omega, by omega, HX2, HN.out.drewN _, below_drewN hbel _⟩
        case measure => simp [intOf]; omega
    · have HR : Hid (rx = -1) := by show _ = _; rw [← HX.out, show s - j = 0 by omega, stopF]
      go_wp2_with fail
      go_ret
      rw [HR.out]
      exact ⟨rfl, hbel⟩

def endS (S : Int) (l : List Tb) (st : List Int) (u : Int) : Int × Int := if codeS S l st [u] = 0 then (if stopF l st S.toNat u.toNat < 0 then (0, 9) else (stopF l st S.toNat u.toNat, 0)) else (0, codeS S l st [u])
theorem codeS_in1 {S u : Int} {l : List Tb} {st : List Int} (h : codeS S l st [u] = 0) : 0 ≤ u ∧ u < S := by
  have h2 := (codeS_zero h).2
  simp [outB] at h2
  have hu := inB_true h2
  omega

set_option maxHeartbeats 4000000 in
theorem specEndOf_any (S : Int) (A : Option Addr) (n c : Nat) (l : List Tb) (A' : Option Addr) (n' c' : Nat) (st : List Int) (u : Int) (w : World) (h : TubesAt w A l) (hl : n = l.length) (hn0 : n ≤ 1048576) (h' : IntsAt w A' st) (hl' : n' = st.length) (hn0' : n' ≤ 1048576) :
    Calls Try.prog 19 #[.agg #[.int .i64 S, .slice A n c], .slice A' n' c', .int .i64 u] w (Ret w (.tuple #[.int .i64 (endS S l st u).1, .int .i64 (endS S l st u).2])) := by
  have HL := Lib.hid hl
  have HL' := Lib.hid hl'
  have H := Lib.hid h
  have H' := Lib.hid h'
  clear hl hl' h h'
  go_enter Try.func19, Try.ntmps19
  go_wp2_with fail
  refine (l04Station_any _ S A n c l A' n' c' st u u _ (NetAt.box H.out _) HL.out hn0 (H'.out.alloc _) HL'.out hn0').mono ?_
  rintro e w1 ⟨rfl, hb1⟩
  have D1 : Below w.heap.size w w1 := Below.trans (by go_grown) (hb1.mono (by simp))
  have N1 : NetAt w1 w.heap.size S A n c l := (NetAt.box H.out _).bel hb1
  clear hb1
  rw [codeS_twice]
  obtain ⟨k, hk⟩ : ∃ k, codeS S l st [u] = k := ⟨_, rfl⟩
  rw [hk]
  by_cases h0 : k = 0
  · subst h0
    have hv := (codeS_zero hk).1
    obtain ⟨u0, u1⟩ := codeS_in1 hk
    obtain ⟨v0, v1, -, -⟩ := validN_true (setOK_true hv).1
    obtain ⟨s, rfl⟩ : ∃ s : Nat, S = s := ⟨S.toNat, by omega⟩
    obtain ⟨q, rfl⟩ : ∃ q : Nat, u = q := ⟨u.toNat, by omega⟩
    have hst := stop_eq hv (show q < s by omega) 2
    have hr := runF_stopF l st (s + 1) q []
    rw [show s + 1 + 1 = s + 2 by omega, hst] at hr
    obtain ⟨x, hx⟩ : ∃ x, stopF l st s q = x := ⟨_, rfl⟩
    have hxc := stopF_cases l st s q
    rw [hx] at hr hxc
    have E : Hid (endS s l st q = if x < 0 then (0, 9) else (x, 0)) := by show _ = _; unfold endS; rw [if_pos hk, Int.toNat_natCast, Int.toNat_natCast, hx]
    have HV := Lib.hid hv
    have HR := Lib.hid hr
    clear hk hv hst hr hx u0
    go_wp2_with fail
    refine (l04Run_any _ s A n c l A' n' c' st q (-1) _ N1 HL.out (H'.out.bel D1) HL'.out HV.out (by omega)).mono ?_
    simp only [Int.toNat_natCast]
    rw [HR.out]
    rintro e w2 ⟨A2, c2, rfl, -, hb2⟩
    have D2 := bel_next D1 hb2
    rcases hxc with rfl | hx0
    · have E2 : Hid (endS s l st q = (0, 9)) := by show _ = _; rw [E.out]; rfl
      go_wp2_with fail
      refine bodyPost_ret (v := .tuple #[.int .i64 0, .int .i64 9]) (by simp [results, Try.results19, go_sem]) rfl ?_
      rw [E2.out]
      exact ⟨rfl, D2⟩
    · have E2 : Hid (endS s l st q = (x, 0)) := by show _ = _; rw [E.out, if_neg (by omega)]
      have hb : (x == (-1 : Int)) = false := by rw [beq_eq_false_iff_ne]; omega
      go_wp2_with fail
      refine bodyPost_ret (v := .tuple #[.int .i64 x, .int .i64 0]) (by simp [results, Try.results19, go_sem]) rfl ?_
      rw [E2.out]
      exact ⟨rfl, D2⟩
  · have E : Hid (endS S l st u = (0, k)) := by show _ = _; unfold endS; rw [if_neg (by rw [hk]; exact h0), hk]
    clear hk
    go_wp2_with fail
    refine bodyPost_ret (v := .tuple #[.int .i64 0, .int .i64 k]) (by simp [results, Try.results19, go_sem]) rfl ?_
    rw [E.out]
    exact ⟨rfl, D1⟩

set_option maxHeartbeats 4000000 in
theorem implEndOf_any (S : Int) (A : Option Addr) (n c : Nat) (l : List Tb) (A' : Option Addr) (n' c' : Nat) (st : List Int) (u : Int) (w : World) (h : TubesAt w A l) (hl : n = l.length) (hn0 : n ≤ 1048576) (h' : IntsAt w A' st) (hl' : n' = st.length) (hn0' : n' ≤ 1048576) :
    Calls Try.prog 20 #[.agg #[.int .i64 S, .slice A n c], .slice A' n' c', .int .i64 u] w (Ret w (.tuple #[.int .i64 (endS S l st u).1, .int .i64 (endS S l st u).2])) := by
  have HL := Lib.hid hl
  have HL' := Lib.hid hl'
  have H := Lib.hid h
  have H' := Lib.hid h'
  clear hl hl' h h'
  go_enter Try.func20, Try.ntmps20
  go_wp2_with fail
  refine (settingCode_any S A n c l A' n' c' st _ 1 1 [u] _ ((H.out.alloc _).alloc _) HL.out hn0 ((H'.out.alloc _).alloc _) HL'.out hn0' (IntsAt.lit _ _ [u] (by simp)) rfl (by omega)).mono ?_
  rintro e w1 ⟨rfl, hb1⟩
  have D1 : Below w.heap.size w w1 := Below.trans (by go_grown) (hb1.mono (by simp only [World.size_alloc]; omega))
  have N1 : Hid (Blk w1 w.heap.size 30 #[.int .i64 S, .slice A n c]) := bel_blk ((Blk.new _ _ _).alloc _) hb1
  obtain ⟨a0, a1, -⟩ := N1.out.c2
  clear hb1
  obtain ⟨k, hk⟩ : ∃ k, codeS S l st [u] = k := ⟨_, rfl⟩
  rw [hk]
  by_cases h0 : k = 0
  · subst h0
    have hv := (codeS_zero hk).1
    obtain ⟨u0, u1⟩ := codeS_in1 hk
    obtain ⟨v0, v1, -, -⟩ := validN_true (setOK_true hv).1
    obtain ⟨s, rfl⟩ : ∃ s : Nat, S = s := ⟨S.toNat, by omega⟩
    obtain ⟨q, rfl⟩ : ∃ q : Nat, u = q := ⟨u.toNat, by omega⟩
    obtain ⟨x, hx⟩ : ∃ x, stopF l st s q = x := ⟨_, rfl⟩
    have E : Hid (endS s l st q = if x < 0 then (0, 9) else (x, 0)) := by show _ = _; unfold endS; rw [if_pos hk, Int.toNat_natCast, Int.toNat_natCast, hx]
    have HV := Lib.hid hv
    have HX := Lib.hid hx
    clear hk hv hx u0
    go_wp2_with fail
    refine (stopOf_any s A n c l A' n' c' st q _ (H.out.bel D1) HL.out (H'.out.bel D1) HL'.out HV.out (by omega)).mono ?_
    simp only [Int.toNat_natCast]
    rw [HX.out]
    rintro e w2 ⟨rfl, hb2⟩
    have D2 := bel_next D1 hb2
    rcases Int.lt_or_le x 0 with hx0 | hx0
    · have E2 : Hid (endS s l st q = (0, 9)) := by show _ = _; rw [E.out, if_pos hx0]
      go_wp2_with fail
      refine bodyPost_ret (v := .tuple #[.int .i64 0, .int .i64 9]) (by simp [results, Try.results20, go_sem]) rfl ?_
      rw [E2.out]
      exact ⟨rfl, D2⟩
    · have E2 : Hid (endS s l st q = (x, 0)) := by show _ = _; rw [E.out, if_neg (by omega)]
      go_wp2_with fail
      refine bodyPost_ret (v := .tuple #[.int .i64 x, .int .i64 0]) (by simp [results, Try.results20, go_sem]) rfl ?_
      rw [E2.out]
      exact ⟨rfl, D2⟩
  · have E : Hid (endS S l st u = (0, k)) := by show _ = _; unfold endS; rw [if_neg (by rw [hk]; exact h0), hk]
    clear hk
    go_wp2_with fail
    refine bodyPost_ret (v := .tuple #[.int .i64 0, .int .i64 k]) (by simp [results, Try.results20, go_sem]) rfl ?_
    rw [E.out]
    exact ⟨rfl, D1⟩

end Go.Proofs.Ythkfdpicacaphaa
