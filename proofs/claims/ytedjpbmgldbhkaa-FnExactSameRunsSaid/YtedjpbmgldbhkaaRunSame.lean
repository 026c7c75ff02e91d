/-
  CONTRACTS: equal lists of integers, equal lists of runs.
-/
import Derived.Test.YtedjpbmgldbhkaaRunV
namespace Go.Proofs.Ytedjpbmgldbhkaa
open Go.RowKit

theorem eqL_step {l l' : List Int} {i : Nat} (h : i < l.length) (h' : i < l'.length) : (l.drop i == l'.drop i) = (l[i] == l'[i] && (l.drop (i + 1) == l'.drop (i + 1))) := by
  rw [drop_at' h, drop_at' h']; rfl
theorem eqL_len {l l' : List Int} (h : l.length ≠ l'.length) : (l == l') = false := by
  rw [beq_eq_false_iff_ne]
  rintro rfl
  exact h rfl

set_option maxHeartbeats 1000000 in
theorem l00Same_any (A A' : Option Addr) (n n' c c' : Nat) (l l' : List Int) (w : World) (h : IntsAt w A l) (h' : IntsAt w A' l') (hl : n = l.length) (hl' : n' = l'.length) (hn0 : n ≤ 1048576) (hn0' : n' ≤ 1048576) :
    Calls Try.prog 42 #[.slice A n c, .slice A' n' c'] w (RetN w (.bool (l == l'))) := by
  have H := Lib.hid h
  have H' := Lib.hid h'
  have HL := Lib.hid hl
  have HL' := Lib.hid hl'
  by_cases hne : n = n'
  · have E : Hid ((l == l') = (l.drop 0 == l'.drop 0)) := rfl
    subst hne
    clear h h' hl hl'
    go_enter Try.func42, Try.ntmps42
    go_wp2
    go_loopw [5] (fun u w' => ∃ (i m : Nat), u = .int .i64 i ∧ i ≤ n ∧ Hid ((l == l') = (l.drop i == l'.drop i)) ∧ w' = w.drewN m) (fun u _ => n - (intOf u).toNat)
    case atStart => exact ⟨0, 0, rfl, by omega, E, rfl⟩
    case round =>
      clear E
      obtain ⟨i, m, rfl, hin, HE, rfl⟩ := hrel
      by_cases hlt : i < n
      · obtain ⟨b, o, rfl, hblt, hc⟩ := H.out (by rw [← HL.out]; omega)
        obtain ⟨b', o', rfl, hblt', hc'⟩ := H'.out (by rw [← HL'.out]; omega)
        have hil : i < l.length := by rw [← HL.out]; exact hlt
        have hil' : i < l'.length := by rw [← HL'.out]; exact hlt
        have c0 := hc i hil
        have d0 := hc' i hil'
        have hd := eqL_step hil hil'
        clear hc hc'
        by_cases hv : l[i] = l'[i]
        · have hb : (l[i] == l'[i]) = true := by simpa using hv
          have HS : Hid ((l == l') = (l.drop (i + 1) == l'.drop (i + 1))) := by show _ = _; rw [HE.out, hd, hb]; rfl
          clear hd hv
          go_wp2_with fail
          go_quiet (fail)
          go_wp2_with fail
          go_roundw
          case rel => exact ⟨i + 1, _, by go_num, by omega, HS, rfl⟩
          case measure => simp [intOf]; omega
        · have hb : (l[i] == l'[i]) = false := by simpa using hv
          have HS : Hid ((l == l') = false) := by show _ = _; rw [HE.out, hd, hb]; rfl
          clear hd hv
          go_wp2_with fail
          go_quiet (fail)
          go_wp2_with fail
          go_ret
          rw [HS.out]
          exact ⟨rfl, _, World.drewN_drewN _ _ _⟩
      · have HS : Hid ((l == l') = true) := by show _ = _; rw [HE.out, List.drop_of_length_le (by rw [← HL.out]; omega), List.drop_of_length_le (by rw [← HL'.out]; omega)]; rfl
        go_wp2_with fail
        go_ret
        rw [HS.out]
        exact ⟨rfl, _, rfl⟩
  · have HS : Hid ((l == l') = false) := by show _ = _; exact eqL_len (by rw [← hl, ← hl']; exact hne)
    clear h h' hl hl'
    go_enter Try.func42, Try.ntmps42
    go_wp2_with fail
    go_ret
    rw [HS.out]
    exact ⟨rfl, 0, rfl⟩

set_option maxHeartbeats 1000000 in
theorem Equal_any (A A' : Option Addr) (n n' c c' : Nat) (l l' : List Int) (w : World) (h : IntsAt w A l) (h' : IntsAt w A' l') (hl : n = l.length) (hl' : n' = l'.length) (hn0 : n ≤ 1048576) (hn0' : n' ≤ 1048576) :
    Calls Try.prog 60 #[.slice A n c, .slice A' n' c'] w (RetN w (.bool (l == l'))) := by
  have H := Lib.hid h
  have H' := Lib.hid h'
  have HL := Lib.hid hl
  have HL' := Lib.hid hl'
  by_cases hne : n = n'
  · have E : Hid ((l == l') = (l.drop 0 == l'.drop 0)) := rfl
    subst hne
    clear h h' hl hl'
    go_enter Try.func60, Try.ntmps60
    go_wp2
    go_loopw [13] (fun u w' => ∃ (i m : Nat), u = .int .i64 i ∧ i ≤ n ∧ Hid ((l == l') = (l.drop i == l'.drop i)) ∧ w' = w.drewN m) (fun u _ => n - (intOf u).toNat)
    case atStart => exact ⟨0, 0, rfl, by omega, E, rfl⟩
    case round =>
      clear E
      obtain ⟨i, m, rfl, hin, HE, rfl⟩ := hrel
      by_cases hlt : i < n
      · obtain ⟨b, o, rfl, hblt, hc⟩ := H.out (by rw [← HL.out]; omega)
        obtain ⟨b', o', rfl, hblt', hc'⟩ := H'.out (by rw [← HL'.out]; omega)
        have hil : i < l.length := by rw [← HL.out]; exact hlt
        have hil' : i < l'.length := by rw [← HL'.out]; exact hlt
        have c0 := hc i hil
        have d0 := hc' i hil'
        have hd := eqL_step hil hil'
        clear hc hc'
        by_cases hv : l[i] = l'[i]
        · have hb : (l[i] == l'[i]) = true := by simpa using hv
          have HS : Hid ((l == l') = (l.drop (i + 1) == l'.drop (i + 1))) := by show _ = _; rw [HE.out, hd, hb]; rfl
          clear hd hv
          go_wp2_with fail
          go_quiet (fail)
          go_wp2_with fail
          go_roundw
          case rel => exact ⟨i + 1, _, by go_num, by omega, HS, rfl⟩
          case measure => simp [intOf]; omega
        · have hb : (l[i] == l'[i]) = false := by simpa using hv
          have HS : Hid ((l == l') = false) := by show _ = _; rw [HE.out, hd, hb]; rfl
          clear hd hv
          go_wp2_with fail
          go_quiet (fail)
          go_wp2_with fail
          go_ret
          rw [HS.out]
          exact ⟨rfl, _, World.drewN_drewN _ _ _⟩
      · have HS : Hid ((l == l') = true) := by show _ = _; rw [HE.out, List.drop_of_length_le (by rw [← HL.out]; omega), List.drop_of_length_le (by rw [← HL'.out]; omega)]; rfl
        go_wp2_with fail
        go_ret
        rw [HS.out]
        exact ⟨rfl, _, rfl⟩
  · have HS : Hid ((l == l') = false) := by show _ = _; exact eqL_len (by rw [← hl, ← hl']; exact hne)
    clear h h' hl hl'
    go_enter Try.func60, Try.ntmps60
    go_wp2_with fail
    go_ret
    rw [HS.out]
    exact ⟨rfl, 0, rfl⟩

/-- Two runs are equal. -/
def sameRn (r s : Rn) : Bool := r.2 == s.2 && r.1 == s.1
def sameRs : List Rn → List Rn → Bool
  | [], [] => true
  | r :: rs, s :: ss => sameRn r s && sameRs rs ss
  | _, _ => false
theorem sameRs_step {l l' : List Rn} {i : Nat} (h : i < l.length) (h' : i < l'.length) : sameRs (l.drop i) (l'.drop i) = (sameRn l[i] l'[i] && sameRs (l.drop (i + 1)) (l'.drop (i + 1))) := by
  rw [drop_at' h, drop_at' h', sameRs]
theorem sameRs_len : ∀ (l l' : List Rn), l.length ≠ l'.length → sameRs l l' = false
  | [], [], h => absurd rfl h
  | [], _ :: _, _ => rfl
  | _ :: _, [], _ => rfl
  | r :: rs, s :: ss, h => by rw [sameRs, sameRs_len rs ss (by simpa using h)]; simp

set_option maxHeartbeats 2000000 in
theorem specSameRuns_any (A : Option Addr) (n c : Nat) (l : List Rn) (A' : Option Addr) (n' c' : Nat) (l' : List Rn) (w : World) (h : RunsAt w A l) (hl : n = l.length) (hs : Small l) (h' : RunsAt w A' l') (hl' : n' = l'.length) (hs' : Small l') :
    Calls Try.prog 15 #[.slice A n c, .slice A' n' c'] w (Ret w (.bool (sameRs l l'))) := by
  have hn0 : n ≤ 1048576 := by rw [hl]; exact hs.1
  have hn0' : n' ≤ 1048576 := by rw [hl']; exact hs'.1
  have H := Lib.hid h
  have H' := Lib.hid h'
  have HL := Lib.hid hl
  have HL' := Lib.hid hl'
  have HS := Lib.hid hs
  have HS' := Lib.hid hs'
  by_cases hne : n = n'
  · have E : Hid (sameRs l l' = sameRs (l.drop 0) (l'.drop 0)) := rfl
    subst hne
    clear h h' hl hl' hs hs'
    go_enter Try.func15, Try.ntmps15
    go_wp2_with fail
    go_loopw [5] (fun u w' => ∃ (i : Nat), u = .int .i64 i ∧ i ≤ n ∧ Hid (sameRs l l' = sameRs (l.drop i) (l'.drop i)) ∧ Below w.heap.size w w') (fun u _ => n - (intOf u).toNat)
    case atStart => exact ⟨0, rfl, by omega, E, Below.refl _ _⟩
    case round =>
      clear E
      obtain ⟨i, rfl, hin, HE, hbel⟩ := hrel
      by_cases hlt : i < n
      · obtain ⟨b, o, rfl, hblt, hc⟩ := H.out (by rw [← HL.out]; omega)
        obtain ⟨b', o', rfl, hblt', hc'⟩ := H'.out (by rw [← HL'.out]; omega)
        have hil : i < l.length := by rw [← HL.out]; exact hlt
        have hil' : i < l'.length := by rw [← HL'.out]; exact hlt
        obtain ⟨A1, c1, t0, t1, W1, -⟩ := (hc i hil).bel hbel
        obtain ⟨A2, c2, d0, d1, W2, -⟩ := (hc' i hil').bel hbel
        have hsm := HS.out.2 i hil
        have hsm' := HS'.out.2 i hil'
        have hd := sameRs_step hil hil'
        obtain ⟨r, hr⟩ : ∃ r, l[i] = r := ⟨_, rfl⟩
        obtain ⟨s, hs⟩ : ∃ s, l'[i] = s := ⟨_, rfl⟩
        rw [hr] at t0 t1 W1 hsm hd
        rw [hs] at d0 d1 W2 hsm' hd
        have HW1 := Lib.hid W1
        have HW2 := Lib.hid W2
        obtain ⟨k, hk⟩ : ∃ k, r.1.length = k := ⟨_, rfl⟩
        obtain ⟨k', hk'⟩ : ∃ k, s.1.length = k := ⟨_, rfl⟩
        rw [hk] at t0 hsm
        rw [hk'] at d0 hsm'
        have HK := Lib.hid hk
        have HK' := Lib.hid hk'
        clear hc hc' hr hs hk hk' W1 W2
        have hsame : sameRn r s = (r.2 == s.2 && r.1 == s.1) := rfl
        obtain ⟨x, hx⟩ : ∃ x, r.2 = x := ⟨_, rfl⟩
        obtain ⟨y, hy⟩ : ∃ y, s.2 = y := ⟨_, rfl⟩
        rw [hx] at t1 hsame
        rw [hy] at d1 hsame
        rw [hsame] at hd
        clear hx hy hsame
        by_cases hv : x = y
        · subst hv
          cases hw : (r.1 == s.1)
          · have HF : Hid (sameRs l l' = false) := by show _ = _; rw [HE.out, hd, hw]; simp
            clear hd
            go_wp2_with fail
            go_region_held3 (fun w' => w'.cell? ⟨b, o + i * 2, none⟩ = some (.slice A1 k c1) ∧ w'.cell? ⟨b, o + i * 2 + 1, none⟩ = some (.int .i64 x) ∧
                w'.cell? ⟨b', o' + i * 2, none⟩ = some (.slice A2 k' c2) ∧ w'.cell? ⟨b', o' + i * 2 + 1, none⟩ = some (.int .i64 x) ∧ IntsAt w' A1 r.1 ∧ IntsAt w' A2 s.1 ∧ Below w.heap.size w w')
              (first
                | (refine ⟨t0, t1, d0, d1, HW1.out.bel (by go_grown), HW2.out.bel (by go_grown), ?_⟩; go_grown; done)
                | (have hS := ‹_ ∧ _ ∧ _ ∧ _ ∧ _ ∧ _ ∧ _›; exact ⟨bel_cell hb4 hS.1, bel_cell hb4 hS.2.1, bel_cell hb4 hS.2.2.1, bel_cell hb4 hS.2.2.2.1, IntsAt.bel hS.2.2.2.2.1 hb4, IntsAt.bel hS.2.2.2.2.2.1 hb4, bel_next hS.2.2.2.2.2.2 hb4⟩))
              (first
                | (go_at_call 42; (with_reducible refine ((l00Same_any A1 A2 k k' c1 c2 r.1 s.1 _ (by first | exact (‹_ ∧ _ ∧ _ ∧ _ ∧ _ ∧ _ ∧ _›).2.2.2.2.1 | exact HW1.out.drew | exact HW1.out) (by first | exact (‹_ ∧ _ ∧ _ ∧ _ ∧ _ ∧ _ ∧ _›).2.2.2.2.2.1 | exact HW2.out.drew | exact HW2.out) HK.out.symm HK'.out.symm hsm hsm').mono (fun _ _ h => h.toB)).mono ?_); rintro e w4 ⟨rfl, hb4⟩; (try rw [hw])))
            obtain ⟨-, -, -, -, -, -, D⟩ := ‹_ ∧ _ ∧ _ ∧ _ ∧ _ ∧ _ ∧ _›
            go_wp2_with fail
            go_ret
            rw [HF.out]
            exact ⟨rfl, D⟩
          · have HF : Hid (sameRs l l' = sameRs (l.drop (i + 1)) (l'.drop (i + 1))) := by show _ = _; rw [HE.out, hd, hw]; simp
            clear hd
            go_wp2_with fail
            go_region_held3 (fun w' => w'.cell? ⟨b, o + i * 2, none⟩ = some (.slice A1 k c1) ∧ w'.cell? ⟨b, o + i * 2 + 1, none⟩ = some (.int .i64 x) ∧
                w'.cell? ⟨b', o' + i * 2, none⟩ = some (.slice A2 k' c2) ∧ w'.cell? ⟨b', o' + i * 2 + 1, none⟩ = some (.int .i64 x) ∧ IntsAt w' A1 r.1 ∧ IntsAt w' A2 s.1 ∧ Below w.heap.size w w')
              (first
                | (refine ⟨t0, t1, d0, d1, HW1.out.bel (by go_grown), HW2.out.bel (by go_grown), ?_⟩; go_grown; done)
                | (have hS := ‹_ ∧ _ ∧ _ ∧ _ ∧ _ ∧ _ ∧ _›; exact ⟨bel_cell hb4 hS.1, bel_cell hb4 hS.2.1, bel_cell hb4 hS.2.2.1, bel_cell hb4 hS.2.2.2.1, IntsAt.bel hS.2.2.2.2.1 hb4, IntsAt.bel hS.2.2.2.2.2.1 hb4, bel_next hS.2.2.2.2.2.2 hb4⟩))
              (first
                | (go_at_call 42; (with_reducible refine ((l00Same_any A1 A2 k k' c1 c2 r.1 s.1 _ (by first | exact (‹_ ∧ _ ∧ _ ∧ _ ∧ _ ∧ _ ∧ _›).2.2.2.2.1 | exact HW1.out.drew | exact HW1.out) (by first | exact (‹_ ∧ _ ∧ _ ∧ _ ∧ _ ∧ _ ∧ _›).2.2.2.2.2.1 | exact HW2.out.drew | exact HW2.out) HK.out.symm HK'.out.symm hsm hsm').mono (fun _ _ h => h.toB)).mono ?_); rintro e w4 ⟨rfl, hb4⟩; (try rw [hw])))
            obtain ⟨-, -, -, -, -, -, D⟩ := ‹_ ∧ _ ∧ _ ∧ _ ∧ _ ∧ _ ∧ _›
            go_wp2_with fail
            go_roundw
            case rel => exact ⟨i + 1, by go_num, by omega, HF, D⟩
            case measure => simp [intOf]; omega
        · have hb : (x == y) = false := by simpa using hv
          have HF : Hid (sameRs l l' = false) := by show _ = _; rw [HE.out, hd, hb]; simp
          clear hd
          go_wp2_with fail
          go_quiet (fail)
          go_wp2_with fail
          go_ret
          rw [HF.out]
          exact ⟨rfl, below_drewN hbel _⟩
      · have HF : Hid (sameRs l l' = true) := by show _ = _; rw [HE.out, List.drop_of_length_le (by rw [← HL.out]; omega), List.drop_of_length_le (by rw [← HL'.out]; omega)]; rfl
        go_wp2_with fail
        go_ret
        rw [HF.out]
        exact ⟨rfl, hbel⟩
  · have HF : Hid (sameRs l l' = false) := by show _ = _; exact sameRs_len _ _ (by rw [← hl, ← hl']; exact hne)
    clear h h' hl hl' hs hs'
    go_enter Try.func15, Try.ntmps15
    go_wp2_with fail
    go_ret
    rw [HF.out]
    exact ⟨rfl, Below.refl _ _⟩

theorem sameRun_any (A A' : Option Addr) (n n' c c' : Nat) (r s : Rn) (w : World) (h : IntsAt w A r.1) (h' : IntsAt w A' s.1) (hl : n = r.1.length) (hl' : n' = s.1.length) (hn0 : n ≤ 1048576) (hn0' : n' ≤ 1048576) :
    Calls Try.prog 44 #[.agg #[.slice A n c, .int .i64 r.2], .agg #[.slice A' n' c', .int .i64 s.2]] w (Ret w (.bool (sameRn r s))) := by
  have H := Lib.hid h
  have H' := Lib.hid h'
  have HL := Lib.hid hl
  have HL' := Lib.hid hl'
  clear h h' hl hl'
  by_cases hv : r.2 = s.2
  · have hb : (r.2 == s.2) = true := by simpa using hv
    have E : Hid (sameRn r s = (r.1 == s.1)) := by show _ = _; simp [sameRn, hv]
    clear hv
    go_enter Try.func44, Try.ntmps44
    go_wp2_with fail
    refine (Equal_any A A' n n' c c' r.1 s.1 _ ((H.out.alloc _).alloc _) ((H'.out.alloc _).alloc _) HL.out HL'.out hn0 hn0').mono ?_
    rintro e w1 ⟨rfl, m, rfl⟩
    go_wp2_with fail
    go_ret
    rw [E.out]
    exact ⟨rfl, below_drewN (by go_grown) _⟩
  · have hb : (r.2 == s.2) = false := by simpa using hv
    have E : Hid (sameRn r s = false) := by show _ = _; simp [sameRn, hb]
    clear hv
    go_enter Try.func44, Try.ntmps44
    go_wp2_with fail
    go_ret
    rw [E.out]
    exact ⟨rfl, by go_grown⟩

set_option maxHeartbeats 2000000 in
theorem EqualFunc_runs (A : Option Addr) (n c : Nat) (l : List Rn) (A' : Option Addr) (n' c' : Nat) (l' : List Rn) (w : World) (h : RunsAt w A l) (hl : n = l.length) (hs : Small l) (h' : RunsAt w A' l') (hl' : n' = l'.length) (hs' : Small l') :
    Calls Try.prog 43 #[.slice A n c, .slice A' n' c', .func (.func 44) #[] #[]] w (Ret w (.bool (sameRs l l'))) := by
  have hn0 : n ≤ 1048576 := by rw [hl]; exact hs.1
  have hn0' : n' ≤ 1048576 := by rw [hl']; exact hs'.1
  have H := Lib.hid h
  have H' := Lib.hid h'
  have HL := Lib.hid hl
  have HL' := Lib.hid hl'
  have HS := Lib.hid hs
  have HS' := Lib.hid hs'
  by_cases hne : n = n'
  · have E : Hid (sameRs l l' = sameRs (l.drop 0) (l'.drop 0)) := rfl
    subst hne
    clear h h' hl hl' hs hs'
    go_enter Try.func43, Try.ntmps43
    go_wp2_with fail
    go_loopw [17] (fun u w' => ∃ (i : Nat), u = .int .i64 i ∧ i ≤ n ∧ Hid (sameRs l l' = sameRs (l.drop i) (l'.drop i)) ∧ Below w.heap.size w w') (fun u _ => n - (intOf u).toNat)
    case atStart => exact ⟨0, rfl, by omega, E, Below.refl _ _⟩
    case round =>
      clear E
      obtain ⟨i, rfl, hin, HE, hbel⟩ := hrel
      by_cases hlt : i < n
      · obtain ⟨b, o, rfl, hblt, hc⟩ := H.out (by rw [← HL.out]; omega)
        obtain ⟨b', o', rfl, hblt', hc'⟩ := H'.out (by rw [← HL'.out]; omega)
        have hil : i < l.length := by rw [← HL.out]; exact hlt
        have hil' : i < l'.length := by rw [← HL'.out]; exact hlt
        obtain ⟨A1, c1, t0, t1, W1, -⟩ := (hc i hil).bel hbel
        obtain ⟨A2, c2, d0, d1, W2, -⟩ := (hc' i hil').bel hbel
        have hsm := HS.out.2 i hil
        have hsm' := HS'.out.2 i hil'
        have hd := sameRs_step hil hil'
        obtain ⟨r, hr⟩ : ∃ r, l[i] = r := ⟨_, rfl⟩
        obtain ⟨s, hs⟩ : ∃ s, l'[i] = s := ⟨_, rfl⟩
        rw [hr] at t0 t1 W1 hsm hd
        rw [hs] at d0 d1 W2 hsm' hd
        have HW1 := Lib.hid W1
        have HW2 := Lib.hid W2
        obtain ⟨k, hk⟩ : ∃ k, r.1.length = k := ⟨_, rfl⟩
        obtain ⟨k', hk'⟩ : ∃ k, s.1.length = k := ⟨_, rfl⟩
        rw [hk] at t0 hsm
        rw [hk'] at d0 hsm'
        have HK := Lib.hid hk
        have HK' := Lib.hid hk'
        have hbw : b < wr.heap.size := cell_lt t0
        have hbw' : b' < wr.heap.size := cell_lt d0
        clear hc hc' hr hs hk hk' W1 W2
        go_wp2_with fail
        refine (sameRun_any A1 A2 k k' c1 c2 r s _ ((HW1.out.alloc _).alloc _) ((HW2.out.alloc _).alloc _) HK.out.symm HK'.out.symm hsm hsm').mono ?_
        rintro e w2 ⟨rfl, hb2⟩
        have D2 : Below w.heap.size w w2 := bel_next hbel (Below.trans (by go_grown) (hb2.mono (by simp; omega)))
        clear hb2
        cases hv : sameRn r s
        · have HF : Hid (sameRs l l' = false) := by show _ = _; rw [HE.out, hd, hv]; rfl
          clear hd
          go_wp2_with fail
          go_ret
          rw [HF.out]
          exact ⟨rfl, D2⟩
        · have HF : Hid (sameRs l l' = sameRs (l.drop (i + 1)) (l'.drop (i + 1))) := by show _ = _; rw [HE.out, hd, hv]; rfl
          clear hd
          go_wp2_with fail
          go_roundw
          case rel => exact ⟨i + 1, by go_num, by omega, HF, D2⟩
          case measure => simp [intOf]; omega
      · have HF : Hid (sameRs l l' = true) := by show _ = _; rw [HE.out, List.drop_of_length_le (by rw [← HL.out]; omega), List.drop_of_length_le (by rw [← HL'.out]; omega)]; rfl
        go_wp2_with fail
        go_ret
        rw [HF.out]
        exact ⟨rfl, hbel⟩
  · have HF : Hid (sameRs l l' = false) := by show _ = _; exact sameRs_len _ _ (by rw [← hl, ← hl']; exact hne)
    clear h h' hl hl' hs hs'
    go_enter Try.func43, Try.ntmps43
    go_wp2_with fail
    go_ret
    rw [HF.out]
    exact ⟨rfl, Below.refl _ _⟩

theorem implSameRuns_any (A : Option Addr) (n c : Nat) (l : List Rn) (A' : Option Addr) (n' c' : Nat) (l' : List Rn) (w : World) (h : RunsAt w A l) (hl : n = l.length) (hs : Small l) (h' : RunsAt w A' l') (hl' : n' = l'.length) (hs' : Small l') :
    Calls Try.prog 17 #[.slice A n c, .slice A' n' c'] w (Ret w (.bool (sameRs l l'))) := by
  have HL := Lib.hid hl
  have HL' := Lib.hid hl'
  have HS := Lib.hid hs
  have HS' := Lib.hid hs'
  clear hl hl' hs hs'
  go_enter Try.func17, Try.ntmps17
  go_wp2_with fail
  refine (EqualFunc_runs A n c l A' n' c' l' _ h HL.out HS.out h' HL'.out HS'.out).mono ?_
  rintro e w1 ⟨rfl, hb⟩
  go_wp2_with fail
  go_ret
  exact ⟨rfl, hb⟩

end Go.Proofs.Ytedjpbmgldbhkaa
