/-
  CONTRACTS: the stations from which a carrier never stops (printed by tools/gen_route.py).
-/
import Derived.Test.YthkfdpicacaphaaEndOf
namespace Go.Proofs.Ythkfdpicacaphaa
open Go.RowKit

/-- The numbers below k that a test lets through, from j on. -/
def filterI (p : Nat → Bool) (k j : Nat) : List Int := (((List.range k).drop j).filter p).map fun (x : Nat) => (x : Int)
theorem filterI_step {p : Nat → Bool} {k j : Nat} (h : j < k) : filterI p k j = if p j then (j : Int) :: filterI p k (j + 1) else filterI p k (j + 1) := by
  unfold filterI
  rw [drop_at' (show j < (List.range k).length by simpa using h), List.filter_cons]
  simp only [List.getElem_range]
  split <;> simp
theorem filterI_end {p : Nat → Bool} {k j : Nat} (h : k ≤ j) : filterI p k j = [] := by
  unfold filterI
  rw [List.drop_of_length_le (by simpa using h)]; rfl
theorem filterI_le (p : Nat → Bool) (k j : Nat) : (filterI p k j).length ≤ k := by
  unfold filterI
  rw [List.length_map]
  refine Nat.le_trans (List.length_filter_le _ _) ?_
  rw [List.length_drop, List.length_range]
  omega

def circP (s : Nat) (l : List Tb) (st : List Int) (g : Nat) : Bool := decide (stopF l st s g < 0)
def circR (S : Int) (l : List Tb) (st : List Int) : List Int × Int := if setOK S l st then (filterI (circP S.toNat l st) S.toNat 0, 0) else ([], 1)
theorem circR_len {S : Int} {l : List Tb} {st : List Int} : (circR S l st).1.length ≤ 1048576 := by
  unfold circR
  split
  · rename_i h
    obtain ⟨v0, v1, -, -⟩ := validN_true (setOK_true h).1
    have := filterI_le (circP S.toNat l st) S.toNat 0
    show (filterI (circP S.toNat l st) S.toNat 0).length ≤ _
    omega
  · simp

set_option maxHeartbeats 4000000 in
theorem specCirc_any (S : Int) (A : Option Addr) (n c : Nat) (l : List Tb) (A' : Option Addr) (n' c' : Nat) (st : List Int) (w : World) (h : TubesAt w A l) (hl : n = l.length) (hn0 : n ≤ 1048576) (h' : IntsAt w A' st) (hl' : n' = st.length) (hn0' : n' ≤ 1048576) :
    Calls Try.prog 21 #[.agg #[.int .i64 S, .slice A n c], .slice A' n' c'] w (MadeIC w 2 (circR S l st).1 (circR S l st).2) := by
  obtain ⟨i0, hi, hz0, hz1, hz2⟩ := info_parts info_int64F
  have HI := Lib.hid (And.intro hi (And.intro hz0 (And.intro hz1 hz2)))
  have HL := Lib.hid hl
  have HL' := Lib.hid hl'
  have H := Lib.hid h
  have H' := Lib.hid h'
  clear hl hl' h h' hi hz0 hz1 hz2
  go_enter Try.func21, Try.ntmps21
  go_wp2_with fail
  refine (l04Ok_any _ S A n c l A' n' c' st _ (NetAt.box H.out _) HL.out hn0 (H'.out.alloc _) HL'.out hn0').mono ?_
  rintro e w1 ⟨rfl, hb1⟩
  have D1 : Below w.heap.size w w1 := Below.trans (by go_grown) (hb1.mono (by simp))
  have N1 : Hid (Blk w1 w.heap.size 30 #[.int .i64 S, .slice A n c]) := bel_blk (Blk.new _ _ _) hb1
  clear hb1
  obtain ⟨a0, a1, -⟩ := N1.out.c2
  cases hv : setOK S l st
  · have E : Hid (circR S l st = ([], 1)) := by show _ = _; simp [circR, hv]
    clear hv
    go_wp2_with fail
    refine bodyPost_ret (v := .tuple #[.slice none 0 0, .int .i64 1]) (by simp [results, Try.results21, go_sem]) rfl ?_
    rw [E.out]
    exact ⟨none, 0, rfl, own_none _ _ _, D1⟩
  · obtain ⟨v0, v1, -, -⟩ := validN_true (setOK_true hv).1
    obtain ⟨s, rfl⟩ : ∃ s : Nat, S = s := ⟨S.toNat, by omega⟩
    have E : Hid (circR s l st = (filterI (circP s l st) s 0, 0)) := by show _ = _; unfold circR; rw [if_pos hv, Int.toNat_natCast]
    have HV := Lib.hid hv
    have hs10 : s ≤ 10 := by omega
    have sD := D1.size
    have sN := N1.out.lt
    clear hv
    go_wp2_with fail
    go_loopw [6, 7] (fun v u w' => ∃ (j : Nat) (xs : List Int), u = .int .i64 j ∧ j ≤ s ∧ xs.length ≤ j ∧ w'.ownsRow (w.heap.size + 1) 2 1 v xs.length (xs.map (Value.int .i64)) ∧ Hid (xs ++ filterI (circP s l st) s j = filterI (circP s l st) s 0) ∧ Hid (Blk w' w.heap.size 30 #[.int .i64 s, .slice A n c]) ∧ Below w.heap.size w w') (fun _ u _ => s - (intOf u).toNat)
    case atStart => exact ⟨0, [], rfl, by omega, by simp, own_nil' _ _ _ rfl (by have := N1.out.lt; omega), rfl, N1.out.alloc _, D1.alloc D1.size _⟩
    case round =>
      clear N1 a0 a1 D1 sD sN
      obtain ⟨j, xs, rfl, hjs, hxj, hown, HS, HN, hbel⟩ := hrel
      obtain ⟨b0, b1, -⟩ := HN.out.c2
      have HO := Lib.hid hown
      clear hown
      by_cases hlt : j < s
      · have hst := filterI_step (p := circP s l st) hlt
        have hpx : circP s l st j = decide (stopF l st s j < 0) := rfl
        rw [hpx] at hst
        have hse := stop_eq HV.out hlt 2
        have hr := runF_stopF l st (s + 1) j []
        rw [show s + 1 + 1 = s + 2 by omega, hse] at hr
        obtain ⟨x, hx⟩ : ∃ x, stopF l st s j = x := ⟨_, rfl⟩
        have hxc := stopF_cases l st s j
        rw [hx] at hr hxc hst
        have HR := Lib.hid hr
        have HX := Lib.hid hx
        have HST := Lib.hid hst
        clear hst hpx hse hr hx
        go_wp2_with fail
        refine (l04Run_any _ s A n c l A' n' c' st j (-1) _ ⟨b0, b1, H.out.bel hbel⟩ HL.out (H'.out.bel hbel) HL'.out HV.out (by omega)).mono ?_
        simp only [Int.toNat_natCast]
        rw [HR.out]
        rintro e w2 ⟨A2, c2, rfl, -, hb2⟩
        have D2 := bel_next hbel hb2
        have HN2 := hid_blk HN hb2
        replace HO := Lib.hid (own_bel HO.out hb2)
        have s2 := D2.size
        clear hb2 HN b0 b1 hbel HR HX
        rcases hxc with rfl | hx0
        · have HS2 : Hid ((xs ++ [(j : Int)]) ++ filterI (circP s l st) s (j + 1) = filterI (circP s l st) s 0) := by show _ = _; rw [← HS.out, HST.out, if_pos (by simp), List.append_assoc]; rfl
          clear HST HS
          go_wp2_with (at_builtin; refine wpList_append_own _ rfl _ _ 25 rfl (w.heap.size + 1) 2 i0 (.int .i64 0) 1 8 Try.underlying25 HI.out.1 HI.out.2.1 HI.out.2.2.1 HI.out.2.2.2 rfl (by decide) _ _ _ rfl (HO.out.alloc _) ⟨w2.heap.size, 0, none⟩ 1 1 [.int .i64 (j : Int)] rfl rfl ?c1 ?c2 ?c3 ?c4 ?c5 ?_)
          try
            case c1 =>
              intro j u hu
              cases j with
              | zero => simp at hu; subst hu; simp [Addr.add]
              | succ j => simp at hu
          try case c2 => first | exact ints_oneCell .i64 [(j : Int)] | rfl
          try case c3 => unfold maxLen; omega
          try case c4 => omega
          try case c5 => first | (simp; omega) | omega
          intro v' w4 hown1 hgrow _
          have hown2 : w4.ownsRow (w.heap.size + 1) 2 1 v' (xs ++ [(j : Int)]).length ((xs ++ [(j : Int)]).map (Value.int .i64)) := by simpa using hown1
          have HO2 := Lib.hid hown2
          have hb4 : Below w.heap.size w w4 := Below.grown (show Below w.heap.size w _ from D2.alloc D2.size _) hgrow (by simp; omega) (fun k hk => by have := (HO.out.lt k hk).1; omega)
          have HNG := (HN2.out.alloc _).grown hgrow (by intro e; have := (HO.out.lt _ e.symm).1; omega)
          clear hown1 hown2 hgrow
          have HN4 : Hid (Blk w4 w.heap.size 30 #[.int .i64 s, .slice A n c]) := HNG
          go_wp2_with fail
          go_roundw
          case rel => exact ⟨j + 1, xs ++ [(j : Int)], by go_num, by omega, by simp; omega, HO2.out, HS2, HN4, hb4⟩
          case measure => simp [intOf]; omega
        · have HS2 : Hid (xs ++ filterI (circP s l st) s (j + 1) = filterI (circP s l st) s 0) := by show _ = _; rw [← HS.out, HST.out, if_neg (by simp; omega)]
          have hb : (x == (-1 : Int)) = false := by rw [beq_eq_false_iff_ne]; omega
          clear HST HS
          go_wp2_with fail
          go_roundw
          case rel => exact ⟨j + 1, xs, by go_num, by omega, by omega, HO.out, HS2, HN2, D2⟩
          case measure => simp [intOf]; omega
      · have HS2 : Hid (xs = filterI (circP s l st) s 0) := by
          show _ = _; rw [← HS.out, filterI_end (by omega)]; simp
        obtain ⟨A2, c2, rfl⟩ := own_form HO.out
        go_wp2_with fail
        refine bodyPost_ret (v := .tuple #[.slice A2 xs.length c2, .int .i64 0]) (by simp [results, Try.results21, go_sem]) rfl ?_
        rw [E.out, ← HS2.out]
        exact ⟨A2, c2, rfl, own_base HO.out (by omega), hbel⟩

set_option maxHeartbeats 4000000 in
theorem implCirc_any (S : Int) (A : Option Addr) (n c : Nat) (l : List Tb) (A' : Option Addr) (n' c' : Nat) (st : List Int) (w : World) (h : TubesAt w A l) (hl : n = l.length) (hn0 : n ≤ 1048576) (h' : IntsAt w A' st) (hl' : n' = st.length) (hn0' : n' ≤ 1048576) :
    Calls Try.prog 22 #[.agg #[.int .i64 S, .slice A n c], .slice A' n' c'] w (MadeIC w 2 (circR S l st).1 (circR S l st).2) := by
  obtain ⟨i0, hi, hz0, hz1, hz2⟩ := info_parts info_int64F
  have HI := Lib.hid (And.intro hi (And.intro hz0 (And.intro hz1 hz2)))
  have HL := Lib.hid hl
  have HL' := Lib.hid hl'
  have H := Lib.hid h
  have H' := Lib.hid h'
  clear hl hl' h h' hi hz0 hz1 hz2
  go_enter Try.func22, Try.ntmps22
  go_wp2_with fail
  refine (settingCode_any S A n c l A' n' c' st none 0 0 [] _ (H.out.alloc _) HL.out hn0 (H'.out.alloc _) HL'.out hn0' (IntsAt.nil _ _) rfl (by omega)).mono ?_
  rintro e w1 ⟨rfl, hb1⟩
  have D1 : Below w.heap.size w w1 := Below.trans (by go_grown) (hb1.mono (by simp))
  have N1 : Hid (Blk w1 w.heap.size 30 #[.int .i64 S, .slice A n c]) := bel_blk (Blk.new _ _ _) hb1
  clear hb1
  obtain ⟨a0, a1, -⟩ := N1.out.c2
  cases hv : setOK S l st
  · have E : Hid (circR S l st = ([], 1)) := by show _ = _; simp [circR, hv]
    have hcd : codeS S l st [] = 1 := by simp [codeS, hv]
    rw [hcd]
    clear hcd
    clear hv
    go_wp2_with fail
    refine bodyPost_ret (v := .tuple #[.slice none 0 0, .int .i64 1]) (by simp [results, Try.results22, go_sem]) rfl ?_
    rw [E.out]
    exact ⟨none, 0, rfl, own_none _ _ _, D1⟩
  · obtain ⟨v0, v1, -, -⟩ := validN_true (setOK_true hv).1
    obtain ⟨s, rfl⟩ : ∃ s : Nat, S = s := ⟨S.toNat, by omega⟩
    have E : Hid (circR s l st = (filterI (circP s l st) s 0, 0)) := by show _ = _; unfold circR; rw [if_pos hv, Int.toNat_natCast]
    have hcd : codeS s l st [] = 0 := by simp [codeS, hv, outB]
    rw [hcd]
    clear hcd
    have HV := Lib.hid hv
    have hs10 : s ≤ 10 := by omega
    have sD := D1.size
    have sN := N1.out.lt
    clear hv
    go_wp2_with fail
    go_loopw [7, 18] (fun v u w' => ∃ (j : Nat) (xs : List Int), u = .int .i64 j ∧ j ≤ s ∧ xs.length ≤ j ∧ w'.ownsRow (w.heap.size + 1) 2 1 v xs.length (xs.map (Value.int .i64)) ∧ Hid (xs ++ filterI (circP s l st) s j = filterI (circP s l st) s 0) ∧ Hid (Blk w' w.heap.size 30 #[.int .i64 s, .slice A n c]) ∧ Below w.heap.size w w') (fun _ u _ => s - (intOf u).toNat)
    case atStart => exact ⟨0, [], rfl, by omega, by simp, own_nil' _ _ _ rfl (by have := N1.out.lt; omega), rfl, N1.out.alloc _, D1.alloc D1.size _⟩
    case round =>
      clear N1 a0 a1 D1 sD sN
      obtain ⟨j, xs, rfl, hjs, hxj, hown, HS, HN, hbel⟩ := hrel
      obtain ⟨b0, b1, -⟩ := HN.out.c2
      have HO := Lib.hid hown
      clear hown
      by_cases hlt : j < s
      · have hst := filterI_step (p := circP s l st) hlt
        have hpx : circP s l st j = decide (stopF l st s j < 0) := rfl
        rw [hpx] at hst
        have hse := stop_eq HV.out hlt 2
        have hr := runF_stopF l st (s + 1) j []
        rw [show s + 1 + 1 = s + 2 by omega, hse] at hr
        obtain ⟨x, hx⟩ : ∃ x, stopF l st s j = x := ⟨_, rfl⟩
        have hxc := stopF_cases l st s j
        rw [hx] at hr hxc hst
        have HR := Lib.hid hr
        have HX := Lib.hid hx
        have HST := Lib.hid hst
        clear hst hpx hse hr hx
        go_wp2_with fail
        refine (stopOf_any s A n c l A' n' c' st j _ (H.out.bel hbel) HL.out (H'.out.bel hbel) HL'.out HV.out (by omega)).mono ?_
        simp only [Int.toNat_natCast]
        rw [HX.out]
        rintro e w2 ⟨rfl, hb2⟩
        have D2 := bel_next hbel hb2
        have HN2 := hid_blk HN hb2
        replace HO := Lib.hid (own_bel HO.out hb2)
        have s2 := D2.size
        clear hb2 HN b0 b1 hbel HR HX
        rcases hxc with rfl | hx0
        · have HS2 : Hid ((xs ++ [(j : Int)]) ++ filterI (circP s l st) s (j + 1) = filterI (circP s l st) s 0) := by show _ = _; rw [← HS.out, HST.out, if_pos (by simp), List.append_assoc]; rfl
          clear HST HS
          go_wp2_with (at_builtin; refine wpList_append_own _ rfl _ _ 25 rfl (w.heap.size + 1) 2 i0 (.int .i64 0) 1 8 Try.underlying25 HI.out.1 HI.out.2.1 HI.out.2.2.1 HI.out.2.2.2 rfl (by decide) _ _ _ rfl (HO.out.alloc _) ⟨w2.heap.size, 0, none⟩ 1 1 [.int .i64 (j : Int)] rfl rfl ?c1 ?c2 ?c3 ?c4 ?c5 ?_)
          try
            case c1 =>
              intro j u hu
              cases j with
              | zero => simp at hu; subst hu; simp [Addr.add]
              | succ j => simp at hu
          try case c2 => first | exact ints_oneCell .i64 [(j : Int)] | rfl
          try case c3 => unfold maxLen; omega
          try case c4 => omega
          try case c5 => first | (simp; omega) | omega
          intro v' w4 hown1 hgrow _
          have hown2 : w4.ownsRow (w.heap.size + 1) 2 1 v' (xs ++ [(j : Int)]).length ((xs ++ [(j : Int)]).map (Value.int .i64)) := by simpa using hown1
          have HO2 := Lib.hid hown2
          have hb4 : Below w.heap.size w w4 := Below.grown (show Below w.heap.size w _ from D2.alloc D2.size _) hgrow (by simp; omega) (fun k hk => by have := (HO.out.lt k hk).1; omega)
          have HNG := (HN2.out.alloc _).grown hgrow (by intro e; have := (HO.out.lt _ e.symm).1; omega)
          clear hown1 hown2 hgrow
          have HN4 : Hid (Blk w4 w.heap.size 30 #[.int .i64 s, .slice A n c]) := HNG
          go_wp2_with fail
          go_roundw
          case rel => exact ⟨j + 1, xs ++ [(j : Int)], by go_num, by omega, by simp; omega, HO2.out, HS2, HN4, hb4⟩
          case measure => simp [intOf]; omega
        · have HS2 : Hid (xs ++ filterI (circP s l st) s (j + 1) = filterI (circP s l st) s 0) := by show _ = _; rw [← HS.out, HST.out, if_neg (by simp; omega)]
          have hb : (x == (-1 : Int)) = false := by rw [beq_eq_false_iff_ne]; omega
          clear HST HS
          go_wp2_with fail
          go_roundw
          case rel => exact ⟨j + 1, xs, by go_num, by omega, by omega, HO.out, HS2, HN2, D2⟩
          case measure => simp [intOf]; omega
      · have HS2 : Hid (xs = filterI (circP s l st) s 0) := by
          show _ = _; rw [← HS.out, filterI_end (by omega)]; simp
        obtain ⟨A2, c2, rfl⟩ := own_form HO.out
        go_wp2_with fail
        refine bodyPost_ret (v := .tuple #[.slice A2 xs.length c2, .int .i64 0]) (by simp [results, Try.results22, go_sem]) rfl ?_
        rw [E.out, ← HS2.out]
        exact ⟨A2, c2, rfl, own_base HO.out (by omega), hbel⟩

end Go.Proofs.Ythkfdpicacaphaa
