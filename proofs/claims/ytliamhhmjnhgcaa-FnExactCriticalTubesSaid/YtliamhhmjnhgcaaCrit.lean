/-
  CONTRACTS: the critical tubes (printed by tools/gen_reach.py).
-/
import Derived.Test.YtliamhhmjnhgcaaReach
namespace Go.Proofs.Ytliamhhmjnhgcaa
open Go.RowKit

set_option maxHeartbeats 4000000 in
theorem specCrit_any (S : Int) (A : Option Addr) (n c : Nat) (l : List Tb) (w : World) (h : TubesAt w A l) (hl : n = l.length) (hn0 : n ≤ 1048576) :
    Calls Try.prog 40 #[.agg #[.int .i64 S, .slice A n c]] w (MadeIC w 2 (critR S l).1 (critR S l).2) := by
  obtain ⟨i0, hi, hz0, hz1, hz2⟩ := info_parts info_int64C
  have HI := Lib.hid (And.intro hi (And.intro hz0 (And.intro hz1 hz2)))
  have HL := Lib.hid hl
  have H := Lib.hid h
  clear hl h hi hz0 hz1 hz2
  go_enter Try.func40, Try.ntmps40
  go_wp2_with fail
  refine (l02Ok_any _ S A n c l _ (NetAt.box H.out _) HL.out hn0).mono ?_
  rintro e w1 ⟨rfl, hb1⟩
  have D1 : Below w.heap.size w w1 := Below.trans (by go_grown) (hb1.mono (by simp))
  have N1 : Hid (Blk w1 w.heap.size 29 #[.int .i64 S, .slice A n c]) := bel_blk (Blk.new _ _ _) hb1
  obtain ⟨a0, a1, -⟩ := N1.out.c2
  clear hb1
  cases hv : validN S l
  · have E : Hid (critR S l = ([], 1)) := by show _ = _; simp [critR, hv]
    clear hv
    go_wp2_with fail
    refine bodyPost_ret (v := .tuple #[.slice none 0 0, .int .i64 1]) (by simp [results, Try.results40, go_sem]) rfl ?_
    rw [E.out]
    exact ⟨none, 0, rfl, own_none _ _ _, D1⟩
  · obtain ⟨-, -, v2, -⟩ := validN_true hv
    have HV := Lib.hid hv
    rw [← HL.out] at v2
    go_wp2_with fail
    refine (l02Strong_any _ S A n c l (-1) _ ⟨a0, a1, H.out.bel D1⟩ HL.out HV.out).mono ?_
    rintro e w2 ⟨rfl, hb2⟩
    have D2 := bel_next D1 hb2
    have N2 := hid_blk N1 hb2
    have sD := D2.size
    have sN := N2.out.lt
    clear hb2 N1 a0 a1 D1
    obtain ⟨a0, a1, -⟩ := N2.out.c2
    cases hg : strongN S l (-1)
    · have E : Hid (critR S l = ([], 6)) := by show _ = _; simp [critR, hv, hg]
      clear hv hg
      go_wp2_with fail
      refine bodyPost_ret (v := .tuple #[.slice none 0 0, .int .i64 6]) (by simp [results, Try.results40, go_sem]) rfl ?_
      rw [E.out]
      exact ⟨none, 0, rfl, own_none _ _ _, D2⟩
    · have E : Hid (critR S l = (filterI (critP S l) n 0, 0)) := by show _ = _; rw [HL.out]; simp [critR, hv, hg]
      clear hv hg
      go_wp2_with fail
      go_loopw [4, 5] (fun v u w' => ∃ (j : Nat) (xs : List Int), u = .int .i64 j ∧ j ≤ n ∧ xs.length ≤ j ∧ w'.ownsRow (w.heap.size + 1) 2 1 v xs.length (xs.map (Value.int .i64)) ∧ Hid (xs ++ filterI (critP S l) n j = filterI (critP S l) n 0) ∧ Hid (Blk w' w.heap.size 29 #[.int .i64 S, .slice A n c]) ∧ Below w.heap.size w w') (fun _ u _ => n - (intOf u).toNat)
      case atStart => exact ⟨0, [], rfl, by omega, by simp, own_nil _ _ _ rfl (by omega), rfl, N2.out.alloc _, D2.alloc D2.size _⟩
      case round =>
        clear N2 a0 a1 sN D2 sD
        obtain ⟨j, xs, rfl, hjs, hxj, hown, HS, HN, hbel⟩ := hrel
        obtain ⟨b0, b1, -⟩ := HN.out.c2
        have HO := Lib.hid hown
        clear hown
        by_cases hlt : j < n
        · have hst := filterI_step (p := critP S l) hlt
          have hpx : critP S l j = !strongN S l (j : Int) := rfl
          go_wp2_with fail
          refine (l02Strong_any _ S A n c l j _ ⟨b0, b1, H.out.bel hbel⟩ HL.out HV.out).mono ?_
          rintro e w2 ⟨rfl, hb2⟩
          rw [hpx] at hst
          have D2 := bel_next hbel hb2
          have HN2 := hid_blk HN hb2
          replace HO := Lib.hid (own_bel HO.out hb2)
          have s2 := D2.size
          clear hb2 hpx HN b0 b1 hbel
          cases hx0 : strongN S l (j : Int)
          · have HS2 : Hid ((xs ++ [(j : Int)]) ++ filterI (critP S l) n (j + 1) = filterI (critP S l) n 0) := by show _ = _; rw [← HS.out, hst, hx0]; simp
            clear hst HS hx0
            go_wp2_with (at_builtin; refine wpList_append_own _ rfl _ _ 42 rfl (w.heap.size + 1) 2 i0 (.int .i64 0) 1 8 Try.underlying42 HI.out.1 HI.out.2.1 HI.out.2.2.1 HI.out.2.2.2 rfl (by decide) _ _ _ rfl (HO.out.alloc _) ⟨w2.heap.size, 0, none⟩ 1 1 [.int .i64 (j : Int)] rfl rfl ?c1 ?c2 ?c3 ?c4 ?c5 ?_)
            case c1 =>
              intro j u hu
              cases j with
              | zero => simp at hu; subst hu; simp [Addr.add]
              | succ j => simp at hu
            case c2 => exact ints_oneCell .i64 [(j : Int)]
            case c3 => unfold maxLen; omega
            case c4 => omega
            case c5 => simp; omega
            intro v' w4 hown1 hgrow _
            have hown2 : w4.ownsRow (w.heap.size + 1) 2 1 v' (xs ++ [(j : Int)]).length ((xs ++ [(j : Int)]).map (Value.int .i64)) := by simpa using hown1
            have HO2 := Lib.hid hown2
            have hb4 : Below w.heap.size w w4 := Below.grown (show Below w.heap.size w _ from D2.alloc D2.size _) hgrow (by simp; omega) (fun k hk => by have := (HO.out.lt k hk).1; omega)
            have HNG := (HN2.out.alloc _).grown hgrow (by intro e; have := (HO.out.lt _ e.symm).1; omega)
            clear hown1 hown2 hgrow HO
            have HN4 : Hid (Blk w4 w.heap.size 29 #[.int .i64 S, .slice A n c]) := HNG
            go_wp2_with fail
            go_roundw
            case rel => exact ⟨j + 1, xs ++ [(j : Int)], by go_num, by omega, by simp; omega, HO2.out, HS2, HN4, hb4⟩
            case measure => simp [intOf]; omega
          · have HS2 : Hid (xs ++ filterI (critP S l) n (j + 1) = filterI (critP S l) n 0) := by show _ = _; rw [← HS.out, hst, hx0]; simp
            clear hst HS hx0
            go_wp2_with fail
            go_roundw
            case rel => exact ⟨j + 1, xs, by go_num, by omega, by omega, HO.out, HS2, HN2, D2⟩
            case measure => simp [intOf]; omega
        · have HS2 : Hid (xs = filterI (critP S l) n 0) := by
            show _ = _; rw [← HS.out, filterI_end (by omega)]; simp
          obtain ⟨A', c', rfl⟩ := own_form HO.out
          go_wp2_with fail
          refine bodyPost_ret (v := .tuple #[.slice A' xs.length c', .int .i64 0]) (by simp [results, Try.results40, go_sem]) rfl ?_
          rw [E.out, ← HS2.out]
          exact ⟨A', c', rfl, own_base HO.out (by omega), hbel⟩

set_option maxHeartbeats 4000000 in
theorem implCrit_any (S : Int) (A : Option Addr) (n c : Nat) (l : List Tb) (w : World) (h : TubesAt w A l) (hl : n = l.length) (hn0 : n ≤ 1048576) :
    Calls Try.prog 41 #[.agg #[.int .i64 S, .slice A n c]] w (MadeIC w 2 (critR S l).1 (critR S l).2) := by
  obtain ⟨i0, hi, hz0, hz1, hz2⟩ := info_parts info_int64C
  have HI := Lib.hid (And.intro hi (And.intro hz0 (And.intro hz1 hz2)))
  have HL := Lib.hid hl
  have H := Lib.hid h
  clear hl h hi hz0 hz1 hz2
  go_enter Try.func41, Try.ntmps41
  go_wp2_with fail
  refine (implValidNet_any S A n c l _ (H.out.alloc _) HL.out hn0).mono ?_
  rintro e w1 ⟨rfl, hb1⟩
  have D1 : Below w.heap.size w w1 := Below.trans (by go_grown) (hb1.mono (by simp))
  have N1 : Hid (Blk w1 w.heap.size 29 #[.int .i64 S, .slice A n c]) := bel_blk (Blk.new _ _ _) hb1
  obtain ⟨a0, a1, -⟩ := N1.out.c2
  clear hb1
  cases hv : validN S l
  · have E : Hid (critR S l = ([], 1)) := by show _ = _; simp [critR, hv]
    clear hv
    go_wp2_with fail
    refine bodyPost_ret (v := .tuple #[.slice none 0 0, .int .i64 1]) (by simp [results, Try.results41, go_sem]) rfl ?_
    rw [E.out]
    exact ⟨none, 0, rfl, own_none _ _ _, D1⟩
  · obtain ⟨-, -, v2, -⟩ := validN_true hv
    have HV := Lib.hid hv
    rw [← HL.out] at v2
    go_wp2_with fail
    refine (isStrong_any S A n c l (-1) _ (H.out.bel D1) HL.out HV.out).mono ?_
    rintro e w2 ⟨rfl, hb2⟩
    have D2 := bel_next D1 hb2
    have N2 := hid_blk N1 hb2
    have sD := D2.size
    have sN := N2.out.lt
    clear hb2 N1 a0 a1 D1
    obtain ⟨a0, a1, -⟩ := N2.out.c2
    cases hg : strongN S l (-1)
    · have E : Hid (critR S l = ([], 6)) := by show _ = _; simp [critR, hv, hg]
      clear hv hg
      go_wp2_with fail
      refine bodyPost_ret (v := .tuple #[.slice none 0 0, .int .i64 6]) (by simp [results, Try.results41, go_sem]) rfl ?_
      rw [E.out]
      exact ⟨none, 0, rfl, own_none _ _ _, D2⟩
    · have E : Hid (critR S l = (filterI (critP S l) n 0, 0)) := by show _ = _; rw [HL.out]; simp [critR, hv, hg]
      clear hv hg
      go_wp2_with fail
      go_loopw [4, 18] (fun v u w' => ∃ (j : Nat) (xs : List Int), u = .int .i64 j ∧ j ≤ n ∧ xs.length ≤ j ∧ w'.ownsRow (w.heap.size + 1) 2 1 v xs.length (xs.map (Value.int .i64)) ∧ Hid (xs ++ filterI (critP S l) n j = filterI (critP S l) n 0) ∧ Hid (Blk w' w.heap.size 29 #[.int .i64 S, .slice A n c]) ∧ Below w.heap.size w w') (fun _ u _ => n - (intOf u).toNat)
      case atStart => exact ⟨0, [], rfl, by omega, by simp, own_nil _ _ _ rfl (by omega), rfl, N2.out.alloc _, D2.alloc D2.size _⟩
      case round =>
        clear N2 a0 a1 sN D2 sD
        obtain ⟨j, xs, rfl, hjs, hxj, hown, HS, HN, hbel⟩ := hrel
        obtain ⟨b0, b1, -⟩ := HN.out.c2
        have HO := Lib.hid hown
        clear hown
        by_cases hlt : j < n
        · have hst := filterI_step (p := critP S l) hlt
          have hpx : critP S l j = !strongN S l (j : Int) := rfl
          go_wp2_with fail
          refine (isStrong_any S A n c l j _ (H.out.bel hbel) HL.out HV.out).mono ?_
          rintro e w2 ⟨rfl, hb2⟩
          rw [hpx] at hst
          have D2 := bel_next hbel hb2
          have HN2 := hid_blk HN hb2
          replace HO := Lib.hid (own_bel HO.out hb2)
          have s2 := D2.size
          clear hb2 hpx HN b0 b1 hbel
          cases hx0 : strongN S l (j : Int)
          · have HS2 : Hid ((xs ++ [(j : Int)]) ++ filterI (critP S l) n (j + 1) = filterI (critP S l) n 0) := by show _ = _; rw [← HS.out, hst, hx0]; simp
            clear hst HS hx0
            go_wp2_with (at_builtin; refine wpList_append_own _ rfl _ _ 42 rfl (w.heap.size + 1) 2 i0 (.int .i64 0) 1 8 Try.underlying42 HI.out.1 HI.out.2.1 HI.out.2.2.1 HI.out.2.2.2 rfl (by decide) _ _ _ rfl (HO.out.alloc _) ⟨w2.heap.size, 0, none⟩ 1 1 [.int .i64 (j : Int)] rfl rfl ?c1 ?c2 ?c3 ?c4 ?c5 ?_)
            case c1 =>
              intro j u hu
              cases j with
              | zero => simp at hu; subst hu; simp [Addr.add]
              | succ j => simp at hu
            case c2 => exact ints_oneCell .i64 [(j : Int)]
            case c3 => unfold maxLen; omega
            case c4 => omega
            case c5 => simp; omega
            intro v' w4 hown1 hgrow _
            have hown2 : w4.ownsRow (w.heap.size + 1) 2 1 v' (xs ++ [(j : Int)]).length ((xs ++ [(j : Int)]).map (Value.int .i64)) := by simpa using hown1
            have HO2 := Lib.hid hown2
            have hb4 : Below w.heap.size w w4 := Below.grown (show Below w.heap.size w _ from D2.alloc D2.size _) hgrow (by simp; omega) (fun k hk => by have := (HO.out.lt k hk).1; omega)
            have HNG := (HN2.out.alloc _).grown hgrow (by intro e; have := (HO.out.lt _ e.symm).1; omega)
            clear hown1 hown2 hgrow HO
            have HN4 : Hid (Blk w4 w.heap.size 29 #[.int .i64 S, .slice A n c]) := HNG
            go_wp2_with fail
            go_roundw
            case rel => exact ⟨j + 1, xs ++ [(j : Int)], by go_num, by omega, by simp; omega, HO2.out, HS2, HN4, hb4⟩
            case measure => simp [intOf]; omega
          · have HS2 : Hid (xs ++ filterI (critP S l) n (j + 1) = filterI (critP S l) n 0) := by show _ = _; rw [← HS.out, hst, hx0]; simp
            clear hst HS hx0
            go_wp2_with fail
            go_roundw
            case rel => exact ⟨j + 1, xs, by go_num, by omega, by omega, HO.out, HS2, HN2, D2⟩
            case measure => simp [intOf]; omega
        · have HS2 : Hid (xs = filterI (critP S l) n 0) := by
            show _ = _; rw [← HS.out, filterI_end (by omega)]; simp
          obtain ⟨A', c', rfl⟩ := own_form HO.out
          go_wp2_with fail
          refine bodyPost_ret (v := .tuple #[.slice A' xs.length c', .int .i64 0]) (by simp [results, Try.results41, go_sem]) rfl ?_
          rw [E.out, ← HS2.out]
          exact ⟨A', c', rfl, own_base HO.out (by omega), hbel⟩

end Go.Proofs.Ytliamhhmjnhgcaa
