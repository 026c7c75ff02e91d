/-
  CONTRACTS: the stations that are reached, the critical tubes (printed by tools/gen_reach.py).
-/
import Derived.Test.YtliamhhmjnhgcaaStrong
import Derived.Test.YtliamhhmjnhgcaaTubesFrom2
namespace Go.Proofs.Ytliamhhmjnhgcaa
open Go.RowKit

theorem own_bel {w w' : World} {base n size : Nat} {t : TypeId} {v : Value} {xs : List Value} (h : w.ownsRow base t size v n xs) (hb : Below w.heap.size w w') : w'.ownsRow base t size v n xs := by
  refine ⟨h.1, ?_⟩
  rcases h.2 with hn | ⟨g, cap, cur, hv, hg, hB, rest⟩
  · exact .inl hn
  · exact .inr ⟨g, cap, cur, hv, hg, bel_blk (t := t) hB hb, rest⟩
/-- The numbers below k that a test lets through, from j on. -/
def filterI (p : Nat → Bool) (k j : Nat) : List Int := (((List.range k).drop j).filter p).map fun (x : Nat) => (x : Int)
theorem filterI_step {p : Nat → Bool} {k j : Nat} (h : j < k) : filterI p k j = if p j then (j : Int) :: filterI p k (j + 1) else filterI p k (j + 1) := by
  unfold filterI
  rw [drop_at' (show j < (List.range k).length by simpa using h), List.filter_cons]
  simp only [List.getElem_range]
  split <;> simp
theorem filterI_end {p : Nat → Bool} {k j : Nat} (h : k ≤ j) : filterI p k j = [] := by
  unfold filterI
  rw [List.drop_of_length_le (by simpa using h)]; rfl
theorem filterI_le (p : Nat → Bool) (k j : Nat) : (filterI p k j).length ≤ k := by
  unfold filterI
  rw [List.length_map]
  refine Nat.le_trans (List.length_filter_le _ _) ?_
  rw [List.length_drop, List.length_range]
  omega

def reachP (S : Int) (l : List Tb) (u : Int) (g : Nat) : Bool := decide (0 ≤ at_ (distN S l (g : Int) (-1)) u.toNat)
def reachR (S : Int) (l : List Tb) (u : Int) : List Int × Int := if codeN S l [u] = 0 then (filterI (reachP S l u) S.toNat 0, 0) else ([], codeN S l [u])
theorem reachR_len {S u : Int} {l : List Tb} : (reachR S l u).1.length ≤ 1048576 := by
  unfold reachR
  split
  · rename_i h
    obtain ⟨v0, v1, -, -⟩ := validN_true (codeN_zero h).1
    have := filterI_le (reachP S l u) S.toNat 0
    show (filterI (reachP S l u) S.toNat 0).length ≤ _
    omega
  · simp
def critP (S : Int) (l : List Tb) (i : Nat) : Bool := !strongN S l (i : Int)
def critR (S : Int) (l : List Tb) : List Int × Int := if validN S l then (if strongN S l (-1) then (filterI (critP S l) l.length 0, 0) else ([], 6)) else ([], 1)
theorem critR_len {S : Int} {l : List Tb} {n : Nat} (hl : n = l.length) (hn : n ≤ 1048576) : (critR S l).1.length ≤ 1048576 := by
  unfold critR
  split
  · split
    · have := filterI_le (critP S l) l.length 0
      show (filterI (critP S l) l.length 0).length ≤ _
      omega
    · simp
  · simp

theorem info_int64C : (Try.prog.info? 2).map (fun i => (i.zero, i.size, i.bytes)) = some (some (.int .i64 0), 1, 8) := by kernel_rfl

set_option maxHeartbeats 4000000 in
theorem specReach_any (S : Int) (A : Option Addr) (n c : Nat) (l : List Tb) (u : Int) (w : World) (h : TubesAt w A l) (hl : n = l.length) (hn0 : n ≤ 1048576) :
    Calls Try.prog 38 #[.agg #[.int .i64 S, .slice A n c], .int .i64 u] w (MadeIC w 2 (reachR S l u).1 (reachR S l u).2) := by
  obtain ⟨i0, hi, hz0, hz1, hz2⟩ := info_parts info_int64C
  have HI := Lib.hid (And.intro hi (And.intro hz0 (And.intro hz1 hz2)))
  have HL := Lib.hid hl
  have H := Lib.hid h
  clear hl h hi hz0 hz1 hz2
  go_enter Try.func38, Try.ntmps38
  go_wp2_with fail
  refine (l02Code_any _ S A n c l u u _ (NetAt.box H.out _) HL.out hn0).mono ?_
  rintro e w1 ⟨rfl, hb1⟩
  have D1 : Below w.heap.size w w1 := Below.trans (by go_grown) (hb1.mono (by simp))
  have N1 : Hid (Blk w1 w.heap.size 29 #[.int .i64 S, .slice A n c]) := bel_blk (Blk.new _ _ _) hb1
  clear hb1
  rw [codeN_twice]
  obtain ⟨a0, a1, -⟩ := N1.out.c2
  have sN := N1.out.lt
  obtain ⟨k, hk⟩ : ∃ k, codeN S l [u] = k := ⟨_, rfl⟩
  rw [hk]
  by_cases h0 : k = 0
  · subst h0
    have hv := (codeN_zero hk).1
    obtain ⟨u0, u1⟩ := codeN_in1 hk
    obtain ⟨v0, v1, v2, -⟩ := validN_true hv
    obtain ⟨s, rfl⟩ : ∃ s : Nat, S = s := ⟨S.toNat, by omega⟩
    obtain ⟨q, rfl⟩ : ∃ q : Nat, u = q := ⟨u.toNat, by omega⟩
    have E : Hid (reachR s l q = (filterI (reachP s l q) s 0, 0)) := by show _ = _; unfold reachR; rw [if_pos hk]; simp
    have hs10 : s ≤ 10 := by omega
    have HV := Lib.hid hv
    have sD := D1.size
    clear hk hv
    go_wp2_with fail
    go_loopw [7, 8] (fun v u w' => ∃ (j : Nat) (xs : List Int), u = .int .i64 j ∧ j ≤ s ∧ xs.length ≤ j ∧ w'.ownsRow (w.heap.size + 1) 2 1 v xs.length (xs.map (Value.int .i64)) ∧ Hid (xs ++ filterI (reachP s l q) s j = filterI (reachP s l q) s 0) ∧ Hid (Blk w' w.heap.size 29 #[.int .i64 s, .slice A n c]) ∧ Below w.heap.size w w') (fun _ u _ => s - (intOf u).toNat)
    case atStart => exact ⟨0, [], rfl, by omega, by simp, own_nil _ _ _ rfl (by omega), rfl, N1.out.alloc _, D1.alloc D1.size _⟩
    case round =>
      clear N1 a0 a1 sN D1 sD
      obtain ⟨j, xs, rfl, hjs, hxj, hown, HS, HN, hbel⟩ := hrel
      obtain ⟨b0, b1, -⟩ := HN.out.c2
      have HO := Lib.hid hown
      clear hown
      by_cases hlt : j < s
      · have hst := filterI_step (p := reachP s l q) hlt
        go_wp2_with fail
        refine (l02Far_any _ s A n c l j (-1) _ ⟨b0, b1, H.out.bel hbel⟩ HL.out HV.out (by omega) (by omega)).mono ?_
        simp only [Int.toNat_natCast]
        rintro e w2 ⟨g, rfl, hg, HB, hb2⟩
        obtain ⟨x, hx⟩ : ∃ x, at_ (distN s l j (-1)) q = x := ⟨_, rfl⟩
        have x0 : w2.cell? ⟨g, q, none⟩ = some (.int .i64 x) := by rw [HB.out.cell, ints_get (by rw [distN_len]; omega), hx]
        have hpx : reachP s l q j = decide (0 ≤ x) := by unfold reachP; rw [Int.toNat_natCast, hx]
        rw [hpx] at hst
        have D2 := bel_next hbel hb2
        have HN2 := hid_blk HN hb2
        replace HO := Lib.hid (own_bel HO.out hb2)
        have s2 := D2.size
        clear HB hb2 hx hpx HN b0 b1 hbel
        by_cases hx0 : 0 ≤ x
        · have HS2 : Hid ((xs ++ [(j : Int)]) ++ filterI (reachP s l q) s (j + 1) = filterI (reachP s l q) s 0) := by show _ = _; rw [← HS.out, hst, if_pos (by simpa using hx0), List.append_assoc]; rfl
          clear hst HS
          go_wp2_with (at_builtin; refine wpList_append_own _ rfl _ _ 42 rfl (w.heap.size + 1) 2 i0 (.int .i64 0) 1 8 Try.underlying42 HI.out.1 HI.out.2.1 HI.out.2.2.1 HI.out.2.2.2 rfl (by decide) _ _ _ rfl (HO.out.alloc _) ⟨w2.heap.size, 0, none⟩ 1 1 [.int .i64 (j : Int)] rfl rfl ?c1 ?c2 ?c3 ?c4 ?c5 ?_)
          case c1 =>
            intro j u hu
            cases j with
            | zero => simp at hu; subst hu; simp [Addr.add]
            | succ j => simp at hu
          case c2 => exact ints_oneCell .i64 [(j : Int)]
          case c3 => unfold maxLen; omega
          case c4 => omega
          case c5 => simp; omega
          intro v' w4 hown1 hgrow _
          have hown2 : w4.ownsRow (w.heap.size + 1) 2 1 v' (xs ++ [(j : Int)]).length ((xs ++ [(j : Int)]).map (Value.int .i64)) := by simpa using hown1
          have HO2 := Lib.hid hown2
          have hb4 : Below w.heap.size w w4 := Below.grown (show Below w.heap.size w _ from D2.alloc D2.size _) hgrow (by simp; omega) (fun k hk => by have := (HO.out.lt k hk).1; omega)
          have HNG := (HN2.out.alloc _).grown hgrow (by intro e; have := (HO.out.lt _ e.symm).1; omega)
          clear hown1 hown2 hgrow HO
          have HN4 : Hid (Blk w4 w.heap.size 29 #[.int .i64 s, .slice A n c]) := HNG
          go_wp2_with fail
          go_roundw
          case rel => exact ⟨j + 1, xs ++ [(j : Int)], by go_num, by omega, by simp; omega, HO2.out, HS2, HN4, hb4⟩
          case measure => simp [intOf]; omega
        · have HS2 : Hid (xs ++ filterI (reachP s l q) s (j + 1) = filterI (reachP s l q) s 0) := by show _ = _; rw [← HS.out, hst, if_neg (by simpa using hx0)]
          clear hst HS
          go_wp2_with fail
          go_roundw
          case rel => exact ⟨j + 1, xs, by go_num, by omega, by omega, HO.out, HS2, HN2, D2⟩
          case measure => simp [intOf]; omega
      · have HS2 : Hid (xs = filterI (reachP s l q) s 0) := by
          show _ = _; rw [← HS.out, filterI_end (by omega)]; simp
        obtain ⟨A', c', rfl⟩ := own_form HO.out
        go_wp2_with fail
        refine bodyPost_ret (v := .tuple #[.slice A' xs.length c', .int .i64 0]) (by simp [results, Try.results38, go_sem]) rfl ?_
        rw [E.out, ← HS2.out]
        exact ⟨A', c', rfl, own_base HO.out (by omega), hbel⟩
  · have E : Hid (reachR S l u = ([], k)) := by show _ = _; unfold reachR; rw [if_neg (by rw [hk]; exact h0), hk]
    clear hk
    go_wp2_with fail
    refine bodyPost_ret (v := .tuple #[.slice none 0 0, .int .i64 k]) (by simp [results, Try.results38, go_sem]) rfl ?_
    rw [E.out]
    exact ⟨none, 0, rfl, own_none _ _ _, D1⟩

set_option maxHeartbeats 4000000 in
theorem implReach_any (S : Int) (A : Option Addr) (n c : Nat) (l : List Tb) (u : Int) (w : World) (h : TubesAt w A l) (hl : n = l.length) (hn0 : n ≤ 1048576) :
    Calls Try.prog 39 #[.agg #[.int .i64 S, .slice A n c], .int .i64 u] w (MadeIC w 2 (reachR S l u).1 (reachR S l u).2) := by
  obtain ⟨i0, hi, hz0, hz1, hz2⟩ := info_parts info_int64C
  have HI := Lib.hid (And.intro hi (And.intro hz0 (And.intro hz1 hz2)))
  have HL := Lib.hid hl
  have H := Lib.hid h
  clear hl h hi hz0 hz1 hz2
  go_enter Try.func39, Try.ntmps39
  go_wp2_with fail
  refine (netCode_any S A n c l _ 1 1 [u] _ ((H.out.alloc _).alloc _) HL.out hn0 (IntsAt.new _ _ [u] (by simp)) rfl (by omega)).mono ?_
  rintro e w1 ⟨rfl, hb1⟩
  have D1 : Below w.heap.size w w1 := Below.trans (by go_grown) (hb1.mono (by simp only [World.size_alloc]; omega))
  have N1 : Hid (Blk w1 w.heap.size 29 #[.int .i64 S, .slice A n c]) := bel_blk ((Blk.new _ _ _).alloc _) hb1
  clear hb1
  obtain ⟨a0, a1, -⟩ := N1.out.c2
  have sN := N1.out.lt
  obtain ⟨k, hk⟩ : ∃ k, codeN S l [u] = k := ⟨_, rfl⟩
  rw [hk]
  by_cases h0 : k = 0
  · subst h0
    have hv := (codeN_zero hk).1
    obtain ⟨u0, u1⟩ := codeN_in1 hk
    obtain ⟨v0, v1, v2, -⟩ := validN_true hv
    obtain ⟨s, rfl⟩ : ∃ s : Nat, S = s := ⟨S.toNat, by omega⟩
    obtain ⟨q, rfl⟩ : ∃ q : Nat, u = q := ⟨u.toNat, by omega⟩
    have E : Hid (reachR s l q = (filterI (reachP s l q) s 0, 0)) := by show _ = _; unfold reachR; rw [if_pos hk]; simp
    have hs10 : s ≤ 10 := by omega
    have HV := Lib.hid hv
    have sD := D1.size
    clear hk hv
    go_wp2_with fail
    go_loopw [7, 19] (fun v u w' => ∃ (j : Nat) (xs : List Int), u = .int .i64 j ∧ j ≤ s ∧ xs.length ≤ j ∧ w'.ownsRow (w.heap.size + 1) 2 1 v xs.length (xs.map (Value.int .i64)) ∧ Hid (xs ++ filterI (reachP s l q) s j = filterI (reachP s l q) s 0) ∧ Hid (Blk w' w.heap.size 29 #[.int .i64 s, .slice A n c]) ∧ Below w.heap.size w w') (fun _ u _ => s - (intOf u).toNat)
    case atStart => exact ⟨0, [], rfl, by omega, by simp, own_nil _ _ _ rfl (by omega), rfl, N1.out.alloc _, D1.alloc D1.size _⟩
    case round =>
      clear N1 a0 a1 sN D1 sD
      obtain ⟨j, xs, rfl, hjs, hxj, hown, HS, HN, hbel⟩ := hrel
      obtain ⟨b0, b1, -⟩ := HN.out.c2
      have HO := Lib.hid hown
      clear hown
      by_cases hlt : j < s
      · have hst := filterI_step (p := reachP s l q) hlt
        go_wp2_with fail
        refine (distances_any s A n c l j (-1) _ (H.out.bel hbel) HL.out HV.out (by omega) (by omega)).mono ?_
        simp only [Int.toNat_natCast]
        rintro e w2 ⟨g, rfl, hg, HB, hb2⟩
        obtain ⟨x, hx⟩ : ∃ x, at_ (distN s l j (-1)) q = x := ⟨_, rfl⟩
        have x0 : w2.cell? ⟨g, q, none⟩ = some (.int .i64 x) := by rw [HB.out.cell, ints_get (by rw [distN_len]; omega), hx]
        have hpx : reachP s l q j = decide (0 ≤ x) := by unfold reachP; rw [Int.toNat_natCast, hx]
        rw [hpx] at hst
        have D2 := bel_next hbel hb2
        have HN2 := hid_blk HN hb2
        replace HO := Lib.hid (own_bel HO.out hb2)
        have s2 := D2.size
        clear HB hb2 hx hpx HN b0 b1 hbel
        by_cases hx0 : 0 ≤ x
        · have HS2 : Hid ((xs ++ [(j : Int)]) ++ filterI (reachP s l q) s (j + 1) = filterI (reachP s l q) s 0) := by show _ = _; rw [← HS.out, hst, if_pos (by simpa using hx0), List.append_assoc]; rfl
          clear hst HS
          go_wp2_with (at_builtin; refine wpList_append_own _ rfl _ _ 42 rfl (w.heap.size + 1) 2 i0 (.int .i64 0) 1 8 Try.underlying42 HI.out.1 HI.out.2.1 HI.out.2.2.1 HI.out.2.2.2 rfl (by decide) _ _ _ rfl (HO.out.alloc _) ⟨w2.heap.size, 0, none⟩ 1 1 [.int .i64 (j : Int)] rfl rfl ?c1 ?c2 ?c3 ?c4 ?c5 ?_)
          case c1 =>
            intro j u hu
            cases j with
            | zero => simp at hu; subst hu; simp [Addr.add]
            | succ j => simp at hu
          case c2 => exact ints_oneCell .i64 [(j : Int)]
          case c3 => unfold maxLen; omega
          case c4 => omega
          case c5 => simp; omega
          intro v' w4 hown1 hgrow _
          have hown2 : w4.ownsRow (w.heap.size + 1) 2 1 v' (xs ++ [(j : Int)]).length ((xs ++ [(j : Int)]).map (Value.int .i64)) := by simpa using hown1
          have HO2 := Lib.hid hown2
          have hb4 : Below w.heap.size w w4 := Below.grown (show Below w.heap.size w _ from D2.alloc D2.size _) hgrow (by simp; omega) (fun k hk => by have := (HO.out.lt k hk).1; omega)
          have HNG := (HN2.out.alloc _).grown hgrow (by intro e; have := (HO.out.lt _ e.symm).1; omega)
          clear hown1 hown2 hgrow HO
          have HN4 : Hid (Blk w4 w.heap.size 29 #[.int .i64 s, .slice A n c]) := HNG
          go_wp2_with fail
          go_roundw
          case rel => exact ⟨j + 1, xs ++ [(j : Int)], by go_num, by omega, by simp; omega, HO2.out, HS2, HN4, hb4⟩
          case measure => simp [intOf]; omega
        · have HS2 : Hid (xs ++ filterI (reachP s l q) s (j + 1) = filterI (reachP s l q) s 0) := by show _ = _; rw [← HS.out, hst, if_neg (by simpa using hx0)]
          clear hst HS
          go_wp2_with fail
          go_roundw
          case rel => exact ⟨j + 1, xs, by go_num, by omega, by omega, HO.out, HS2, HN2, D2⟩
          case measure => simp [intOf]; omega
      · have HS2 : Hid (xs = filterI (reachP s l q) s 0) := by
          show _ = _; rw [← HS.out, filterI_end (by omega)]; simp
        obtain ⟨A', c', rfl⟩ := own_form HO.out
        go_wp2_with fail
        refine bodyPost_ret (v := .tuple #[.slice A' xs.length c', .int .i64 0]) (by simp [results, Try.results39, go_sem]) rfl ?_
        rw [E.out, ← HS2.out]
        exact ⟨A', c', rfl, own_base HO.out (by omega), hbel⟩
  · have E : Hid (reachR S l u = ([], k)) := by show _ = _; unfold reachR; rw [if_neg (by rw [hk]; exact h0), hk]
    clear hk
    go_wp2_with fail
    refine bodyPost_ret (v := .tuple #[.slice none 0 0, .int .i64 k]) (by simp [results, Try.results39, go_sem]) rfl ?_
    rw [E.out]
    exact ⟨none, 0, rfl, own_none _ _ _, D1⟩

end Go.Proofs.Ytliamhhmjnhgcaa
