/-
  CONTRACTS: the tubes through which a carrier runs (printed by tools/gen_route.py).
-/
import Derived.Test.YthkfdpicacaphaaRoute
namespace Go.Proofs.Ythkfdpicacaphaa
open Go.RowKit

def routeD (v : Int) (r : List Int × Int) : List Int × Int := if r.2 = -1 then ([], 9) else if r.2 = v then (r.1, 0) else ([], 3)
def routeR (S : Int) (l : List Tb) (st : List Int) (u v : Int) : List Int × Int := if codeS S l st [u, v] = 0 then routeD v (runF l st v (S.toNat + 1) u.toNat []) else ([], codeS S l st [u, v])
theorem codeS_in {S u v : Int} {l : List Tb} {st : List Int} (h : codeS S l st [u, v] = 0) : 0 ≤ u ∧ u < S ∧ 0 ≤ v ∧ v < S := by
  have h2 := (codeS_zero h).2
  simp [outB] at h2
  have hu := inB_true h2.1
  have hv := inB_true h2.2
  omega
theorem routeR_len {S : Int} {l : List Tb} {st : List Int} {u v : Int} : (routeR S l st u v).1.length ≤ 1048576 := by
  unfold routeR
  split
  · rename_i h
    obtain ⟨v0, v1, -, -⟩ := validN_true (setOK_true (codeS_zero h).1).1
    have := runF_len l st v (S.toNat + 1) u.toNat []
    simp at this
    unfold routeD
    split
    · simp
    · split
      · show (runF l st v (S.toNat + 1) u.toNat []).1.length ≤ _
        omega
      · simp
  · simp

set_option maxHeartbeats 4000000 in
theorem specRoute_any (S : Int) (A : Option Addr) (n c : Nat) (l : List Tb) (A' : Option Addr) (n' c' : Nat) (st : List Int) (u v : Int) (w : World) (h : TubesAt w A l) (hl : n = l.length) (hn0 : n ≤ 1048576) (h' : IntsAt w A' st) (hl' : n' = st.length) (hn0' : n' ≤ 1048576) :
    Calls Try.prog 26 #[.agg #[.int .i64 S, .slice A n c], .slice A' n' c', .int .i64 u, .int .i64 v] w (MadeIC w 2 (routeR S l st u v).1 (routeR S l st u v).2) := by
  have HL := Lib.hid hl
  have HL' := Lib.hid hl'
  have H := Lib.hid h
  have H' := Lib.hid h'
  clear hl hl' h h'
  go_enter Try.func26, Try.ntmps26
  go_wp2_with fail
  refine (l04Station_any _ S A n c l A' n' c' st u v _ (NetAt.box H.out _) HL.out hn0 (H'.out.alloc _) HL'.out hn0').mono ?_
  rintro e w1 ⟨rfl, hb1⟩
  have D1 : Below w.heap.size w w1 := Below.trans (by go_grown) (hb1.mono (by simp))
  have N1 : NetAt w1 w.heap.size S A n c l := (NetAt.box H.out _).bel hb1
  clear hb1
  obtain ⟨k, hk⟩ : ∃ k, codeS S l st [u, v] = k := ⟨_, rfl⟩
  rw [hk]
  by_cases h0 : k = 0
  · subst h0
    have hv := (codeS_zero hk).1
    obtain ⟨u0, u1, z0, z1⟩ := codeS_in hk
    obtain ⟨v0, v1, -, -⟩ := validN_true (setOK_true hv).1
    obtain ⟨s, rfl⟩ : ∃ s : Nat, S = s := ⟨S.toNat, by omega⟩
    obtain ⟨q, rfl⟩ : ∃ q : Nat, u = q := ⟨u.toNat, by omega⟩
    obtain ⟨rx, hrx⟩ : ∃ r, runF l st v (s + 1) q [] = r := ⟨_, rfl⟩
    have E : Hid (routeR s l st q v = routeD v rx) := by show _ = _; unfold routeR; rw [if_pos hk, Int.toNat_natCast, Int.toNat_natCast, hrx]
    have HV := Lib.hid hv
    have HR := Lib.hid hrx
    have sD := D1.size
    clear hk hv hrx u0
    go_wp2_with fail
    refine (l04Run_any _ s A n c l A' n' c' st q v _ N1 HL.out (H'.out.bel D1) HL'.out HV.out (by omega)).mono ?_
    simp only [Int.toNat_natCast]
    rw [HR.out]
    rintro e w2 ⟨A2, c2, rfl, hown, hb2⟩
    have D2 := bel_next D1 hb2
    have HO := Lib.hid hown
    obtain ⟨xs, x⟩ := rx
    simp only at HO E ⊢
    clear hown
    by_cases hx1 : x = -1
    · have E2 : Hid (routeR s l st q v = ([], 9)) := by show _ = _; rw [E.out]; simp [routeD, hx1]
      subst hx1
      go_wp2_with fail
      refine bodyPost_ret (v := .tuple #[.slice none 0 0, .int .i64 9]) (by simp [results, Try.results26, go_sem]) rfl ?_
      rw [E2.out]
      exact ⟨none, 0, rfl, own_none _ _ _, D2⟩
    · have hb1 : (x == (-1 : Int)) = false := by simpa using hx1
      by_cases hxv : x = v
      · have E2 : Hid (routeR s l st q v = (xs, 0)) := by show _ = _; rw [E.out]; unfold routeD; rw [if_neg hx1, if_pos hxv]
        subst hxv
        go_wp2_with fail
        refine bodyPost_ret (v := .tuple #[.slice A2 xs.length c2, .int .i64 0]) (by simp [results, Try.results26, go_sem]) rfl ?_
        rw [E2.out]
        exact ⟨A2, c2, rfl, own_base HO.out sD, D2⟩
      · have E2 : Hid (routeR s l st q v = ([], 3)) := by show _ = _; rw [E.out]; unfold routeD; rw [if_neg hx1, if_neg hxv]
        have hb2 : (x == v) = false := by simpa using hxv
        have hb3 : (x != v) = true := by simpa using hxv
        go_wp2_with fail
        refine bodyPost_ret (v := .tuple #[.slice none 0 0, .int .i64 3]) (by simp [results, Try.results26, go_sem]) rfl ?_
        rw [E2.out]
        exact ⟨none, 0, rfl, own_none _ _ _, D2⟩
  · have E : Hid (routeR S l st u v = ([], k)) := by show _ = _; unfold routeR; rw [if_neg (by rw [hk]; exact h0), hk]
    clear hk
    go_wp2_with fail
    refine bodyPost_ret (v := .tuple #[.slice none 0 0, .int .i64 k]) (by simp [results, Try.results26, go_sem]) rfl ?_
    rw [E.out]
    exact ⟨none, 0, rfl, own_none _ _ _, D1⟩

set_option maxHeartbeats 4000000 in
theorem implRoute_any (S : Int) (A : Option Addr) (n c : Nat) (l : List Tb) (A' : Option Addr) (n' c' : Nat) (st : List Int) (u v : Int) (w : World) (h : TubesAt w A l) (hl : n = l.length) (hn0 : n ≤ 1048576) (h' : IntsAt w A' st) (hl' : n' = st.length) (hn0' : n' ≤ 1048576) :
    Calls Try.prog 27 #[.agg #[.int .i64 S, .slice A n c], .slice A' n' c', .int .i64 u, .int .i64 v] w (MadeIC w 2 (routeR S l st u v).1 (routeR S l st u v).2) := by
  obtain ⟨i0, hi, hz0, hz1, hz2⟩ := info_parts info_int64F
  have HI := Lib.hid (And.intro hi (And.intro hz0 (And.intro hz1 hz2)))
  have HL := Lib.hid hl
  have HL' := Lib.hid hl'
  have H := Lib.hid h
  have H' := Lib.hid h'
  clear hl hl' h h' hi hz0 hz1 hz2
  go_enter Try.func27, Try.ntmps27
  go_wp2_with fail
  refine (settingCode_any S A n c l A' n' c' st _ 2 2 [u, v] _ ((H.out.alloc _).alloc _) HL.out hn0 ((H'.out.alloc _).alloc _) HL'.out hn0' (IntsAt.lit _ _ [u, v] (by simp)) rfl (by omega)).mono ?_
  rintro e w1 ⟨rfl, hb1⟩
  have D1 : Below w.heap.size w w1 := Below.trans (by go_grown) (hb1.mono (by simp only [World.size_alloc]; omega))
  have N1 : Hid (Blk w1 w.heap.size 30 #[.int .i64 S, .slice A n c]) := bel_blk ((Blk.new _ _ _).alloc _) hb1
  obtain ⟨a0, a1, -⟩ := N1.out.c2
  clear hb1
  obtain ⟨k, hk⟩ : ∃ k, codeS S l st [u, v] = k := ⟨_, rfl⟩
  rw [hk]
  by_cases h0 : k = 0
  · subst h0
    have hv := (codeS_zero hk).1
    obtain ⟨u0, u1, z0, z1⟩ := codeS_in hk
    obtain ⟨-, hsl, -⟩ := setOK_true hv
    obtain ⟨v0, v1, -, -⟩ := validN_true (setOK_true hv).1
    obtain ⟨s, rfl⟩ : ∃ s : Nat, S = s := ⟨S.toNat, by omega⟩
    obtain ⟨q0, rfl⟩ : ∃ q : Nat, u = q := ⟨u.toNat, by omega⟩
    obtain ⟨rx, hrx⟩ : ∃ r, Hid (runF l st v (s + 1) q0 [] = r) := ⟨_, rfl⟩
    have E : Hid (routeR s l st q0 v = routeD v rx) := by show _ = _; unfold routeR; rw [if_pos hk, Int.toNat_natCast, Int.toNat_natCast, hrx.out]
    have HV := Lib.hid hv
    have sD := D1.size
    have sN := N1.out.lt
    have hn's : s = n' := by rw [HL'.out]; omega
    subst hn's
    have hs10 : s ≤ 10 := by omega
    have hq0s : q0 < s := by omega
    clear hk hv u0 hsl
    go_wp2_with fail
    go_loopw [2, 11] (fun u v1 w' => ∃ (a k : Nat) (xs : List Int), u = .int .i64 a ∧ a < s ∧ xs.length + k = s + 1 ∧ w'.ownsRow (w.heap.size + 1) 2 1 v1 xs.length (xs.map (Value.int .i64)) ∧ Hid (runF l st v k a xs = rx) ∧ Hid (Blk w' w.heap.size 30 #[.int .i64 s, .slice A n c]) ∧ Below w.heap.size w w') (fun _ v1 _ => s + 2 - lenV v1)
    case atStart => exact ⟨q0, s + 1, [], rfl, hq0s, by simp, own_nil' _ _ _ rfl (by omega), hrx, N1.out.alloc _, D1.alloc D1.size _⟩
    case round =>
      clear hrx hq0s N1 a0 a1 sD sN D1
      obtain ⟨a, k, xs, rfl, has, hxk, hown, HX, HN, hbel⟩ := hrel
      obtain ⟨b0, b1, -⟩ := HN.out.c2
      have HO := Lib.hid hown
      have hsz := hbel.size
      clear hown
      have hal : a < st.length := by rw [← HL'.out]; omega
      obtain ⟨b', o, rfl, hblt, hc⟩ := (H'.out.bel hbel) (by omega)
      have t0 := hc a hal
      have hst : stAt st a = st[a] := stAt_eq hal
      obtain ⟨x, hx⟩ : ∃ x, st[a] = x := ⟨_, rfl⟩
      rw [hx] at t0 hst
      clear hc
      obtain ⟨A1, cc, rfl⟩ := own_form HO.out
      by_cases hgl : (a : Int) = v
      · have HR : Hid (routeR s l st q0 v = (xs, 0)) := by
          show _ = _
          rw [E.out, ← HX.out, runF_stop (.inl hgl)]
          unfold routeD
          rw [if_neg (by show ¬ (a : Int) = -1; omega), if_pos hgl]
        subst hgl
        clear hst hx
        go_wp2_with fail
        refine bodyPost_ret (v := .tuple #[.slice A1 xs.length cc, .int .i64 0]) (by simp [results, Try.results27, go_sem]) rfl ?_
        rw [HR.out]
        exact ⟨A1, cc, rfl, own_base HO.out (by omega), hbel⟩
      · have hgb : ((a : Int) == v) = false := by simpa using hgl
        have hgn : ((a : Int) != v) = true := by simpa using hgl
        by_cases hx0 : x < 0
        · have HR : Hid (routeR s l st q0 v = ([], 3)) := by
            show _ = _
            rw [E.out, ← HX.out, runF_stop (.inr (by rw [hst]; exact hx0))]
            unfold routeD
            rw [if_neg (by show ¬ (a : Int) = -1; omega), if_neg hgl]
          clear hst hx
          go_wp2_with fail
          refine bodyPost_ret (v := .tuple #[.slice none 0 0, .int .i64 3]) (by simp [results, Try.results27, go_sem]) rfl ?_
          rw [HR.out]
          exact ⟨none, 0, rfl, own_none _ _ _, hbel⟩
        · have hno : ¬((a : Int) = v ∨ stAt st a < 0) := by rw [hst]; omega
          cases k with
          | zero =>
            have HR : Hid (routeR s l st q0 v = ([], 9)) := by show _ = _; rw [E.out, ← HX.out, runF_clash hno]; rfl
            clear hno hst hx
            go_wp2_with fail
            refine bodyPost_ret (v := .tuple #[.slice none 0 0, .int .i64 9]) (by simp [results, Try.results27, go_sem]) rfl ?_
            rw [HR.out]
            exact ⟨none, 0, rfl, own_none _ _ _, hbel⟩
          | succ k =>
            have hr : runF l st v (k + 1) a xs = runF l st v k (nx l st a) (xs ++ [x]) := by rw [runF_on hno, hst]
            obtain ⟨q, hql, hq1, hq2, hq3, hq4⟩ := nx_ok HV.out hal (by rw [hx]; omega)
            rw [hx] at hq1
            subst hq1
            obtain ⟨b2, o2, rfl, hblt2, hc2⟩ := (H.out.bel hbel) (by omega)
            obtain ⟨y0, y1, y2⟩ := hc2 q hql
            obtain ⟨d, hd⟩ : ∃ d : Nat, l[q].2.1 = d := ⟨l[q].2.1.toNat, by omega⟩
            rw [hd] at y1 hq2 hq3 hq4
            rw [Int.toNat_natCast] at hq4
            rw [hq4] at hr
            have HX2 : Hid (runF l st v k d (xs ++ [(q : Int)]) = rx) := by show _ = _; rw [← hr]; exact HX.out
            have HSX := Lib.hid hx
            have HD := Lib.hid hd
            clear hr hno hst hx hq4 hc2 hd y0 y2 HX
            go_wp2_with (at_builtin; refine wpList_append_own _ rfl _ _ 25 rfl (w.heap.size + 1) 2 i0 (.int .i64 0) 1 8 Try.underlying25 HI.out.1 HI.out.2.1 HI.out.2.2.1 HI.out.2.2.2 rfl (by decide) _ _ _ rfl (HO.out.alloc _) ⟨wr.heap.size, 0, none⟩ 1 1 [.int .i64 (q : Int)] rfl rfl ?c1 ?c2 ?c3 ?c4 ?c5 ?_)
            try
              case c1 =>
                intro j u hu
                cases j with
                | zero => simp at hu; subst hu; simp [Addr.add]
                | succ j => simp at hu
            try case c2 => first | exact ints_oneCell .i64 [(q : Int)] | rfl
            try case c3 => unfold maxLen; omega
            try case c4 => omega
            try case c5 => first | (simp; omega) | omega
            intro v' w4 hown1 hgrow _
            have hown2 : w4.ownsRow (w.heap.size + 1) 2 1 v' (xs ++ [(q : Int)]).length ((xs ++ [(q : Int)]).map (Value.int .i64)) := by simpa using hown1
            have HO2 := Lib.hid hown2
            have hb4 : Below w.heap.size w w4 := Below.grown (show Below w.heap.size w _ from hbel.alloc hbel.size _) hgrow (by simp; omega) (fun k hk => by have := (HO.out.lt k hk).1; omega)
            have HNG := (HN.out.alloc _).grown hgrow (by intro e; have := (HO.out.lt _ e.symm).1; omega)
            clear hown1 hown2 hgrow
            have HN4 : Hid (Blk w4 w.heap.size 30 #[.int .i64 s, .slice (some ⟨b2, o2, none⟩) n c]) := HNG
            obtain ⟨_, _, e1, -, hc2⟩ := (H.out.bel hb4) (by omega)
            cases e1
            obtain ⟨-, z1, -⟩ := hc2 q hql
            obtain ⟨_, _, e1, -, hc⟩ := (H'.out.bel hb4) (by omega)
            cases e1
            have zt := hc a hal
            rw [HSX.out] at zt
            rw [HD.out] at z1
            clear b0 b1
            obtain ⟨b0, b1, -⟩ := HN4.out.c2
            have hqn : q < n := by rw [HL.out]; exact hql
            clear HO t0 y1 hc hc2 hsz
            obtain ⟨A4, c4, rfl⟩ := own_form HO2.out
            go_wp2_with fail
            go_quiet (fail)
            go_wp2_with fail
            go_roundw
            case rel => exact ⟨d, k, xs ++ [(q : Int)], rfl, by omega, by simp; omega, own_bel HO2.out (below_drewN (Below.refl _ _) _), HX2, HN4.out.drewN _, below_drewN hb4 _⟩
            case measure => simp [lenV]; omega
  · have E : Hid (routeR S l st u v = ([], k)) := by show _ = _; unfold routeR; rw [if_neg (by rw [hk]; exact h0), hk]
    clear hk
    go_wp2_with fail
    refine bodyPost_ret (v := .tuple #[.slice none 0 0, .int .i64 k]) (by simp [results, Try.results27, go_sem]) rfl ?_
    rw [E.out]
    exact ⟨none, 0, rfl, own_none _ _ _, D1⟩

end Go.Proofs.Ythkfdpicacaphaa
