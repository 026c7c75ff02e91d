/-
  CONTRACTS: simple ways, the specification's and the program's (printed by tools/gen_simple.py).
-/
import Derived.Test.YthkfdpicacaphaaWayA
namespace Go.Proofs.Ythkfdpicacaphaa
open Go.RowKit

theorem info_int64W : (Try.prog.info? 2).map (fun i => (i.zero, i.size, i.bytes)) = some (some (.int .i64 0), 1, 8) := by kernel_rfl
theorem own_bel' {w w' : World} {base n size : Nat} {t : TypeId} {v : Value} {xs : List Value} (h : w.ownsRow base t size v n xs) (hb : Below w.heap.size w w') : w'.ownsRow base t size v n xs := by
  refine ⟨h.1, ?_⟩
  rcases h.2 with hn | ⟨g, cap, cur, hv, hg, hB, rest⟩
  · exact .inl hn
  · exact .inr ⟨g, cap, cur, hv, hg, bel_blk (t := t) hB hb, rest⟩
theorem own_ints {w : World} {base e size : Nat} {A : Option Addr} {n c : Nat} {l : List Int} (h : w.ownsRow base e 1 (.slice A n c) n (l.map (Value.int .i64))) (_hs : size = 1) : IntsAt w A l := (IntsAt.ofOwn h).1

/-- What the walk knows of the tubes seen so far. -/
structure SeenW (l : List Tb) (way : List Int) (i : Nat) (ys : List Int) : Prop where
  len : ys.length = i
  ok : ∀ k, k < i → ∃ q : Nat, way[k]? = some (q : Int) ∧ q < l.length
/-- Where the last tube ended. -/
def prevW (l : List Tb) (way : List Int) (i : Nat) : Option Int := if i = 0 then none else some (ttW l (way.getD (i - 1) 0))
theorem SeenW.step {l : List Tb} {way : List Int} {i q : Nat} {ys : List Int} (h : SeenW l way i ys) (hi : i < way.length) (hq : way[i] = (q : Int)) (hql : q < l.length) : SeenW l way (i + 1) (ys ++ [frW l q]) := by
  refine ⟨by simp [h.len], fun k hk => ?_⟩
  by_cases e : k = i
  · subst e
    exact ⟨q, by rw [List.getElem?_eq_getElem hi, hq], hql⟩
  · exact h.ok k (by omega)
theorem prevW_step {l : List Tb} {way : List Int} {i : Nat} (hi : i < way.length) : prevW l way (i + 1) = some (ttW l way[i]) := by
  unfold prevW
  rw [if_neg (by omega), Nat.add_sub_cancel]
  simp [hi]
theorem simpF_step {l : List Tb} {way : List Int} {i : Nat} {p : Option Int} {ys : List Int} (h : i < way.length) : simpF l (way.drop i) p ys = (inB way[i] 0 ((l.length : Int) - 1) && !hasD ys (frW l way[i]) && (match p with | none => true | some e => decide (e = frW l way[i])) && simpF l (way.drop (i + 1)) (some (ttW l way[i])) (ys ++ [frW l way[i]])) := by
  rw [drop_at' h]
  cases p <;> rw [simpF]

set_option maxHeartbeats 8000000 in
theorem l04Simple_any (b : Nat) (S : Int) (A : Option Addr) (n c : Nat) (l : List Tb) (A' : Option Addr) (n' c' : Nat) (way : List Int) (w : World) (h : NetAt w b S A n c l) (hl : n = l.length) (hn0 : n ≤ 1048576) (h' : IntsAt w A' way) (hl' : n' = way.length) (hn0' : n' ≤ 1048576) :
    Calls Try.prog 53 #[.pointer (some ⟨b, 0, none⟩), .slice A' n' c'] w (Ret w (.bool (simpW l way))) := by
  obtain ⟨i0, hi, hz0, hz1, hz2⟩ := info_parts info_int64W
  have HI := Lib.hid (And.intro hi (And.intro hz0 (And.intro hz1 hz2)))
  have HL := Lib.hid hl
  have HL' := Lib.hid hl'
  have H' := Lib.hid h'
  obtain ⟨a0, a1, hts⟩ := h
  have H := Lib.hid hts
  have bw := cell_lt a0
  clear hl h' hl' hts hi hz0 hz1 hz2
  obtain ⟨rx, HX⟩ : ∃ r, Hid (simpF l (way.drop 0) (prevW l way 0) [] = r) := ⟨_, rfl⟩
  have HXR : Hid (simpW l way = rx) := HX
  rw [HXR.out]
  go_enter Try.func53, Try.ntmps53
  go_wp2_with fail
  go_loopw [5, 6] (fun v u w' => ∃ (i : Nat) (ys : List Int), u = .int .i64 i ∧ i ≤ n' ∧ Hid (SeenW l way i ys) ∧ w'.ownsRow w.heap.size 2 1 v ys.length (ys.map (Value.int .i64)) ∧ Hid (simpF l (way.drop i) (prevW l way i) ys = rx) ∧ Below w.heap.size w w') (fun _ u _ => n' - (intOf u).toNat)
  case atStart => exact ⟨0, [], rfl, by omega, ⟨rfl, fun k hk => absurd hk (by omega)⟩, own_nil' _ _ _ rfl (Nat.le_refl _), HX, by go_grown⟩
  case round =>
    clear HX HXR
    obtain ⟨i, ys, rfl, hin, HSN, hown, HX, hbel⟩ := hrel
    have b0 := bel_cell hbel a0
    have b1 := bel_cell hbel a1
    have HO := Lib.hid hown
    clear hown
    have hsz := hbel.size
    have HYLN : Hid (ys.length = i) := HSN.out.len
    have hyle : ys.length ≤ i := by rw [HYLN.out]; exact Nat.le_refl _
    obtain ⟨A1, cc, rfl⟩ := own_form HO.out
    have HY := Lib.hid (own_ints HO.out rfl)
    have HYL : Hid (ys.length = ys.length) := rfl
    have hy0 : ys.length ≤ 1048576 := by omega
    by_cases hlt : i < n'
    · have hil : i < way.length := by rw [← HL'.out]; exact hlt
      obtain ⟨b', o, rfl, hblt, hc⟩ := (H'.out.bel hbel) (by omega)
      have HC := Lib.hid hc
      have t0 := hc i hil
      have hst := simpF_step (l := l) (p := prevW l way i) (ys := ys) hil
      have hps := prevW_step (l := l) hil
      obtain ⟨x, hx⟩ : ∃ x, way[i] = x := ⟨_, rfl⟩
      rw [hx] at t0 hst hps
      rw [← HL.out] at hst
      have HXI := Lib.hid hx
      clear hc hx
      cases hv : inB x 0 ((n : Int) - 1)
      · have HR : Hid (rx = false) := by show _ = _; rw [← HX.out, hst, hv]; rfl
        clear hst hps
        go_wp2_with fail
        go_quiet (first | (go_at_call 72; exact q0 (l00In_any _ _ _ _)))
        go_wp2_with fail
        go_ret
        rw [HR.out]
        exact ⟨rfl, below_drewN hbel _⟩
      · have hi2 := inB_true hv
        obtain ⟨q, rfl⟩ : ∃ q : Nat, x = q := ⟨x.toNat, by omega⟩
        have hql : q < l.length := by rw [← HL.out]; omega
        have hqn : q < n := by omega
        rw [hv, Bool.true_and] at hst
        obtain ⟨b2, o2, rfl, hblt2, hc2⟩ := (H.out.bel hbel) (by omega)
        obtain ⟨y0, y1, y2⟩ := hc2 q hql
        have HC2 := Lib.hid hc2
        have hfr := frW_eq hql
        have htt := ttW_eq hql
        obtain ⟨f, hf⟩ : ∃ f, l[q].1 = f := ⟨_, rfl⟩
        obtain ⟨d, hd⟩ : ∃ d, l[q].2.1 = d := ⟨_, rfl⟩
        obtain ⟨g, hg⟩ : ∃ g, l[q].2.2 = g := ⟨_, rfl⟩
        rw [hf] at y0 hfr
        rw [hd] at y1 htt
        rw [hg] at y2
        rw [hfr, htt] at hst
        rw [htt] at hps
        have HSN2 : Hid (SeenW l way (i + 1) (ys ++ [f])) := by have := HSN.out.step hil HXI.out hql; rw [hfr] at this; exact this
        have hbw : b' < wr.heap.size := cell_lt t0
        have hb2w : b2 < wr.heap.size := cell_lt y0
        have hbbw : b < wr.heap.size := cell_lt b0
        have HFF := Lib.hid hf
        have HDD := Lib.hid hd
        have HGG := Lib.hid hg
        clear hc2 hf hd hg hfr htt
        obtain ⟨wp, rfl⟩ : ∃ wp : World, wp = wr := ⟨_, rfl⟩
        go_wp2_with fail
        go_quiet (first | (go_at_call 72; exact q0 (l00In_any _ _ _ _)))
        rw [hv]
        have hbq : Below w.heap.size w (wp.drewN nq) := below_drewN hbel _
        have hoq : (wp.drewN nq).ownsRow w.heap.size 2 1 (.slice A1 ys.length cc) ys.length (ys.map (Value.int .i64)) := own_bel' HO.out (below_drewN (Below.refl _ _) _)
        generalize wp.drewN nq = wq at *
        clear hv HO HY t0 y0 y1 y2 b0 b1 HC HC2 hbel hsz hbw hb2w hbbw hblt hblt2
        have HO := Lib.hid hoq
        have HY := Lib.hid (own_ints hoq rfl)
        have hbel := hbq
        have hsz := hbq.size
        have b0 := bel_cell hbq a0
        have b1 := bel_cell hbq a1
        obtain ⟨_, _, e1, hblt, hc⟩ := (H'.out.bel hbq) (by omega)
        cases e1
        have t0 := hc i hil
        rw [HXI.out] at t0
        obtain ⟨_, _, e1, hblt2, hc2⟩ := (H.out.bel hbq) (by omega)
        cases e1
        obtain ⟨y0, y1, y2⟩ := hc2 q hql
        rw [HFF.out] at y0
        rw [HDD.out] at y1
        rw [HGG.out] at y2
        have hbbw : b < wq.heap.size := cell_lt b0
        have HC := Lib.hid hc
        clear hoq hbq hc hc2
        go_wp2_with fail
        go_region
        have hb5 : Below wq.heap.size wq ((wq.alloc (.cells #[.int .i64 f, .int .i64 d, .int .i64 g] 64)).drew) := ((Below.refl _ _).alloc (Nat.le_refl _) _).drew
        have k0 : ((wq.alloc (.cells #[.int .i64 f, .int .i64 d, .int .i64 g] 64)).drew).cell? ⟨wq.heap.size, 0, none⟩ = some (.int .i64 f) := (Blk.new wq 64 #[.int .i64 f, .int .i64 d, .int .i64 g]).cell 0
        have k1 : ((wq.alloc (.cells #[.int .i64 f, .int .i64 d, .int .i64 g] 64)).drew).cell? ⟨wq.heap.size, 1, none⟩ = some (.int .i64 d) := (Blk.new wq 64 #[.int .i64 f, .int .i64 d, .int .i64 g]).cell 1
        obtain ⟨w5, hw5⟩ : ∃ w5, w5 = (wq.alloc (.cells #[.int .i64 f, .int .i64 d, .int .i64 g] 64)).drew := ⟨_, rfl⟩
        rw [← hw5] at hb5 k0 k1 ⊢
        clear hw5 t0 y0 y1 y2 b0 b1 HC hbbw
        have hbel5 := bel_next hbel hb5
        replace HO := Lib.hid (own_bel' HO.out hb5)
        replace HY := Lib.hid (HY.out.bel hb5)
        have kB := cell_lt k0
        have b0 := bel_cell hbel5 a0
        have b1 := bel_cell hbel5 a1
        obtain ⟨tb, htb⟩ : ∃ tb, wq.heap.size = tb := ⟨_, rfl⟩
        rw [htb] at k0 k1 kB ⊢
        clear hb5 hbel hsz hblt hblt2 htb
        cases hh : hasD ys f
        · have HH := Lib.hid hh
          cases i with
          | zero =>
            have HX2 : Hid (simpF l (way.drop (0 + 1)) (some d) (ys ++ [f]) = rx) := by show _ = _; rw [← HX.out, hst, hh]; simp [prevW]
            have HPS : Hid (prevW l way (0 + 1) = some d) := hps
            clear hst hps hh HX
            go_wp2_with fail
            go_quiet (first | (go_at_call 82; exact q0 (l00Has_no _ (HY.out.drewN _) rfl hy0 HH.out)))
            have hb6 : Below w.heap.size w (w5.drewN nq) := below_drewN hbel5 _
            have ho6 : (w5.drewN nq).ownsRow w.heap.size 2 1 (.slice A1 ys.length cc) ys.length (ys.map (Value.int .i64)) := own_bel' HO.out (below_drewN (Below.refl _ _) _)
            have k06 : (w5.drewN nq).cell? ⟨tb, 0, none⟩ = some (.int .i64 f) := k0
            have kB6 : tb < (w5.drewN nq).heap.size := kB
            generalize w5.drewN nq = w6 at *
            have HO6 := Lib.hid ho6
            have s6 := hb6.size
            clear k0 k1 kB HO HY b0 b1 hbel5 ho6
            go_wp2_with (at_builtin; refine wpList_append_own _ rfl _ _ 25 rfl w.heap.size 2 i0 (.int .i64 0) 1 8 Try.underlying25 HI.out.1 HI.out.2.1 HI.out.2.2.1 HI.out.2.2.2 rfl (by decide) _ _ _ rfl (HO6.out.alloc _) ⟨w6.heap.size, 0, none⟩ 1 1 [.int .i64 f] rfl rfl ?c1 ?c2 ?c3 ?c4 ?c5 ?_)
            try
              case c1 =>
                intro j u hu
                cases j with
                | zero => simp at hu; subst hu; simp [Addr.add]
                | succ j => simp at hu
            try case c2 => first | exact ints_oneCell .i64 [f] | rfl
            try case c3 => unfold maxLen; omega
            try case c4 => omega
            try case c5 => first | (simp; omega) | omega
            intro v' w4 hown1 hgrow _
            have hown2 : w4.ownsRow w.heap.size 2 1 v' (ys ++ [f]).length ((ys ++ [f]).map (Value.int .i64)) := by simpa using hown1
            have HO2 := Lib.hid hown2
            have hb4 : Below w.heap.size w w4 := Below.grown (show Below w.heap.size w _ from hb6.alloc hb6.size _) hgrow (by simp; omega) (fun k hk => by have := (HO6.out.lt k hk).1; omega)
            clear hown1 hown2 hgrow
            go_wp2_with fail
            go_roundw
            case rel => exact ⟨0 + 1, ys ++ [f], by go_num, by omega, HSN2, HO2.out, by show _ = _; rw [HPS.out]; exact HX2.out, hb4⟩
            case measure => simp [intOf]; omega
          | succ j =>
            obtain ⟨q2, hq2, hq2l⟩ := HSN.out.ok j (by omega)
            have hjl : j < way.length := by omega
            have hwj : way[j] = (q2 : Int) := by rw [List.getElem?_eq_getElem hjl] at hq2; exact Option.some.inj hq2
            have hpv : prevW l way (j + 1) = some (l[q2].2.1) := by rw [prevW_step hjl, hwj, ttW_eq hq2l]
            rw [hpv] at hst
            obtain ⟨_, _, e1, hblt, hc⟩ := (H'.out.bel hbel5) (by omega)
            cases e1
            have t1 := hc j hjl
            rw [hwj] at t1
            obtain ⟨_, _, e1, hblt2, hc2⟩ := (H.out.bel hbel5) (by omega)
            cases e1
            obtain ⟨-, z1, -⟩ := hc2 q2 hq2l
            obtain ⟨d2, hd2⟩ : ∃ d2, l[q2].2.1 = d2 := ⟨_, rfl⟩
            rw [hd2] at z1 hst hpv
            have HPV := Lib.hid hpv
            have hq2n : q2 < n := by rw [HL.out]; exact hq2l
            clear hq2 hwj hpv hc hc2 hd2
            by_cases hdf : d2 = f
            · have HX2 : Hid (simpF l (way.drop (j + 1 + 1)) (some d) (ys ++ [f]) = rx) := by show _ = _; rw [← HX.out, HPV.out, hst, hh]; simp [hdf]
              have HPS : Hid (prevW l way (j + 1 + 1) = some d) := hps
              have hdf2 := hdf.symm
              subst hdf2
              clear hst hps hh HX
              go_wp2_with fail
              go_quiet (first | (go_at_call 82; exact q0 (l00Has_no _ (HY.out.drewN _) rfl hy0 HH.out)))
              have hb6 : Below w.heap.size w (w5.drewN nq) := below_drewN hbel5 _
              have ho6 : (w5.drewN nq).ownsRow w.heap.size 2 1 (.slice A1 ys.length cc) ys.length (ys.map (Value.int .i64)) := own_bel' HO.out (below_drewN (Below.refl _ _) _)
              have k06 : (w5.drewN nq).cell? ⟨tb, 0, none⟩ = some (.int .i64 f) := k0
              have kB6 : tb < (w5.drewN nq).heap.size := kB
              generalize w5.drewN nq = w6 at *
              have HO6 := Lib.hid ho6
              have s6 := hb6.size
              clear k0 k1 kB HO HY b0 b1 hbel5 ho6
              go_wp2_with (at_builtin; refine wpList_append_own _ rfl _ _ 25 rfl w.heap.size 2 i0 (.int .i64 0) 1 8 Try.underlying25 HI.out.1 HI.out.2.1 HI.out.2.2.1 HI.out.2.2.2 rfl (by decide) _ _ _ rfl (HO6.out.alloc _) ⟨w6.heap.size, 0, none⟩ 1 1 [.int .i64 f] rfl rfl ?c1 ?c2 ?c3 ?c4 ?c5 ?_)
              try
                case c1 =>
                  intro j u hu
                  cases j with
                  | zero => simp at hu; subst hu; simp [Addr.add]
                  | succ j => simp at hu
              try case c2 => first | exact ints_oneCell .i64 [f] | rfl
              try case c3 => unfold maxLen; omega
              try case c4 => omega
              try case c5 => first | (simp; omega) | omega
              intro v' w4 hown1 hgrow _
              have hown2 : w4.ownsRow w.heap.size 2 1 v' (ys ++ [f]).length ((ys ++ [f]).map (Value.int .i64)) := by simpa using hown1
              have HO2 := Lib.hid hown2
              have hb4 : Below w.heap.size w w4 := Below.grown (show Below w.heap.size w _ from hb6.alloc hb6.size _) hgrow (by simp; omega) (fun k hk => by have := (HO6.out.lt k hk).1; omega)
              clear hown1 hown2 hgrow
              go_wp2_with fail
              go_roundw
              case rel => exact ⟨j + 1 + 1, ys ++ [f], by go_num, by omega, HSN2, HO2.out, by show _ = _; rw [HPS.out]; exact HX2.out, hb4⟩
              case measure => simp [intOf]; omega
            · have HR : Hid (rx = false) := by show _ = _; rw [← HX.out, HPV.out, hst]; simp [hdf]
              have hdb : (d2 == f) = false := by simpa using hdf
              have hdn : (d2 != f) = true := by simpa using hdf
              clear hst hps hh HX
              go_wp2_with fail
              go_quiet (first | (go_at_call 82; exact q0 (l00Has_no _ (HY.out.drewN _) rfl hy0 HH.out)))
              go_wp2_with fail
              go_ret
              rw [HR.out]
              exact ⟨rfl, below_drewN hbel5 _⟩
        · have HR : Hid (rx = false) := by show _ = _; rw [← HX.out, hst, hh]; simp
          have HH := Lib.hid hh
          clear hst hps hh HX
          go_wp2_with fail
          go_quiet (first | (go_at_call 82; exact q0 (l00Has_yes _ (HY.out.drewN _) rfl hy0 HH.out)))
          go_wp2_with fail
          go_ret
          rw [HR.out]
          exact ⟨rfl, below_drewN hbel5 _⟩
    · have hie : i = n' := by omega
      subst hie
      cases i with
      | zero =>
        have hw0 : way = [] := List.eq_nil_of_length_eq_zero HL'.out.symm
        have HR : Hid (rx = true) := by show _ = _; rw [← HX.out, hw0]; rfl
        clear hw0 HX
        go_wp2_with fail
        go_quiet (fail)
        go_wp2_with fail
        go_ret
        rw [HR.out]
        exact ⟨rfl, below_drewN hbel _⟩
      | succ j =>
        obtain ⟨q2, hq2, hq2l⟩ := HSN.out.ok j (by omega)
        have hjl : j < way.length := by have := HL'.out; omega
        have hwj : way[j] = (q2 : Int) := by rw [List.getElem?_eq_getElem hjl] at hq2; exact Option.some.inj hq2
        have hpv : prevW l way (j + 1) = some (l[q2].2.1) := by rw [prevW_step hjl, hwj, ttW_eq hq2l]
        obtain ⟨b', o, rfl, hblt, hc⟩ := (H'.out.bel hbel) (by omega)
        have t1 := hc j hjl
        rw [hwj] at t1
        obtain ⟨b2, o2, rfl, hblt2, hc2⟩ := (H.out.bel hbel) (by omega)
        obtain ⟨-, z1, -⟩ := hc2 q2 hq2l
        obtain ⟨d2, hd2⟩ : ∃ d2, l[q2].2.1 = d2 := ⟨_, rfl⟩
        rw [hd2] at z1 hpv
        have hq2n : q2 < n := by rw [HL.out]; exact hq2l
        have hj1 : (((j + 1 : Nat) : Int) == 0) = false := by rw [beq_eq_false_iff_ne]; omega
        have hj2 : ((j : Int) + 1 == 0) = false := by rw [beq_eq_false_iff_ne]; omega
        have hR : rx = !hasD ys d2 := by rw [← HX.out, hpv, List.drop_of_length_le (by rw [← HL'.out]; omega), simpF]
        clear hq2 hwj hpv hc hc2 hd2 HX
        cases hh : hasD ys d2
        · have HR : Hid (rx = true) := by show _ = _; rw [hR, hh]; rfl
          have HH := Lib.hid hh
          clear hR hh
          go_wp2_with fail
          go_quiet (first | (go_at_call 82; exact q0 (l00Has_no _ (HY.out.drewN _) rfl hy0 HH.out)))
          go_wp2_with fail
          go_ret
          rw [HR.out]
          exact ⟨rfl, below_drewN hbel _⟩
        · have HR : Hid (rx = false) := by show _ = _; rw [hR, hh]; rfl
          have HH := Lib.hid hh
          clear hR hh
          go_wp2_with fail
          go_quiet (first | (go_at_call 82; exact q0 (l00Has_yes _ (HY.out.drewN _) rfl hy0 HH.out)))
          go_wp2_with fail
          go_ret
          rw [HR.out]
          exact ⟨rfl, below_drewN hbel _⟩

end Go.Proofs.Ythkfdpicacaphaa
