/-
  CONTRACT: simple ways, the program's (printed by tools/gen_simple.py).
-/
import Derived.Test.YthkfdpicacaphaaSimple
namespace Go.Proofs.Ythkfdpicacaphaa
open Go.RowKit

theorem implF_step {l : List Tb} {e : Int} {way : List Int} {i : Nat} {ys : List Int} (h : i < way.length) : implF l e (way.drop i) ys = (!hasD ys (frW l way[i]) && decide (frW l way[i] ≠ e) && implF l e (way.drop (i + 1)) (ys ++ [frW l way[i]])) := by
  rw [drop_at' h, implF]
theorem simpW_out {l : List Tb} {way : List Int} (h : outB way 0 ((l.length : Int) - 1) = true) : simpW l way = false := by
  cases way with
  | nil => simp [outB] at h
  | cons x xs => rw [simpW_impl, h]; rfl
theorem simpW_in {l : List Tb} {way : List Int} (h : outB way 0 ((l.length : Int) - 1) = false) (h0 : 0 < way.length) : simpW l way = ((wayEnd l way (frW l way[0])).isSome && implF l ((wayEnd l way (frW l way[0])).getD 0) way []) := by
  cases way with
  | nil => simp at h0
  | cons x xs =>
    rw [simpW_impl, h]
    show (!false && (match wayEnd l (x :: xs) (frW l x) with | none => false | some e => implF l e (x :: xs) [])) = ((wayEnd l (x :: xs) (frW l x)).isSome && implF l ((wayEnd l (x :: xs) (frW l x)).getD 0) (x :: xs) [])
    cases wayEnd l (x :: xs) (frW l x) <;> rfl

set_option maxHeartbeats 8000000 in
theorem isSimple_any (S : Int) (A : Option Addr) (n c : Nat) (l : List Tb) (A' : Option Addr) (n' c' : Nat) (way : List Int) (w : World) (h : TubesAt w A l) (hl : n = l.length) (hn0 : n ≤ 1048576) (h' : IntsAt w A' way) (hl' : n' = way.length) (hn0' : n' ≤ 1048576) :
    Calls Try.prog 55 #[.agg #[.int .i64 S, .slice A n c], .slice A' n' c'] w (Ret w (.bool (simpW l way))) := by
  obtain ⟨i0, hi, hz0, hz1, hz2⟩ := info_parts info_int64W
  have HI := Lib.hid (And.intro hi (And.intro hz0 (And.intro hz1 hz2)))
  have HL := Lib.hid hl
  have HL' := Lib.hid hl'
  have H := Lib.hid h
  have H' := Lib.hid h'
  clear hl h hl' h' hi hz0 hz1 hz2
  go_enter Try.func55, Try.ntmps55
  go_wp2_with fail
  refine (areTubes_any S A n c A' n' c' way _ hn0 (H'.out.alloc _) HL'.out hn0').mono ?_
  rintro e w1 ⟨rfl, hb1⟩
  have D1 : Below w.heap.size w w1 := Below.trans (by go_grown) (hb1.mono (by simp))
  have N1 : Hid (Blk w1 w.heap.size 30 #[.int .i64 S, .slice A n c]) := bel_blk (Blk.new _ _ _) hb1
  obtain ⟨a0, a1, -⟩ := N1.out.c2
  have sN := N1.out.lt
  have sD := D1.size
  clear hb1
  cases ho : outB way 0 ((n : Int) - 1)
  · have HO := Lib.hid ho
    rcases Nat.eq_zero_or_pos n' with h0 | h0
    · have hw0 : way = [] := List.eq_nil_of_length_eq_zero (by rw [← HL'.out]; exact h0)
      have HR : Hid (simpW l way = true) := by show _ = _; rw [hw0]; rfl
      subst h0
      clear hw0 ho
      go_wp2_with fail
      go_ret
      rw [HR.out]
      exact ⟨rfl, D1⟩
    · have h0l : 0 < way.length := by rw [← HL'.out]; exact h0
      have hnb : ((n' : Int) == 0) = false := by rw [beq_eq_false_iff_ne]; omega
      have hsp := simpW_in (l := l) (by rw [← HL.out]; exact ho) h0l
      obtain ⟨b', o, rfl, hblt, hc⟩ := (H'.out.bel D1) h0l
      have t0 := hc 0 h0l
      rw [Nat.add_zero] at t0
      obtain ⟨p1, p2⟩ := outB_at ho h0l
      obtain ⟨q0, hq0⟩ : ∃ q : Nat, way[0] = q := ⟨way[0].toNat, by omega⟩
      rw [hq0] at t0 p1 p2 hsp
      have hq0l : q0 < l.length := by rw [← HL.out]; omega
      have hq0n : q0 < n := by omega
      obtain ⟨b2, o2, rfl, hblt2, hc2⟩ := (H.out.bel D1) (by omega)
      obtain ⟨y0, y1, y2⟩ := hc2 q0 hq0l
      rw [frW_eq hq0l] at hsp
      obtain ⟨f0, hf0⟩ : ∃ f, l[q0].1 = f := ⟨_, rfl⟩
      rw [hf0] at y0 hsp
      obtain ⟨we, hwe⟩ : ∃ e, wayEnd l way f0 = e := ⟨_, rfl⟩
      have HWE := Lib.hid hwe
      rw [hwe] at hsp
      have HT1 : Hid (TubesAt w1 (some ⟨b2, o2, none⟩) l) := H.out.bel D1
      have HI1 : Hid (IntsAt w1 (some ⟨b', o, none⟩) way) := H'.out.bel D1
      have hHT : TubesAt w1 (some ⟨b2, o2, none⟩) l := HT1.out
      have hHI : IntsAt w1 (some ⟨b', o, none⟩) way := HI1.out
      have HSP := Lib.hid hsp
      clear hc hc2 hq0 hf0 hwe ho y1 y2 p1 p2 hsp
      obtain ⟨rx, HRX⟩ : ∃ r, Hid ((we.isSome && implF l (we.getD 0) (way.drop 0) []) = r) := ⟨_, rfl⟩
      have HRR : Hid (simpW l way = rx) := by show _ = _; rw [HSP.out, ← HRX.out]; rfl
      rw [HRR.out]
      go_wp2_with fail
      go_region_held3 (fun w' => w'.cell? ⟨w.heap.size, 0, none⟩ = some (.int .i64 S) ∧ w'.cell? ⟨w.heap.size, 1, none⟩ = some (.slice (some ⟨b2, o2, none⟩) n c) ∧ w'.cell? ⟨b', o, none⟩ = some (.int .i64 q0) ∧ w'.cell? ⟨b2, o2 + q0 * 3, none⟩ = some (.int .i64 f0) ∧ TubesAt w' (some ⟨b2, o2, none⟩) l ∧ IntsAt w' (some ⟨b', o, none⟩) way ∧ Hid (Blk w' w.heap.size 30 #[.int .i64 S, .slice (some ⟨b2, o2, none⟩) n c]) ∧ Below w.heap.size w w')
        (first
          | (refine ⟨a0, a1, t0, y0, hHT.bel (by go_grown), hHI.bel (by go_grown), hid_blk N1 (by go_grown), ?_⟩; go_grown; done)
          | (have hS := ‹_ ∧ _ ∧ _ ∧ _ ∧ _ ∧ _ ∧ _ ∧ _›; exact ⟨bel_cell hbR hS.1, bel_cell hbR hS.2.1, bel_cell hbR hS.2.2.1, bel_cell hbR hS.2.2.2.1, TubesAt.bel hS.2.2.2.2.1 hbR, IntsAt.bel hS.2.2.2.2.2.1 hbR, hid_blk hS.2.2.2.2.2.2.1 hbR, bel_next hS.2.2.2.2.2.2.2 hbR⟩))
        (first
          | (go_at_call 85; (with_reducible refine (endOf_any S _ n c l _ n' c' way f0 _ (by first | exact (‹_ ∧ _ ∧ _ ∧ _ ∧ _ ∧ _ ∧ _ ∧ _›).2.2.2.2.1 | exact hHT.drew | exact hHT) HL.out hn0 (by first | exact (‹_ ∧ _ ∧ _ ∧ _ ∧ _ ∧ _ ∧ _ ∧ _›).2.2.2.2.2.1 | exact hHI.drew | exact hHI) HL'.out hn0' HO.out).mono ?_); rw [HWE.out]; rintro e w4 ⟨rfl, hbR⟩))
      clear a0 a1 N1 D1 t0 y0 hHT hHI HT1 HI1 sN sD hblt hblt2
      obtain ⟨-, -, -, -, -, -, N1, D1⟩ := ‹_ ∧ _ ∧ _ ∧ _ ∧ _ ∧ _ ∧ _ ∧ _›
      have sN := N1.out.lt
      have sD := D1.size
      obtain ⟨e, he⟩ : ∃ e, we.getD 0 = e := ⟨_, rfl⟩
      obtain ⟨ok, hok⟩ : ∃ ok, we.isSome = ok := ⟨_, rfl⟩
      rw [he, hok] at HRX ⊢
      clear he hok HWE HSP
      go_wp2_with fail
      go_loopw [6, 7, 35] (fun z v u w' => ∃ (i : Nat) (ys : List Int) (ok : Bool), z = .bool ok ∧ u = .int .i64 i ∧ i ≤ n' ∧ Hid (ys.length = i) ∧ w'.ownsRow (w.heap.size + 1) 2 1 v ys.length (ys.map (Value.int .i64)) ∧ Hid ((ok && implF l e (way.drop i) ys) = rx) ∧ Hid (Blk w' w.heap.size 30 #[.int .i64 S, .slice (some ⟨b2, o2, none⟩) n c]) ∧ Below w.heap.size w w') (fun _ _ u _ => n' - (intOf u).toNat)
      case atStart => exact ⟨0, [], ok, rfl, rfl, by omega, rfl, own_nil' _ _ _ rfl (by omega), HRX, N1.out.alloc _, D1.alloc D1.size _⟩
      case round =>
        clear HRX N1 D1 sN sD
        obtain ⟨i, ys, ok, rfl, rfl, hin, HYLN, hown, HX, HN, hbel⟩ := hrel
        obtain ⟨b0, b1, -⟩ := HN.out.c2
        have HO2 := Lib.hid hown
        clear hown
        have hsz := hbel.size
        have hyle : ys.length ≤ i := by rw [HYLN.out]; exact Nat.le_refl _
        have hy0 : ys.length ≤ 1048576 := by omega
        obtain ⟨A1, cc, rfl⟩ := own_form HO2.out
        have HY := Lib.hid (own_ints HO2.out rfl)
        by_cases hlt : i < n'
        · have hil : i < way.length := by rw [← HL'.out]; exact hlt
          obtain ⟨_, _, e1, hblt, hc⟩ := (H'.out.bel hbel) (by omega)
          cases e1
          have t0 := hc i hil
          obtain ⟨o1, o2'⟩ := outB_at HO.out hil
          obtain ⟨q, hq⟩ : ∃ q : Nat, way[i] = q := ⟨way[i].toNat, by omega⟩
          have hst := implF_step (l := l) (e := e) (ys := ys) hil
          rw [hq] at t0 o1 o2' hst
          have hql : q < l.length := by rw [← HL.out]; omega
          have hqn : q < n := by omega
          obtain ⟨_, _, e1, hblt2, hc2⟩ := (H.out.bel hbel) (by omega)
          cases e1
          obtain ⟨y0, y1, y2⟩ := hc2 q hql
          rw [frW_eq hql] at hst
          obtain ⟨f, hf⟩ : ∃ f, l[q].1 = f := ⟨_, rfl⟩
          rw [hf] at y0 hst
          have HYLN2 : Hid ((ys ++ [f]).length = i + 1) := by show _ = _; rw [List.length_append, HYLN.out]; rfl
          clear hc hc2 hq hf y1 y2 o1 o2'
          cases ok with
          | false =>
            have HX2 : Hid ((false && implF l e (way.drop (i + 1)) (ys ++ [f])) = rx) := by show _ = _; rw [← HX.out]; rfl
            clear hst
            go_wp2_with (at_builtin; refine wpList_append_own _ rfl _ _ 25 rfl (w.heap.size + 1) 2 i0 (.int .i64 0) 1 8 Try.underlying25 HI.out.1 HI.out.2.1 HI.out.2.2.1 HI.out.2.2.2 rfl (by decide) _ _ _ rfl (HO2.out.alloc _) ⟨wr.heap.size, 0, none⟩ 1 1 [.int .i64 f] rfl rfl ?c1 ?c2 ?c3 ?c4 ?c5 ?_)
            try
              case c1 =>
                intro j u hu
                cases j with
                | zero => simp at hu; subst hu; simp [Addr.add]
                | succ j => simp at hu
            try case c2 => first | exact ints_oneCell .i64 [f] | rfl
            try case c3 => unfold maxLen; omega
            try case c4 => omega
            try case c5 => first | (simp; omega) | omega
            intro v' w4 hown1 hgrow _
            have hown2 : w4.ownsRow (w.heap.size + 1) 2 1 v' (ys ++ [f]).length ((ys ++ [f]).map (Value.int .i64)) := by simpa using hown1
            have HO4 := Lib.hid hown2
            have hb4 : Below w.heap.size w w4 := Below.grown (show Below w.heap.size w _ from hbel.alloc hbel.size _) hgrow (by simp; omega) (fun k hk => by have := (HO2.out.lt k hk).1; omega)
            have HNG := (HN.out.alloc _).grown hgrow (by intro e; have := (HO2.out.lt _ e.symm).1; omega)
            clear hown1 hown2 hgrow
            have HN4 : Hid (Blk w4 w.heap.size 30 #[.int .i64 S, .slice (some ⟨b2, o2, none⟩) n c]) := HNG
            go_wp2_with fail
            go_roundw
            case rel => exact ⟨i + 1, ys ++ [f], false, rfl, by go_num, by omega, HYLN2, HO4.out, HX2, HN4, hb4⟩
            case measure => simp [intOf]; omega
          | true =>
            cases hh : hasD ys f
            · by_cases hfe : f = e
              · have HX2 : Hid ((false && implF l e (way.drop (i + 1)) (ys ++ [f])) = rx) := by show _ = _; rw [← HX.out, hst]; simp [hfe]
                subst hfe
                clear hst HX
                go_wp2_with (first
                  | (go_at_call 86; (with_reducible refine (Contains_intD A1 ys.length cc ys f _ HY.out rfl hy0).mono ?_); rintro e1 w5 ⟨rfl, rfl⟩; rw [hh])
                  | (at_builtin; refine wpList_append_own _ rfl _ _ 25 rfl (w.heap.size + 1) 2 i0 (.int .i64 0) 1 8 Try.underlying25 HI.out.1 HI.out.2.1 HI.out.2.2.1 HI.out.2.2.2 rfl (by decide) _ _ _ rfl (HO2.out.alloc _) ⟨wr.heap.size, 0, none⟩ 1 1 [.int .i64 f] rfl rfl ?c1 ?c2 ?c3 ?c4 ?c5 ?_))
                try
                  case c1 =>
                    intro j u hu
                    cases j with
                    | zero => simp at hu; subst hu; simp [Addr.add]
                    | succ j => simp at hu
                try case c2 => first | exact ints_oneCell .i64 [f] | rfl
                try case c3 => unfold maxLen; omega
                try case c4 => omega
                try case c5 => first | (simp; omega) | omega
                intro v' w4 hown1 hgrow _
                have hown2 : w4.ownsRow (w.heap.size + 1) 2 1 v' (ys ++ [f]).length ((ys ++ [f]).map (Value.int .i64)) := by simpa using hown1
                have HO4 := Lib.hid hown2
                have hb4 : Below w.heap.size w w4 := Below.grown (show Below w.heap.size w _ from hbel.alloc hbel.size _) hgrow (by simp; omega) (fun k hk => by have := (HO2.out.lt k hk).1; omega)
                have HNG := (HN.out.alloc _).grown hgrow (by intro e; have := (HO2.out.lt _ e.symm).1; omega)
                clear hown1 hown2 hgrow
                have HN4 : Hid (Blk w4 w.heap.size 30 #[.int .i64 S, .slice (some ⟨b2, o2, none⟩) n c]) := HNG
                go_wp2_with fail
                go_roundw
                case rel => exact ⟨i + 1, ys ++ [f], false, rfl, by go_num, by omega, HYLN2, HO4.out, HX2, HN4, hb4⟩
                case measure => simp [intOf]; omega
              · have HX2 : Hid ((true && implF l e (way.drop (i + 1)) (ys ++ [f])) = rx) := by show _ = _; rw [← HX.out, hst, hh]; simp [hfe]
                have hfb : (f == e) = false := by simpa using hfe
                have hfn : (f != e) = true := by simpa using hfe
                clear hst HX
                go_wp2_with (first
                  | (go_at_call 86; (with_reducible refine (Contains_intD A1 ys.length cc ys f _ HY.out rfl hy0).mono ?_); rintro e1 w5 ⟨rfl, rfl⟩; rw [hh])
                  | (at_builtin; refine wpList_append_own _ rfl _ _ 25 rfl (w.heap.size + 1) 2 i0 (.int .i64 0) 1 8 Try.underlying25 HI.out.1 HI.out.2.1 HI.out.2.2.1 HI.out.2.2.2 rfl (by decide) _ _ _ rfl (HO2.out.alloc _) ⟨wr.heap.size, 0, none⟩ 1 1 [.int .i64 f] rfl rfl ?c1 ?c2 ?c3 ?c4 ?c5 ?_))
                try
                  case c1 =>
                    intro j u hu
                    cases j with
                    | zero => simp at hu; subst hu; simp [Addr.add]
                    | succ j => simp at hu
                try case c2 => first | exact ints_oneCell .i64 [f] | rfl
                try case c3 => unfold maxLen; omega
                try case c4 => omega
                try case c5 => first | (simp; omega) | omega
                intro v' w4 hown1 hgrow _
                have hown2 : w4.ownsRow (w.heap.size + 1) 2 1 v' (ys ++ [f]).length ((ys ++ [f]).map (Value.int .i64)) := by simpa using hown1
                have HO4 := Lib.hid hown2
                have hb4 : Below w.heap.size w w4 := Below.grown (show Below w.heap.size w _ from hbel.alloc hbel.size _) hgrow (by simp; omega) (fun k hk => by have := (HO2.out.lt k hk).1; omega)
                have HNG := (HN.out.alloc _).grown hgrow (by intro e; have := (HO2.out.lt _ e.symm).1; omega)
                clear hown1 hown2 hgrow
                have HN4 : Hid (Blk w4 w.heap.size 30 #[.int .i64 S, .slice (some ⟨b2, o2, none⟩) n c]) := HNG
                go_wp2_with fail
                go_roundw
                case rel => exact ⟨i + 1, ys ++ [f], true, rfl, by go_num, by omega, HYLN2, HO4.out, HX2, HN4, hb4⟩
                case measure => simp [intOf]; omega
            · have HX2 : Hid ((false && implF l e (way.drop (i + 1)) (ys ++ [f])) = rx) := by show _ = _; rw [← HX.out, hst, hh]; simp
              clear hst HX
              go_wp2_with (first
                | (go_at_call 86; (with_reducible refine (Contains_intD A1 ys.length cc ys f _ HY.out rfl hy0).mono ?_); rintro e1 w5 ⟨rfl, rfl⟩; rw [hh])
                | (at_builtin; refine wpList_append_own _ rfl _ _ 25 rfl (w.heap.size + 1) 2 i0 (.int .i64 0) 1 8 Try.underlying25 HI.out.1 HI.out.2.1 HI.out.2.2.1 HI.out.2.2.2 rfl (by decide) _ _ _ rfl (HO2.out.alloc _) ⟨wr.heap.size, 0, none⟩ 1 1 [.int .i64 f] rfl rfl ?c1 ?c2 ?c3 ?c4 ?c5 ?_))
              try
                case c1 =>
                  intro j u hu
                  cases j with
                  | zero => simp at hu; subst hu; simp [Addr.add]
                  | succ j => simp at hu
              try case c2 => first | exact ints_oneCell .i64 [f] | rfl
              try case c3 => unfold maxLen; omega
              try case c4 => omega
              try case c5 => first | (simp; omega) | omega
              intro v' w4 hown1 hgrow _
              have hown2 : w4.ownsRow (w.heap.size + 1) 2 1 v' (ys ++ [f]).length ((ys ++ [f]).map (Value.int .i64)) := by simpa using hown1
              have HO4 := Lib.hid hown2
              have hb4 : Below w.heap.size w w4 := Below.grown (show Below w.heap.size w _ from hbel.alloc hbel.size _) hgrow (by simp; omega) (fun k hk => by have := (HO2.out.lt k hk).1; omega)
              have HNG := (HN.out.alloc _).grown hgrow (by intro e; have := (HO2.out.lt _ e.symm).1; omega)
              clear hown1 hown2 hgrow
              have HN4 : Hid (Blk w4 w.heap.size 30 #[.int .i64 S, .slice (some ⟨b2, o2, none⟩) n c]) := HNG
              go_wp2_with fail
              go_roundw
              case rel => exact ⟨i + 1, ys ++ [f], false, rfl, by go_num, by omega, HYLN2, HO4.out, HX2, HN4, hb4⟩
              case measure => simp [intOf]; omega
        · have HR : Hid (rx = ok) := by show _ = _; rw [← HX.out, List.drop_of_length_le (by rw [← HL'.out]; omega), implF]; simp
          go_wp2_with fail
          go_ret
          rw [HRR.out, HR.out]
          exact ⟨rfl, hbel⟩
  · have HR : Hid (simpW l way = false) := by show _ = _; exact simpW_out (by rw [← HL.out]; exact ho)
    clear ho
    go_wp2_with fail
    go_ret
    rw [HR.out]
    exact ⟨rfl, D1⟩

end Go.Proofs.Ythkfdpicacaphaa
