/-
  CONTRACTS: a tube is added to a network, the two ways (printed by tools/gen_addt.py).
-/
import Derived.Test.YtlebkjkiikehhaaAddT
namespace Go.Proofs.Ytlebkjkiikehhaa
open Go.RowKit

theorem own_far {w : World} {base n size : Nat} {t : TypeId} {v : Value} {xs : List Value} {p : Addr} (h : w.ownsRow base t size v n xs) (hp : p.block < base) (u : Value) : (w.setCell p u).ownsRow base t size v n xs := by
  refine ⟨h.1, ?_⟩
  rcases h.2 with hn | ⟨g, cap, cur, hv, hg, hB, rest⟩
  · exact .inl hn
  · exact .inr ⟨g, cap, cur, hv, hg, Blk.far (t := t) hB (by omega) u, rest⟩
theorem own_baseT {w : World} {base base' n size : Nat} {t : TypeId} {v : Value} {xs : List Value} (h : w.ownsRow base' t size v n xs) (hb : base ≤ base') : w.ownsRow base t size v n xs := by
  refine ⟨h.1, ?_⟩
  rcases h.2 with hn | ⟨g, cap, cur, hv, hg, rest⟩
  · exact .inl hn
  · exact .inr ⟨g, cap, cur, hv, Nat.le_trans hb hg, rest⟩
theorem addT_1 {S : Int} {l : List Tb} {t : Tb} (h : validN S l = false) : addT S l t = ((0, []), 1) := by simp [addT, h]
theorem addT_2 {S : Int} {l : List Tb} {t : Tb} (h : validN S l = true) (h2 : validTube t S = false) : addT S l t = ((0, []), 2) := by simp [addT, h, h2]
theorem addT_5 {S : Int} {l : List Tb} {t : Tb} (h : validN S l = true) (h2 : validTube t S = true) (h3 : 24 ≤ l.length) : addT S l t = ((0, []), 5) := by simp [addT, h, h2, h3]
theorem addT_0 {S : Int} {l : List Tb} {t : Tb} (h : validN S l = true) (h2 : validTube t S = true) (h3 : ¬ 24 ≤ l.length) : addT S l t = ((S, l ++ [t]), 0) := by simp [addT, h, h2, h3]

set_option maxHeartbeats 4000000 in
set_option maxRecDepth 100000 in
theorem specAddTube_any (S : Int) (b n c : Nat) (l : List Tb) (x y z : Int) (w : World) (h : TubesAt w (some ⟨b, 0, none⟩) l) (hl : n = l.length) (hn0 : n ≤ 1048576) :
    Calls Try.prog 10 #[.agg #[.int .i64 S, .slice (some ⟨b, 0, none⟩) n c], .agg #[.int .i64 x, .int .i64 y, .int .i64 z]] w (MadeNC w 34 (addT S l (x, y, z))) := by
  have HL := Lib.hid hl
  have H := Lib.hid h
  have E1 : validN S l = false → Hid (addT S l (x, y, z) = ((0, []), 1)) := addT_1
  have E2 : validN S l = true → validTube (x, y, z) S = false → Hid (addT S l (x, y, z) = ((0, []), 2)) := addT_2
  have E5 : validN S l = true → validTube (x, y, z) S = true → 24 ≤ n → Hid (addT S l (x, y, z) = ((0, []), 5)) := fun a b c => addT_5 a b (by rw [← hl]; exact c)
  have E0 : validN S l = true → validTube (x, y, z) S = true → ¬ 24 ≤ n → Hid (addT S l (x, y, z) = ((S, l ++ [(x, y, z)]), 0)) := fun a b c => addT_0 a b (by rw [← hl]; exact c)
  have HNT := fun h => (validN_true (S := S) (l := l) h)
  obtain ⟨R, hR⟩ : ∃ R, addT S l (x, y, z) = R := ⟨_, rfl⟩
  rw [hR] at E1 E2 E5 E0 ⊢
  obtain ⟨i0, hi, hz0, hz1, hz2⟩ := info_parts info_tube3
  have HI := Lib.hid (And.intro hi (And.intro hz0 (And.intro hz1 hz2)))
  clear hl h hR hi hz0 hz1 hz2
  have N0 : NetAt (((w.alloc (.cells #[.int .i64 S, .slice (some ⟨b, 0, none⟩) n c] 30)).alloc (.cells #[.int .i64 x, .int .i64 y, .int .i64 z] 34)).alloc (.cells #[.int .i64 0, .slice none 0 0] 30)) w.heap.size S (some ⟨b, 0, none⟩) n c l :=
    ((NetAt.box H.out _).bel ((Below.refl _ _).alloc (Nat.le_refl _) _)).bel ((Below.refl _ _).alloc (Nat.le_refl _) _)
  have HN0 := Lib.hid N0
  clear N0
  go_enter Try.func10, Try.ntmps10
  go_wp2_with fail
  refine (l02Ok_any w.heap.size S _ n c l _ HN0.out HL.out hn0).mono ?_
  rintro e w1 ⟨rfl, hb⟩
  have N1 := Lib.hid (HN0.out.bel hb)
  have T1 : Hid (Blk w1 (w.heap.size + 1) 34 #[.int .i64 x, .int .i64 y, .int .i64 z]) := bel_blk ((Blk.newAt (by simp)).alloc _) hb
  have R1 : Hid (Blk w1 (w.heap.size + 1 + 1) 30 #[.int .i64 0, .slice none 0 0]) := bel_blk (Blk.newAt (by simp)) hb
  have D1 : Below w.heap.size w w1 := Below.trans (by go_grown) (hb.mono (by simp; omega))
  clear hb HN0
  obtain ⟨z0, z1, z2, z3⟩ := R1.out.c2
  obtain ⟨t0, t1, t2, -⟩ := T1.out.c3
  have n0 := N1.out.c0
  have n1 := N1.out.c1
  cases hv : validN S l
  · have E := E1 hv
    clear E1 E2 E5 E0
    go_wp2_with fail
    have DB : Below w.heap.size w ((w1.setCell ⟨w.heap.size + 1 + 1, 0, none⟩ (.int .i64 0)).setCell ⟨w.heap.size + 1 + 1, 1, none⟩ (.slice none 0 0)) := (D1.setCell (by simp; omega) _).setCell (by simp; omega) _
    have RB : Blk ((w1.setCell ⟨w.heap.size + 1 + 1, 0, none⟩ (.int .i64 0)).setCell ⟨w.heap.size + 1 + 1, 1, none⟩ (.slice none 0 0)) (w.heap.size + 1 + 1) 30 #[.int .i64 0, .slice none 0 0] := ((R1.out.set_ 0 (.int .i64 0)).set_ 1 (.slice none 0 0))
    obtain ⟨W4, hW⟩ : ∃ W4, ((w1.setCell ⟨w.heap.size + 1 + 1, 0, none⟩ (.int .i64 0)).setCell ⟨w.heap.size + 1 + 1, 1, none⟩ (.slice none 0 0)) = W4 := ⟨_, rfl⟩
    rw [hW] at DB RB ⊢
    obtain ⟨k0, k1, -⟩ := RB.c2
    clear hW RB
    refine bodyPost_ret (v := .tuple #[.agg #[.int .i64 0, .slice none 0 0], .int .i64 1]) (by simp [results, Try.results10, go_sem, k0, k1]) rfl ?_
    rw [E.out]
    exact ⟨none, 0, rfl, own_none3 _ _ _, DB⟩
  · obtain ⟨s0, s1, h24, ha⟩ := HNT hv
    have H24 := Lib.hid h24
    clear E1 HNT h24 ha
    go_wp2_with fail
    refine (l02Tube_any x y z S _ s0 s1).mono ?_
    rintro e w2 ⟨rfl, hb⟩
    have N2 := Lib.hid (N1.out.bel hb)
    have R2 := hid_blk R1 hb
    have T2 := hid_blk T1 hb
    have D2 := bel_next D1 hb
    clear hb z0 z1 z2 z3 t0 t1 t2 n0 n1 N1 R1 T1 D1
    obtain ⟨z0, z1, z2, z3⟩ := R2.out.c2
    obtain ⟨t0, t1, t2, -⟩ := T2.out.c3
    have n0 := N2.out.c0
    have n1 := N2.out.c1
    cases hv2 : validTube (x, y, z) S
    · have E := E2 hv hv2
      clear E2 E5 E0
      go_wp2_with fail
      have DB : Below w.heap.size w ((w2.setCell ⟨w.heap.size + 1 + 1, 0, none⟩ (.int .i64 0)).setCell ⟨w.heap.size + 1 + 1, 1, none⟩ (.slice none 0 0)) := (D2.setCell (by simp; omega) _).setCell (by simp; omega) _
      have RB : Blk ((w2.setCell ⟨w.heap.size + 1 + 1, 0, none⟩ (.int .i64 0)).setCell ⟨w.heap.size + 1 + 1, 1, none⟩ (.slice none 0 0)) (w.heap.size + 1 + 1) 30 #[.int .i64 0, .slice none 0 0] := ((R2.out.set_ 0 (.int .i64 0)).set_ 1 (.slice none 0 0))
      obtain ⟨W4, hW⟩ : ∃ W4, ((w2.setCell ⟨w.heap.size + 1 + 1, 0, none⟩ (.int .i64 0)).setCell ⟨w.heap.size + 1 + 1, 1, none⟩ (.slice none 0 0)) = W4 := ⟨_, rfl⟩
      rw [hW] at DB RB ⊢
      obtain ⟨k0, k1, -⟩ := RB.c2
      clear hW RB
      refine bodyPost_ret (v := .tuple #[.agg #[.int .i64 0, .slice none 0 0], .int .i64 2]) (by simp [results, Try.results10, go_sem, k0, k1]) rfl ?_
      rw [E.out]
      exact ⟨none, 0, rfl, own_none3 _ _ _, DB⟩
    · by_cases h24 : 24 ≤ n
      · have E := E5 hv hv2 h24
        clear E2 E5 E0
        go_wp2_with fail
        have DB : Below w.heap.size w ((w2.setCell ⟨w.heap.size + 1 + 1, 0, none⟩ (.int .i64 0)).setCell ⟨w.heap.size + 1 + 1, 1, none⟩ (.slice none 0 0)) := (D2.setCell (by simp; omega) _).setCell (by simp; omega) _
        have RB : Blk ((w2.setCell ⟨w.heap.size + 1 + 1, 0, none⟩ (.int .i64 0)).setCell ⟨w.heap.size + 1 + 1, 1, none⟩ (.slice none 0 0)) (w.heap.size + 1 + 1) 30 #[.int .i64 0, .slice none 0 0] := ((R2.out.set_ 0 (.int .i64 0)).set_ 1 (.slice none 0 0))
        obtain ⟨W4, hW⟩ : ∃ W4, ((w2.setCell ⟨w.heap.size + 1 + 1, 0, none⟩ (.int .i64 0)).setCell ⟨w.heap.size + 1 + 1, 1, none⟩ (.slice none 0 0)) = W4 := ⟨_, rfl⟩
        rw [hW] at DB RB ⊢
        obtain ⟨k0, k1, -⟩ := RB.c2
        clear hW RB
        refine bodyPost_ret (v := .tuple #[.agg #[.int .i64 0, .slice none 0 0], .int .i64 5]) (by simp [results, Try.results10, go_sem, k0, k1]) rfl ?_
        rw [E.out]
        exact ⟨none, 0, rfl, own_none3 _ _ _, DB⟩
      · have E := E0 hv hv2 h24
        clear E2 E5 E0
        have hcs : ∀ j u, (cells3 l)[j]? = some u → (w2.alloc (.cells #[] 34)).cell? ((⟨b, 0, none⟩ : Addr).add j) = some u := by
          intro j u hu
          obtain ⟨k, hk, -⟩ := cells3_get l j u hu
          obtain ⟨b', o, e, -, hc⟩ := (N2.out.ts.alloc (.cells #[] 34)) (by omega)
          injection e with e
          injection e with e1 e2
          subst e1 e2
          exact tubes_cells hc j u hu
        have HC2 := Lib.hid hcs
        have HM : Hid ((cells3 l).length = n * 3) := by show _ = _; rw [cells3_len, HL.out]
        have H1 := Lib.hid (cells3_one l)
        obtain ⟨ns, hns⟩ : ∃ ns, ns = cells3 l := ⟨_, rfl⟩
        rw [← hns] at HC2 HM H1
        have HNS := Lib.hid hns
        have hr2 := R2.out.lt
        have hr3 : w.heap.size < w2.heap.size := by omega
        have hr4 : w.heap.size + 1 < w2.heap.size := by omega
        clear hns hcs
        go_wp2_with (at_builtin; refine wpList_append_own _ rfl _ _ 28 rfl w2.heap.size 34 i0 (.agg #[.int .i64 0, .int .i64 0, .int .i64 0]) 3 24 Try.underlying28 HI.out.1 HI.out.2.1 HI.out.2.2.1 HI.out.2.2.2 rfl (by decide) _ _ [] rfl (own_nil3T _ _ _ rfl (Nat.le_refl _)) ⟨b, 0, none⟩ n c ns rfl HM.out HC2.out H1.out ?d3 ?d4 ?d5 ?_)
        try case d3 => unfold maxLen; omega
        try case d4 => omega
        try case d5 => first | (simp; done) | (simp; omega) | omega
        intro v' w4 hown1 hgrow _
        have hown2 : w4.ownsRow w2.heap.size 34 3 v' l.length (cells3 l) := by
          have h5 := hown1
          rw [HNS.out, HL.out] at h5
          simpa using h5
        obtain ⟨A4, c4, rfl⟩ := own_form hown2
        have HB := Lib.hid hown2
        have hb4 : Below w2.heap.size w2 w4 := Below.grown (by go_grown) hgrow (by simp) (fun k hk => by simp [Value.ownBlock] at hk; omega)
        have N4 := Lib.hid (N2.out.bel hb4)
        have R4 := hid_blk R2 hb4
        have T4 := hid_blk T2 hb4
        have D4 := bel_next D2 hb4
        have hsz4 := hb4.size
        clear hown1 hown2 hgrow HC2 H1 hb4 z0 z1 z2 z3 t0 t1 t2 n0 n1
        obtain ⟨z0, z1, z2, z3⟩ := R4.out.c2
        obtain ⟨t0, t1, t2, -⟩ := T4.out.c3
        have n0 := N4.out.c0
        have n1 := N4.out.c1
        have hln : l.length ≤ 24 := H24.out
        have hr5 := R4.out.lt
        have hr6 : w.heap.size < w4.heap.size := by omega
        have hr7 : w.heap.size + 1 < w4.heap.size := by omega
        have HBA : Hid (∀ k, (Value.slice A4 l.length c4).ownBlock = some k → w2.heap.size ≤ k) := fun k hk => (HB.out.lt k hk).1
        go_wp2_with fail
        go_region_law (refine step_append_lies _ (by rfl) (.tmp 27) (.tmp 29) 28 (by rfl) w2.heap.size 34 i0 (.agg #[.int .i64 0, .int .i64 0, .int .i64 0]) 3 24 Try.underlying28 HI.out.1 HI.out.2.1 HI.out.2.2.1 HI.out.2.2.2 rfl (by decide) _ _ _ (by rfl) (own_belw HB.out (by go_grown)) ⟨w4.heap.size, 0, none⟩ 1 1 [.int .i64 x, .int .i64 y, .int .i64 z] (by rfl) rfl (World.news_of_block (heap_alloc_new _ _)) (ints_oneCell .i64 [x, y, z]) (by decide) (by unfold maxLen; omega) (by omega) (by simp; omega) _ rfl ?_; intro g5 cap5 w7 hown5 hgrow5 hat5 hlt5; have R7 : Hid (Blk w7 (w.heap.size + 1 + 1) 30 #[.int .i64 0, .slice none 0 0]) := (R4.out.drew.alloc _).grown hgrow5 (by intro hq; have := HBA.out _ hq.symm; omega); obtain ⟨z0, z1, z2, z3⟩ := R7.out.c2; have n07 : w7.cell? ⟨w.heap.size, 0, none⟩ = some (.int .i64 S) := hgrow5.cell (bel_cell ((Below.refl _ _).alloc (Nat.le_refl _) _) (show w4.drew.cell? ⟨w.heap.size, 0, none⟩ = some (.int .i64 S) from n0)) (by intro hq; have h9 : w2.heap.size ≤ w.heap.size := HBA.out _ hq.symm; omega))
        all_goals
          have D7 : Below w.heap.size w w7 := Below.grown (D4.drew.alloc (show w.heap.size ≤ w4.drew.heap.size from D4.size) _) hgrow5 (by simp; omega) (fun k hk => by have h9 := HBA.out k hk; omega)
          have O7 : w7.ownsRow w2.heap.size 34 3 (.slice (some ⟨g5, 0, none⟩) (l.length + 1) cap5) (l.length + 1) (cells3 l ++ [.int .i64 x, .int .i64 y, .int .i64 z]) := hown5
          have HO7 := Lib.hid O7
          have hlen : (l ++ [(x, y, z)]).length = l.length + 1 := by simp
          have HLEN := Lib.hid hlen
          clear hown5 hgrow5 hat5 O7 hlen
          simp [Act.put]
          go_wp2_with fail
          have DB : Below w.heap.size w ((w7.setCell ⟨w.heap.size + 1 + 1, 0, none⟩ (.int .i64 S)).setCell ⟨w.heap.size + 1 + 1, 1, none⟩ (.slice (some ⟨g5, 0, none⟩) (l.length + 1) cap5)) := (D7.setCell (by simp; omega) _).setCell (by simp; omega) _
          have OB := own_far (p := ⟨w.heap.size + 1 + 1, 1, none⟩) (own_far (p := ⟨w.heap.size + 1 + 1, 0, none⟩) HO7.out hr2 (.int .i64 S)) hr2 (.slice (some ⟨g5, 0, none⟩) (l.length + 1) cap5)
          have RB : Blk ((w7.setCell ⟨w.heap.size + 1 + 1, 0, none⟩ (.int .i64 S)).setCell ⟨w.heap.size + 1 + 1, 1, none⟩ (.slice (some ⟨g5, 0, none⟩) (l.length + 1) cap5)) (w.heap.size + 1 + 1) 30 #[.int .i64 S, .slice (some ⟨g5, 0, none⟩) (l.length + 1) cap5] := (R7.out.set_ 0 (.int .i64 S)).set_ 1 (.slice (some ⟨g5, 0, none⟩) (l.length + 1) cap5)
          obtain ⟨W4, hW⟩ : ∃ W4, ((w7.setCell ⟨w.heap.size + 1 + 1, 0, none⟩ (.int .i64 S)).setCell ⟨w.heap.size + 1 + 1, 1, none⟩ (.slice (some ⟨g5, 0, none⟩) (l.length + 1) cap5)) = W4 := ⟨_, rfl⟩
          rw [hW] at DB RB OB ⊢
          obtain ⟨k0, k1, -⟩ := RB.c2
          clear hW RB
          refine bodyPost_ret (v := .tuple #[.agg #[.int .i64 S, .slice (some ⟨g5, 0, none⟩) (l.length + 1) cap5], .int .i64 0]) (by simp [results, Try.results10, go_sem, k0, k1]) rfl ?_
          rw [E.out]
          refine ⟨some ⟨g5, 0, none⟩, cap5, ?_, ?_, DB⟩
          · show _ = Ending.returned (.tuple #[.agg #[.int .i64 S, .slice (some ⟨g5, 0, none⟩) (l ++ [(x, y, z)]).length cap5], .int .i64 0])
            rw [HLEN.out]
          · show W4.ownsRow _ _ 3 (.slice (some ⟨g5, 0, none⟩) (l ++ [(x, y, z)]).length cap5) (l ++ [(x, y, z)]).length (cells3 (l ++ [(x, y, z)]))
            rw [HLEN.out, cells3_append]
            exact own_baseT OB (by omega)

end Go.Proofs.Ytlebkjkiikehhaa
