/-
  CONTRACTS: a tube is added to a network, the program's way (printed by tools/gen_addt3.py).
-/
import Derived.Test.YtlebkjkiikehhaaAddT2
namespace Go.Proofs.Ytlebkjkiikehhaa
open Go.RowKit

theorem cell_far {w : World} {b o : Nat} {p : Addr} {v : Value} (h : w.cell? ⟨b, o, none⟩ = some v) (hp : b ≠ p.block) (u : Value) : (w.setCell p u).cell? ⟨b, o, none⟩ = some v := by
  unfold World.cell? at h ⊢
  simp only [Below.heap_setCell w p u b hp]
  exact h

set_option maxHeartbeats 4000000 in
set_option maxRecDepth 100000 in
theorem implAddTube_any (S : Int) (b n c : Nat) (l : List Tb) (x y z : Int) (w : World) (h : TubesAt w (some ⟨b, 0, none⟩) l) (hl : n = l.length) (hn0 : n ≤ 1048576) :
    Calls Try.prog 13 #[.agg #[.int .i64 S, .slice (some ⟨b, 0, none⟩) n c], .agg #[.int .i64 x, .int .i64 y, .int .i64 z]] w (MadeNC w 34 (addT S l (x, y, z))) := by
  have HL := Lib.hid hl
  have H := Lib.hid h
  have E1 : validN S l = false → Hid (addT S l (x, y, z) = ((0, []), 1)) := addT_1
  have E2 : validN S l = true → validTube (x, y, z) S = false → Hid (addT S l (x, y, z) = ((0, []), 2)) := addT_2
  have E5 : validN S l = true → validTube (x, y, z) S = true → 24 ≤ n → Hid (addT S l (x, y, z) = ((0, []), 5)) := fun a b c => addT_5 a b (by rw [← hl]; exact c)
  have E0 : validN S l = true → validTube (x, y, z) S = true → ¬ 24 ≤ n → Hid (addT S l (x, y, z) = ((S, l ++ [(x, y, z)]), 0)) := fun a b c => addT_0 a b (by rw [← hl]; exact c)
  have HNT := fun h => (validN_true (S := S) (l := l) h)
  obtain ⟨R, hR⟩ : ∃ R, addT S l (x, y, z) = R := ⟨_, rfl⟩
  rw [hR] at E1 E2 E5 E0 ⊢
  obtain ⟨i0, hi, hz0, hz1, hz2⟩ := info_parts info_tube3
  have HI := Lib.hid (And.intro hi (And.intro hz0 (And.intro hz1 hz2)))
  clear hl h hR hi hz0 hz1 hz2
  have N0 : NetAt (((w.alloc (.cells #[.int .i64 S, .slice (some ⟨b, 0, none⟩) n c] 30)).alloc (.cells #[.int .i64 x, .int .i64 y, .int .i64 z] 34)).alloc (.cells #[.int .i64 0, .slice none 0 0] 30)) w.heap.size S (some ⟨b, 0, none⟩) n c l :=
    ((NetAt.box H.out _).bel ((Below.refl _ _).alloc (Nat.le_refl _) _)).bel ((Below.refl _ _).alloc (Nat.le_refl _) _)
  have HN0 := Lib.hid N0
  clear N0
  go_enter Try.func13, Try.ntmps13
  go_wp2_with fail
  refine (implValidNet_any S _ n c l _ HN0.out.ts HL.out hn0).mono ?_
  rintro e w1 ⟨rfl, hb⟩
  have N1 := Lib.hid (HN0.out.bel hb)
  have T1 : Hid (Blk w1 (w.heap.size + 1) 34 #[.int .i64 x, .int .i64 y, .int .i64 z]) := bel_blk ((Blk.newAt (by simp)).alloc _) hb
  have R1 : Hid (Blk w1 (w.heap.size + 1 + 1) 30 #[.int .i64 0, .slice none 0 0]) := bel_blk (Blk.newAt (by simp)) hb
  have D1 : Below w.heap.size w w1 := Below.trans (by go_grown) (hb.mono (by simp; omega))
  clear hb HN0
  obtain ⟨z0, z1, z2, z3⟩ := R1.out.c2
  obtain ⟨t0, t1, t2, -⟩ := T1.out.c3
  have n0 := N1.out.c0
  have n1 := N1.out.c1
  cases hv : validN S l
  · have E := E1 hv
    clear E1 E2 E5 E0
    go_wp2_with fail
    have DB : Below w.heap.size w ((w1.setCell ⟨w.heap.size + 1 + 1, 0, none⟩ (.int .i64 0)).setCell ⟨w.heap.size + 1 + 1, 1, none⟩ (.slice none 0 0)) := (D1.setCell (by simp; omega) _).setCell (by simp; omega) _
    have RB : Blk ((w1.setCell ⟨w.heap.size + 1 + 1, 0, none⟩ (.int .i64 0)).setCell ⟨w.heap.size + 1 + 1, 1, none⟩ (.slice none 0 0)) (w.heap.size + 1 + 1) 30 #[.int .i64 0, .slice none 0 0] := ((R1.out.set_ 0 (.int .i64 0)).set_ 1 (.slice none 0 0))
    obtain ⟨W4, hW⟩ : ∃ W4, ((w1.setCell ⟨w.heap.size + 1 + 1, 0, none⟩ (.int .i64 0)).setCell ⟨w.heap.size + 1 + 1, 1, none⟩ (.slice none 0 0)) = W4 := ⟨_, rfl⟩
    rw [hW] at DB RB ⊢
    obtain ⟨k0, k1, -⟩ := RB.c2
    clear hW RB
    refine bodyPost_ret (v := .tuple #[.agg #[.int .i64 0, .slice none 0 0], .int .i64 1]) (by simp [results, Try.results13, go_sem, k0, k1]) rfl ?_
    rw [E.out]
    exact ⟨none, 0, rfl, own_none3 _ _ _, DB⟩
  · obtain ⟨s0, s1, h24, ha⟩ := HNT hv
    have H24 := Lib.hid h24
    have hn24 : n ≤ 24 := by rw [HL.out]; exact h24
    clear E1 HNT h24 ha
    go_wp2_with fail
    refine (isTube_any S x y z _ n c _ s0 s1).mono ?_
    rintro e w2 ⟨rfl, hb⟩
    have N2 := Lib.hid (N1.out.bel hb)
    have R2 := hid_blk R1 hb
    have T2 := hid_blk T1 hb
    have D2 := bel_next D1 hb
    clear hb z0 z1 z2 z3 t0 t1 t2 n0 n1 N1 R1 T1 D1
    obtain ⟨z0, z1, z2, z3⟩ := R2.out.c2
    obtain ⟨t0, t1, t2, -⟩ := T2.out.c3
    have n0 := N2.out.c0
    have n1 := N2.out.c1
    cases hv2 : validTube (x, y, z) S
    · have E := E2 hv hv2
      clear E2 E5 E0
      go_wp2_with fail
      have DB : Below w.heap.size w ((w2.setCell ⟨w.heap.size + 1 + 1, 0, none⟩ (.int .i64 0)).setCell ⟨w.heap.size + 1 + 1, 1, none⟩ (.slice none 0 0)) := (D2.setCell (by simp; omega) _).setCell (by simp; omega) _
      have RB : Blk ((w2.setCell ⟨w.heap.size + 1 + 1, 0, none⟩ (.int .i64 0)).setCell ⟨w.heap.size + 1 + 1, 1, none⟩ (.slice none 0 0)) (w.heap.size + 1 + 1) 30 #[.int .i64 0, .slice none 0 0] := ((R2.out.set_ 0 (.int .i64 0)).set_ 1 (.slice none 0 0))
      obtain ⟨W4, hW⟩ : ∃ W4, ((w2.setCell ⟨w.heap.size + 1 + 1, 0, none⟩ (.int .i64 0)).setCell ⟨w.heap.size + 1 + 1, 1, none⟩ (.slice none 0 0)) = W4 := ⟨_, rfl⟩
      rw [hW] at DB RB ⊢
      obtain ⟨k0, k1, -⟩ := RB.c2
      clear hW RB
      refine bodyPost_ret (v := .tuple #[.agg #[.int .i64 0, .slice none 0 0], .int .i64 2]) (by simp [results, Try.results13, go_sem, k0, k1]) rfl ?_
      rw [E.out]
      exact ⟨none, 0, rfl, own_none3 _ _ _, DB⟩
    · by_cases h24 : 24 ≤ n
      · have E := E5 hv hv2 h24
        have hq : ((n : Int) == 24) = true := by rw [beq_iff_eq]; omega
        clear E2 E5 E0
        go_wp2_with fail
        have DB : Below w.heap.size w ((w2.setCell ⟨w.heap.size + 1 + 1, 0, none⟩ (.int .i64 0)).setCell ⟨w.heap.size + 1 + 1, 1, none⟩ (.slice none 0 0)) := (D2.setCell (by simp; omega) _).setCell (by simp; omega) _
        have RB : Blk ((w2.setCell ⟨w.heap.size + 1 + 1, 0, none⟩ (.int .i64 0)).setCell ⟨w.heap.size + 1 + 1, 1, none⟩ (.slice none 0 0)) (w.heap.size + 1 + 1) 30 #[.int .i64 0, .slice none 0 0] := ((R2.out.set_ 0 (.int .i64 0)).set_ 1 (.slice none 0 0))
        obtain ⟨W4, hW⟩ : ∃ W4, ((w2.setCell ⟨w.heap.size + 1 + 1, 0, none⟩ (.int .i64 0)).setCell ⟨w.heap.size + 1 + 1, 1, none⟩ (.slice none 0 0)) = W4 := ⟨_, rfl⟩
        rw [hW] at DB RB ⊢
        obtain ⟨k0, k1, -⟩ := RB.c2
        clear hW RB
        refine bodyPost_ret (v := .tuple #[.agg #[.int .i64 0, .slice none 0 0], .int .i64 5]) (by simp [results, Try.results13, go_sem, k0, k1]) rfl ?_
        rw [E.out]
        exact ⟨none, 0, rfl, own_none3 _ _ _, DB⟩
      · have E := E0 hv hv2 h24
        have hq : ((n : Int) == 24) = false := by rw [beq_eq_false_iff_ne]; omega
        have hr2 := R2.out.lt
        have hr3 : w.heap.size < w2.heap.size := by omega
        have hr4 : w.heap.size + 1 < w2.heap.size := by omega
        clear E2 E5 E0
        go_wp2_with fail
        have hln : l.length ≤ 24 := H24.out
        go_region_held3 (fun w' => w'.cell? ⟨w.heap.size, 0, none⟩ = some (.int .i64 S) ∧ w'.cell? ⟨w.heap.size, 1, none⟩ = some (.slice (some ⟨b, 0, none⟩) n c) ∧ w'.cell? ⟨w.heap.size + 1, 0, none⟩ = some (.int .i64 x) ∧ w'.cell? ⟨w.heap.size + 1, 1, none⟩ = some (.int .i64 y) ∧ w'.cell? ⟨w.heap.size + 1, 2, none⟩ = some (.int .i64 z) ∧ Below w.heap.size w w')
          (first
            | (exact ⟨n0, n1, t0, t1, t2, D2.drew⟩)
            | (have hS := ‹_ ∧ _ ∧ _ ∧ _ ∧ _ ∧ Below _ _ _›; exact ⟨bel_cell hbR hS.1, bel_cell hbR hS.2.1, bel_cell hbR hS.2.2.1, bel_cell hbR hS.2.2.2.1, bel_cell hbR hS.2.2.2.2.1, bel_next hS.2.2.2.2.2 hbR⟩)
            | (have hS := ‹_ ∧ _ ∧ _ ∧ _ ∧ _ ∧ Below _ _ _›; exact ⟨bel_cell ((Below.refl _ _).alloc (Nat.le_refl _) _) hS.1, bel_cell ((Below.refl _ _).alloc (Nat.le_refl _) _) hS.2.1, bel_cell ((Below.refl _ _).alloc (Nat.le_refl _) _) hS.2.2.1, bel_cell ((Below.refl _ _).alloc (Nat.le_refl _) _) hS.2.2.2.1, bel_cell ((Below.refl _ _).alloc (Nat.le_refl _) _) hS.2.2.2.2.1, hS.2.2.2.2.2.alloc hS.2.2.2.2.2.size _⟩)
            | (have hS := ‹_ ∧ _ ∧ _ ∧ _ ∧ _ ∧ Below _ _ _›; exact ⟨hgrow5.cell hS.1 (fun hk => HBA.out _ hk.symm (by simp only; omega)), hgrow5.cell hS.2.1 (fun hk => HBA.out _ hk.symm (by simp only; omega)), hgrow5.cell hS.2.2.1 (fun hk => HBA.out _ hk.symm (by simp only; omega)), hgrow5.cell hS.2.2.2.1 (fun hk => HBA.out _ hk.symm (by simp only; omega)), hgrow5.cell hS.2.2.2.2.1 (fun hk => HBA.out _ hk.symm (by simp only; omega)), Below.grown hS.2.2.2.2.2 hgrow5 hS.2.2.2.2.2.size (fun k hk => Nat.le_of_not_lt fun hl => HBA.out k hk (by omega))⟩)
            | (have hS := ‹_ ∧ _ ∧ _ ∧ _ ∧ _ ∧ Below _ _ _›; exact ⟨cell_far (cell_far hS.1 (by first | (simp; done) | (simp; omega)) _) (by first | (simp; done) | (simp; omega)) _, cell_far (cell_far hS.2.1 (by first | (simp; done) | (simp; omega)) _) (by first | (simp; done) | (simp; omega)) _, cell_far (cell_far hS.2.2.1 (by first | (simp; done) | (simp; omega)) _) (by first | (simp; done) | (simp; omega)) _, cell_far (cell_far hS.2.2.2.1 (by first | (simp; done) | (simp; omega)) _) (by first | (simp; done) | (simp; omega)) _, cell_far (cell_far hS.2.2.2.2.1 (by first | (simp; done) | (simp; omega)) _) (by first | (simp; done) | (simp; omega)) _, Below.setCell (Below.setCell hS.2.2.2.2.2 (by simp; omega) _) (by simp; omega) _⟩))
          (first
          | (go_at_call 52; refine (cloneT_any b n c l _ (by first | exact N2.out.ts.drew | exact N2.out.ts.drew.alloc _ | exact (N2.out.ts.alloc _).drew) HL.out hn0).mono ?_; rintro e w5 ⟨A5, c5, rfl, O5, hbR⟩; (first | (have hb5 : Below w2.heap.size w2 w5 := Below.trans (Below.refl _ _).drew hbR; have hbX : w2.heap.size ≤ w2.drew.heap.size := Nat.le_refl _) | (have hb5 : Below w2.heap.size w2 w5 := Below.trans ((Below.refl _ _).drew.alloc (Nat.le_refl _) _) (hbR.mono (by simp)); have hbX := hb5.size) | (have hb5 : Below w2.heap.size w2 w5 := Below.trans ((Below.refl _ _).alloc (Nat.le_refl _) _).drew (hbR.mono (by simp)); have hbX : w2.heap.size ≤ w2.heap.size + 1 := Nat.le_succ _)); have N5 := Lib.hid (N2.out.bel hb5); have R5 := hid_blk R2 hb5; have T5 := hid_blk T2 hb5; have HO5 := Lib.hid O5; have HBA : Hid (∀ k, (Value.slice A5 l.length c5).ownBlock = some k → k < w2.heap.size → False) := (fun k hk hl => by have h9 := Nat.le_trans (show w2.heap.size ≤ _ by first | exact Nat.le_refl _ | (show w2.heap.size ≤ (w2.alloc _).heap.size; simp; done) | (simp; done)) (O5.lt k hk).1; omega); have hsz5 := hbR.size; have hsz6 := hb5.size; have m0 := N5.out.c0; have m1 := N5.out.c1; have hr5 := R5.out.lt; have hr6 : w.heap.size < w5.heap.size := (by omega); have hr7 : w.heap.size + 1 < w5.heap.size := (by omega); obtain ⟨u0, u1, u2, -⟩ := T5.out.c3; obtain ⟨y0, y1, y2, y3⟩ := R5.out.c2)
          | (refine step_append_lies _ (by rfl) (.tmp 27) (.tmp 29) 28 (by rfl) w2.heap.size 34 i0 (.agg #[.int .i64 0, .int .i64 0, .int .i64 0]) 3 24 Try.underlying28 HI.out.1 HI.out.2.1 HI.out.2.2.1 HI.out.2.2.2 rfl (by decide) _ _ _ (by rfl) (own_belw (own_baseT HO5.out (by first | exact Nat.le_refl _ | simp)) (by first | exact Below.refl _ _ | go_grown)) _ 1 1 [.int .i64 x, .int .i64 y, .int .i64 z] (by rfl) rfl (by first | exact World.news_of_block (heap_alloc_new _ _) | exact World.news_of_block (bel_blk (Blk.new _ _ _) hbR) | exact World.news_of_block (bel_blk (Blk.new _ _ _).drew hbR)) (ints_oneCell .i64 [x, y, z]) (by decide) (by unfold maxLen; omega) (by omega) (by first | omega | (simp; omega)) _ rfl ?_; intro g5 cap5 w7 hown5 hgrow5 hat5 hlt5; have R7 : Hid (Blk w7 (w.heap.size + 1 + 1) 30 #[.int .i64 0, .slice none 0 0]) := Blk.grown (by first | exact R5.out.alloc _ | exact R5.out) hgrow5 (fun hk => HBA.out _ hk.symm hr2); obtain ⟨y0, y1, y2, y3⟩ := R7.out.c2; have D7 : Below w.heap.size w w7 := (by have hS := ‹_ ∧ _ ∧ _ ∧ _ ∧ _ ∧ Below _ _ _›; exact Below.grown hS.2.2.2.2.2 hgrow5 hS.2.2.2.2.2.size (fun k hk => Nat.le_of_not_lt fun hl => HBA.out k hk (by omega)))))
        all_goals
          have DB : Below w.heap.size w ((w7.setCell ⟨w.heap.size + 1 + 1, 0, none⟩ (.int .i64 S)).setCell ⟨w.heap.size + 1 + 1, 1, none⟩ (.slice (some ⟨g5, 0, none⟩) (l.length + 1) cap5)) := by
            refine Below.setCell (Below.setCell D7 ?_ _) ?_ _ <;> (show w.heap.size ≤ w.heap.size + 1 + 1; omega)
          have O7 : w7.ownsRow w2.heap.size 34 3 (.slice (some ⟨g5, 0, none⟩) (l.length + 1) cap5) (l.length + 1) (cells3 l ++ [.int .i64 x, .int .i64 y, .int .i64 z]) := hown5
          have OB := own_far (p := ⟨w.heap.size + 1 + 1, 1, none⟩) (own_far (p := ⟨w.heap.size + 1 + 1, 0, none⟩) O7 hr2 (.int .i64 S)) hr2 (.slice (some ⟨g5, 0, none⟩) (l.length + 1) cap5)
          have RB : Blk ((w7.setCell ⟨w.heap.size + 1 + 1, 0, none⟩ (.int .i64 S)).setCell ⟨w.heap.size + 1 + 1, 1, none⟩ (.slice (some ⟨g5, 0, none⟩) (l.length + 1) cap5)) (w.heap.size + 1 + 1) 30 #[.int .i64 S, .slice (some ⟨g5, 0, none⟩) (l.length + 1) cap5] := (R7.out.set_ 0 (.int .i64 S)).set_ 1 (.slice (some ⟨g5, 0, none⟩) (l.length + 1) cap5)
          have HLEN : Hid ((l ++ [(x, y, z)]).length = l.length + 1) := by show _ = _; simp
          obtain ⟨W4, hW⟩ : ∃ W4, ((w7.setCell ⟨w.heap.size + 1 + 1, 0, none⟩ (.int .i64 S)).setCell ⟨w.heap.size + 1 + 1, 1, none⟩ (.slice (some ⟨g5, 0, none⟩) (l.length + 1) cap5)) = W4 := ⟨_, rfl⟩
          rw [hW] at DB RB OB ⊢
          obtain ⟨k0, k1, -⟩ := RB.c2
          clear hW RB O7 hown5 hgrow5 hat5
          go_wp2_with fail
          refine bodyPost_ret (v := .tuple #[.agg #[.int .i64 S, .slice (some ⟨g5, 0, none⟩) (l.length + 1) cap5], .int .i64 0]) (by simp [results, Try.results13, go_sem, k0, k1]) rfl ?_
          rw [E.out]
          refine ⟨some ⟨g5, 0, none⟩, cap5, ?_, ?_, DB⟩
          · show _ = Ending.returned (.tuple #[.agg #[.int .i64 S, .slice (some ⟨g5, 0, none⟩) (l ++ [(x, y, z)]).length cap5], .int .i64 0])
            rw [HLEN.out]
          · show W4.ownsRow _ _ 3 (.slice (some ⟨g5, 0, none⟩) (l ++ [(x, y, z)]).length cap5) (l ++ [(x, y, z)]).length (cells3 (l ++ [(x, y, z)]))
            rw [HLEN.out, cells3_append]
            exact own_baseT OB (by omega)

end Go.Proofs.Ytlebkjkiikehhaa
