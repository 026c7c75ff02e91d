/-
  CONTRACTS: the text of a network, the two ways.
-/
import Derived.Test.YtlblnknglplgjaaDoorNetT
import Derived.Test.YtlblnknglplgjaaDoorAid
namespace Go.Proofs.YtlblnknglplgjaaDoor
open Go.RowKit

theorem specNetText_any (S : Int) (A : Option Addr) (n c : Nat) (l : List Tb) (w : World) (h : TubesAt w A l) (hl : n = l.length) (hn0 : n ≤ 1048576) :
    Calls Tryd.prog 31 #[.agg #[.int .i64 S, .slice A n c]] w (Ret w (.string (netTx S l))) := by
  have HL := Lib.hid hl
  have H := Lib.hid h
  clear hl h
  cases hv : validN S l
  · have E : Hid (netTx S l = ⟨#[]⟩) := by show _ = _; simp [netTx, hv]
    go_enter Tryd.func31, Tryd.ntmps31
    go_wp2_with fail
    refine (l02Ok_any _ S A n c l _ (NetAt.box H.out _) HL.out hn0).mono ?_
    rintro e w1 ⟨rfl, hb1⟩
    rw [hv]
    have D : Below w.heap.size w w1 := Below.trans (by go_grown) (hb1.mono (by simp))
    clear hb1
    go_wp2_with fail
    go_ret
    rw [E.out]
    exact ⟨rfl, D⟩
  · have E : Hid (netTx S l = netT S l) := by show _ = _; simp [netTx, hv]
    have HV := Lib.hid hv
    go_enter Tryd.func31, Tryd.ntmps31
    go_wp2_with fail
    refine (l02Ok_any _ S A n c l _ (NetAt.box H.out _) HL.out hn0).mono ?_
    rintro e w1 ⟨rfl, hb1⟩
    rw [hv]
    have D : Below w.heap.size w w1 := Below.trans (by go_grown) (hb1.mono (by simp))
    have N1 := Lib.hid ((NetAt.box (S := S) (n := n) (c := c) H.out _).bel hb1)
    clear hb1 hv
    go_wp2_with fail
    refine (l02Text_any _ S A n c l _ N1.out HL.out HV.out).mono ?_
    rintro e w2 ⟨rfl, hb2⟩
    go_wp2_with fail
    go_ret
    rw [E.out]
    exact ⟨rfl, bel_next D hb2⟩

set_option maxHeartbeats 4000000 in
set_option maxRecDepth 100000 in
theorem implNetText_any (S : Int) (A : Option Addr) (n c : Nat) (l : List Tb) (w : World) (h : TubesAt w A l) (hl : n = l.length) (hn0 : n ≤ 1048576) (ht : Tab w) :
    Calls Tryd.prog 33 #[.agg #[.int .i64 S, .slice A n c]] w (Ret w (.string (netTx S l))) := by
  have HL := Lib.hid hl
  have H := Lib.hid h
  have HT := Lib.hid ht
  clear hl h ht
  cases hv : validN S l
  · have E : Hid (netTx S l = ⟨#[]⟩) := by show _ = _; simp [netTx, hv]
    go_enter Tryd.func33, Tryd.ntmps33
    go_wp2_with fail
    refine (implValidNet_any S A n c l _ (H.out.alloc _) HL.out hn0).mono ?_
    rintro e w1 ⟨rfl, hb1⟩
    rw [hv]
    have D : Below w.heap.size w w1 := Below.trans (by go_grown) (hb1.mono (by simp))
    clear hb1
    go_wp2_with fail
    go_ret
    rw [E.out]
    exact ⟨rfl, D⟩
  · have E : Hid (netTx S l = netT S l) := by show _ = _; simp [netTx, hv]
    have HNS := Lib.hid (netT_size hv)
    obtain ⟨s0, s1, h24, ha⟩ := validN_true hv
    have HA := Lib.hid ha
    have h24' : n ≤ 24 := by rw [HL.out]; exact h24
    obtain ⟨i0, hi, hz0, hz1, hz2⟩ := info_parts info_strN
    have HI := Lib.hid (And.intro hi (And.intro hz0 (And.intro hz1 hz2)))
    have zS := decT_size S (by omega) (by omega)
    obtain ⟨D, hD⟩ : ∃ D, decT S = D := ⟨_, rfl⟩
    have HD := Lib.hid hD
    have HHD : Hid (D ++ ⟨#[58]⟩ = headT S) := by show _ = _; rw [← hD]; rfl
    rw [hD] at zS
    have hk : ¬ 9223372036854775807 < D.size + 1 := by omega
    clear hD ha h24 hi hz0 hz1 hz2
    go_enter Tryd.func33, Tryd.ntmps33
    go_wp2_with fail
    refine (implValidNet_any S A n c l _ (H.out.alloc _) HL.out hn0).mono ?_
    rintro e w1 ⟨rfl, hb1⟩
    rw [hv]
    have D1 : Below w.heap.size w w1 := Below.trans (by go_grown) (hb1.mono (by simp))
    have N1 := Lib.hid ((NetAt.box (S := S) (n := n) (c := c) H.out _).bel hb1)
    have c0 := N1.out.c0
    have c1 := N1.out.c1
    clear hb1 hv
    go_wp2_with fail
    refine (implDec_any S _ (by omega) (by omega) (HT.out.bel D1)).mono ?_
    rintro e w2 ⟨rfl, hb2⟩
    rw [HD.out]
    have D2 := bel_next D1 hb2
    have N2 := Lib.hid (N1.out.bel hb2)
    have c0 := N2.out.c0
    have c1 := N2.out.c1
    have hbw : w.heap.size < w2.heap.size := cell_lt c1
    have HO0 := Lib.hid (own_newN w2 (base := w.heap.size) (D ++ ⟨#[58]⟩) D2.size)
    clear hb2 D1
    go_wp2_with fail
    go_loopw [3, 17] (fun v u w' => ∃ (i : Nat) (ys : List ByteArray), u = .int .i64 i ∧ i ≤ n ∧ ys.length = i + 1 ∧ w'.ownsRow w.heap.size 9 1 v ys.length (ys.map Value.string) ∧ Hid (ys ++ (l.drop i).map tubeT = headT S :: l.map tubeT) ∧ Below w.heap.size w w' ∧ Hid (TubesAt w' A l)) (fun _ u _ => n - (intOf u).toNat)
    case atStart => exact ⟨0, [D ++ ⟨#[58]⟩], rfl, by omega, rfl, HO0.out, by show _ = _; rw [HHD.out]; rfl, D2.alloc D2.size _, N2.out.ts.alloc _⟩
    case round =>
      obtain ⟨i, ys, rfl, hin, hyl, hown, HY, hbel, HTS⟩ := hrel
      clear c0 c1
      by_cases hlt : i < n
      · obtain ⟨b', o, rfl, hblt, hc⟩ := HTS.out (by rw [← HL.out]; omega)
        have hil : i < l.length := by rw [← HL.out]; exact hlt
        obtain ⟨t0, t1, t2⟩ := hc i hil
        clear hc
        have hvt := validN_at HA.out hil
        have hz6 := tubeT_size s1 hvt
        have hd := drop_at' hil
        obtain ⟨⟨x, y, z⟩, hx⟩ : ∃ x, l[i] = x := ⟨_, rfl⟩
        rw [hx] at t0 t1 t2 hvt hz6 hd
        simp only [validTube, Bool.and_eq_true] at hvt
        have h0 := inB_true hvt.1.1.1
        have h1 := inB_true hvt.1.1.2
        have h2 := inB_true hvt.2
        have h0 : 0 ≤ x ∧ x ≤ 10 := ⟨h0.1, by have := h0.2; omega⟩
        have h1 : 0 ≤ y ∧ y ≤ 10 := ⟨h1.1, by have := h1.2; omega⟩
        have h2 : 1 ≤ z ∧ z ≤ 2000 := h2
        have z0 := decT_size x (by omega) (by omega)
        have z1 := decT_size y (by omega) (by omega)
        have z2 := decT_size z (by omega) (by omega)
        have HY2 : Hid ((ys ++ [tubeT (x, y, z)]) ++ (l.drop (i + 1)).map tubeT = headT S :: l.map tubeT) := by show _ = _; rw [List.append_assoc, List.singleton_append, ← List.map_cons, ← hd]; exact HY.out
        have E5 : tubeT (x, y, z) = decT x ++ ⟨#[62]⟩ ++ decT y ++ ⟨#[42]⟩ ++ decT z := rfl
        obtain ⟨q0, e0⟩ : ∃ D, decT x = D := ⟨_, rfl⟩
        obtain ⟨q1, e1⟩ : ∃ D, decT y = D := ⟨_, rfl⟩
        obtain ⟨q2, e2⟩ : ∃ D, decT z = D := ⟨_, rfl⟩
        have H0 := Lib.hid e0
        have H1 := Lib.hid e1
        have H2 := Lib.hid e2
        rw [e0, e1, e2] at E5
        rw [e0] at z0
        rw [e1] at z1
        rw [e2] at z2
        have k3 : ¬ 9223372036854775807 < q0.size + 1 := by omega
        have k4 : ¬ 9223372036854775807 < q0.size + 1 + q1.size := by omega
        have k5 : ¬ 9223372036854775807 < q0.size + 1 + q1.size + 1 := by omega
        have k6 : ¬ 9223372036854775807 < q0.size + 1 + q1.size + 1 + q2.size := by omega
        rw [E5] at HY2
        have HE5 := Lib.hid E5
        obtain ⟨A5, c5, rfl⟩ := own_form hown
        have HO := Lib.hid hown
        have HYL := Lib.hid hyl
        have hyn : ys.length ≤ 25 := by omega
        have hA5 : ∀ k, (Value.slice A5 ys.length c5).ownBlock = some k → w.heap.size ≤ k ∧ k < wr.heap.size := fun k hk => hown.lt k hk
        have HA5 := Lib.hid hA5
        have hsw := hbel.size
        clear e0 e1 e2 hvt hz6 hx hd hown hyl HY E5 hA5
        go_wp2_with fail
        go_region_held3 (fun w' => w'.cell? ⟨wr.heap.size, 0, none⟩ = some (.int .i64 x) ∧ w'.cell? ⟨wr.heap.size, 1, none⟩ = some (.int .i64 y) ∧ w'.cell? ⟨wr.heap.size, 2, none⟩ = some (.int .i64 z) ∧ Below w.heap.size w w')
          (first
            | (exact ⟨(Blk.new wr _ _).cell 0, (Blk.new wr _ _).cell 1, (Blk.new wr _ _).cell 2, (hbel.alloc hbel.size _).drew⟩)
            | (have hS := ‹_ ∧ _ ∧ _ ∧ _›; exact ⟨bel_cell hbR hS.1, bel_cell hbR hS.2.1, bel_cell hbR hS.2.2.1, bel_next hS.2.2.2 hbR⟩)
            | (have hS := ‹_ ∧ _ ∧ _ ∧ _›; exact ⟨bel_cell ((Below.refl _ _).alloc (Nat.le_refl _) _) hS.1, bel_cell ((Below.refl _ _).alloc (Nat.le_refl _) _) hS.2.1, bel_cell ((Below.refl _ _).alloc (Nat.le_refl _) _) hS.2.2.1, hS.2.2.2.alloc hS.2.2.2.size _⟩)
            | (have hS := ‹_ ∧ _ ∧ _ ∧ _›; exact ⟨hgrow.cell hS.1 (fun hk => by have := (HA5.out _ hk.symm).2; simp at this), hgrow.cell hS.2.1 (fun hk => by have := (HA5.out _ hk.symm).2; simp at this), hgrow.cell hS.2.2.1 (fun hk => by have := (HA5.out _ hk.symm).2; simp at this), Below.grown hS.2.2.2 hgrow hS.2.2.2.size (fun k hk => (HA5.out k hk).1)⟩))
          (first
            | (go_at_call 13; (with_reducible refine (implDec_any x _ (by omega) (by omega) (by first | exact HT.out.bel (hbel.alloc hbel.size _).drew | (have hS := ‹_ ∧ _ ∧ _ ∧ _›; exact HT.out.bel hS.2.2.2))).mono ?_); rintro e w5 ⟨rfl, hbR⟩; rw [H0.out]; (first | have hown5 := own_belN hown5 hbR | have hown5 := own_belN (own_belN HO.out (show Below wr.heap.size wr _ from (by go_grown))) hbR))
            | (go_at_call 13; (with_reducible refine (implDec_any y _ (by omega) (by omega) (by first | exact HT.out.bel (hbel.alloc hbel.size _).drew | (have hS := ‹_ ∧ _ ∧ _ ∧ _›; exact HT.out.bel hS.2.2.2))).mono ?_); rintro e w5 ⟨rfl, hbR⟩; rw [H1.out]; (first | have hown5 := own_belN hown5 hbR | have hown5 := own_belN (own_belN HO.out (show Below wr.heap.size wr _ from (by go_grown))) hbR))
            | (go_at_call 13; (with_reducible refine (implDec_any z _ (by omega) (by omega) (by first | exact HT.out.bel (hbel.alloc hbel.size _).drew | (have hS := ‹_ ∧ _ ∧ _ ∧ _›; exact HT.out.bel hS.2.2.2))).mono ?_); rintro e w5 ⟨rfl, hbR⟩; rw [H2.out]; (first | have hown5 := own_belN hown5 hbR | have hown5 := own_belN (own_belN HO.out (show Below wr.heap.size wr _ from (by go_grown))) hbR))
            | (refine step_append_lies _ (by rfl) (.tmp 21) (.tmp 35) 36 (by rfl) w.heap.size 9 i0 (.string ByteArray.empty) 1 16 Tryd.underlying36 HI.out.1 HI.out.2.1 HI.out.2.2.1 HI.out.2.2.2 rfl (by decide) _ _ _ (by rfl) (own_belN hown5 ((Below.refl _ _).alloc (Nat.le_refl _) _)) ⟨w5.heap.size, 0, none⟩ 1 1 [.string (q0 ++ ⟨#[62]⟩ ++ q1 ++ ⟨#[42]⟩ ++ q2)] (by rfl) rfl (by intro j u hu; cases j with | zero => simp at hu; subst hu; simp [Addr.add] | succ j => simp at hu) (by intro u hu; simp at hu; subst hu; rfl) (by decide) (by unfold maxLen; omega) (by omega) (by have h9 := (‹_ ∧ _ ∧ _ ∧ Below _ _ _›).2.2.2.size; simp at h9 ⊢; omega) _ rfl ?_; intro g4 cap4 w4 hown1 hgrow hat4 hlt4))
        have hb4 : Below w.heap.size w w4 := (‹_ ∧ _ ∧ _ ∧ Below _ _ _›).2.2.2
        have HTS4 : Hid (TubesAt w4 (some ⟨b', o, none⟩) l) := H.out.bel hb4
        have hown2 : w4.ownsRow w.heap.size 9 1 (.slice (some ⟨g4, 0, none⟩) (ys.length + 1) cap4) (ys ++ [q0 ++ ⟨#[62]⟩ ++ q1 ++ ⟨#[42]⟩ ++ q2]).length ((ys ++ [q0 ++ ⟨#[62]⟩ ++ q1 ++ ⟨#[42]⟩ ++ q2]).map Value.string) := by
          rw [List.map_append, List.length_append]
          exact hown1
        have HO4 := Lib.hid hown2
        have HL4 : Hid ((ys ++ [q0 ++ ⟨#[62]⟩ ++ q1 ++ ⟨#[42]⟩ ++ q2]).length = i + 1 + 1) := by show _ = _; rw [List.length_append, HYL.out]; rfl
        clear hown1 hown2 hgrow hat4 hlt4
        go_wp2_with fail
        go_roundw
        case rel => exact ⟨i + 1, ys ++ [q0 ++ ⟨#[62]⟩ ++ q1 ++ ⟨#[42]⟩ ++ q2], by go_num, by omega, HL4.out, HO4.out, HY2, hb4, HTS4⟩
        case measure => simp [intOf]; omega
      · have HYE : Hid (ys = headT S :: l.map tubeT) := by show _ = _; rw [← HY.out, List.drop_of_length_le (by rw [← HL.out]; omega)]; simp
        obtain ⟨g5, c5, hv5, hgb, hglt⟩ := hown.form (by omega)
        rw [hv5] at hown ⊢
        have hce := hown.cells (g := g5) rfl
        have hcap : ys.length ≤ c5 := by
          rcases hown.2 with ⟨hq, -⟩ | ⟨g6, cap6, cur6, hq, -, -, hq2, -⟩
          · cases hq
          · injection hq with _ _ hq
            omega
        have hjl : (Lib.join (ys.map (·.data.toList)) (⟨#[32]⟩ : ByteArray).data.toList).length ≤ 140737488355328 := by rw [HYE.out, netT_len]; have := HNS.out; omega
        have HJ : Hid ((⟨(Lib.join (ys.map (·.data.toList)) (⟨#[32]⟩ : ByteArray).data.toList).toArray⟩ : ByteArray) = netT S l) := by show _ = _; rw [HYE.out, netT_join]
        have HCE := Lib.hid hce
        have HCAP := Lib.hid hcap
        have HJL := Lib.hid hjl
        have HYN : Hid (ys.length ≤ 140737488355328) := by show _ ≤ _; omega
        clear hown hce hcap hjl hyl hv5
        go_wp2_with fail
        refine (Tryd.strings_Join g5 0 c5 ys ⟨#[32]⟩ _ (fun j x hj => by simpa [Addr.add_lit] using HCE.out j (.string x) (by simp [hj])) hglt HYN.out HCAP.out HJL.out).mono ?_
        rintro e w5 ⟨rfl, hb5⟩
        rw [HJ.out]
        go_wp2_with fail
        go_ret
        rw [E.out]
        exact ⟨rfl, bel_next hbel hb5⟩

end Go.Proofs.YtlblnknglplgjaaDoor
