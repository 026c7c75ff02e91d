/-
  CONTRACTS: the spans of a run, as a result, the two ways.
-/
import Derived.Test.YtlebkjkiikehhaaSpansM
namespace Go.Proofs.Ytlebkjkiikehhaa
open Go.RowKit

/-- The call returns a slice of slices of three numbers each, and a code. -/
def MadeSpC (w : World) (l : List Sp) (k : Int) (e : Ending) (w' : World) : Prop :=
  ∃ A c, e = .returned (.tuple #[.slice A l.length c, .int .i64 k]) ∧ SpIn w' w.heap.size w'.heap.size A l ∧ Below w.heap.size w w'
def MadeSdC (w : World) (l : List Sp) (k : Int) (e : Ending) (w' : World) : Prop :=
  ∃ A c, e = .returned (.tuple #[.slice A l.length c, .int .i64 k]) ∧ (SpIn w' w.heap.size w'.heap.size A l ∧ SpOwn w' w.heap.size w'.heap.size A l.length ∧ ∀ p, A = some p → w.heap.size ≤ p.block ∧ p.block < w'.heap.size) ∧ Below w.heap.size w w'
theorem spansR_len (ts : List Int) (r : Rn) : (spansR ts r).1.length ≤ 1048576 := by
  unfold spansR
  split
  · rename_i h
    obtain ⟨h1, h2⟩ := runsOk_one h
    obtain ⟨hway, -, -⟩ := runOk_true h2
    obtain ⟨-, h3, -⟩ := wayOk_true hway
    unfold spR
    rw [spF_len]
    omega
  · simp

set_option maxHeartbeats 2000000 in
theorem specSpansOf_any (A0 : Option Addr) (m c0 : Nat) (ts : List Int) (A : Option Addr) (n c : Nat) (l : List Int) (S : Int) (w : World) (h0 : IntsAt w A0 ts) (hl0 : m = ts.length) (hm : m ≤ 1048576)
    (h : IntsAt w A l) (hl : n = l.length) (hn0 : n ≤ 1048576) :
    Calls Try.prog 28 #[.slice A0 m c0, .agg #[.slice A n c, .int .i64 S]] w (MadeSpC w (spansR ts (l, S)).1 (spansR ts (l, S)).2) := by
  have H := Lib.hid h
  have HL := Lib.hid hl
  have H0 := Lib.hid h0
  have HL0 := Lib.hid hl0
  clear h hl h0 hl0
  go_enter Try.func28, Try.ntmps28
  go_wp2_with fail
  refine (l06Ok_any A0 m c0 ts _ 1 1 [(l, S)] _ ((H0.out.alloc _).alloc _) HL0.out hm (RunsAt.one (Blk.newAt (n := w.heap.size + 1) (by simp)) HL.out ((H.out.alloc _).alloc _) hn0) rfl (Small.one HL.out hn0)).mono ?_
  rintro e w1 ⟨rfl, rfl⟩
  cases hv : runsOk ts [(l, S)]
  · have E : Hid (spansR ts (l, S) = ([], 1)) := by show _ = _; simp [spansR, hv]
    clear hv
    go_wp2_with fail
    refine bodyPost_ret (v := .tuple #[.slice none 0 0, .int .i64 1]) (by simp [results, Try.results28, go_sem]) rfl ?_
    rw [E.out]
    exact ⟨none, 0, rfl, fun h => absurd h (by simp), by go_grown⟩
  · have E : Hid (spansR ts (l, S) = (spR ts (l, S), 0)) := by show _ = _; simp [spansR, hv]
    obtain ⟨hv1, hv2⟩ := runsOk_one hv
    rw [← HL0.out] at hv2
    have HV1 := Lib.hid hv1
    have HV2 := Lib.hid hv2
    clear hv hv1 hv2
    go_wp2_with fail
    refine (l06Spans_any A0 m c0 ts _ 0 A n c (l, S) _ ((H0.out.alloc _).alloc _) HL0.out (by go_cell) (by go_cell) ((H.out.alloc _).alloc _) HL.out HV1.out HV2.out).mono ?_
    rintro e w2 ⟨A2, c2, rfl, hn, hown, hb⟩
    have D : Below w.heap.size w w2 := Below.trans (by go_grown) (hb.mono (by simp; omega))
    have HI := Lib.hid (hown.inn.low (show w.heap.size ≤ _ by simp; omega))
    have HN := Lib.hid hn
    clear hown hb hn
    go_wp2_with fail
    refine bodyPost_ret (v := .tuple #[.slice A2 n c2, .int .i64 0]) (by simp [results, Try.results28, go_sem]) rfl ?_
    rw [E.out]
    refine ⟨A2, c2, ?_, HI.out, D⟩
    show _ = Ending.returned (.tuple #[.slice A2 (spR ts (l, S)).length c2, .int .i64 0])
    rw [← HN.out]

set_option maxHeartbeats 4000000 in
theorem implSpansOf_any (A0 : Option Addr) (m c0 : Nat) (ts : List Int) (A : Option Addr) (n c : Nat) (l : List Int) (S : Int) (w : World) (h0 : IntsAt w A0 ts) (hl0 : m = ts.length) (hm : m ≤ 1048576)
    (h : IntsAt w A l) (hl : n = l.length) (hn0 : n ≤ 1048576) :
    Calls Try.prog 30 #[.slice A0 m c0, .agg #[.slice A n c, .int .i64 S]] w (MadeSdC w (spansR ts (l, S)).1 (spansR ts (l, S)).2) := by
  have H := Lib.hid h
  have HL := Lib.hid hl
  have H0 := Lib.hid h0
  have HL0 := Lib.hid hl0
  clear h hl h0 hl0
  go_enter Try.func30, Try.ntmps30
  go_wp2_with fail
  refine (implValidRuns_any A0 m c0 ts _ 1 1 [(l, S)] _ ((H0.out.alloc _).alloc _) HL0.out hm (RunsAt.one (Blk.newAt (n := w.heap.size + 1) (by simp)) HL.out ((H.out.alloc _).alloc _) hn0) rfl (Small.one HL.out hn0)).mono ?_
  rintro e w1 ⟨rfl, hb1⟩
  have D1 : Below w.heap.size w w1 := Below.trans (by go_grown) (hb1.mono (by simp; omega))
  obtain ⟨b0, b1, -⟩ := (bel_blk ((Blk.new _ _ _).alloc _) hb1).c2
  have hw1 : w.heap.size < w1.heap.size := cell_lt b0
  clear hb1
  cases hv : runsOk ts [(l, S)]
  · have E : Hid (spansR ts (l, S) = ([], 1)) := by show _ = _; simp [spansR, hv]
    clear hv
    go_wp2_with fail
    refine bodyPost_ret (v := .tuple #[.slice none 0 0, .int .i64 1]) (by simp [results, Try.results30, go_sem]) rfl ?_
    rw [E.out]
    exact ⟨none, 0, rfl, ⟨fun h => absurd h (by simp), fun h => absurd h (by simp), fun p hp => by cases hp⟩, D1⟩
  · have E : Hid (spansR ts (l, S) = (spR ts (l, S), 0)) := by show _ = _; simp [spansR, hv]
    obtain ⟨hv1, hv2⟩ := runsOk_one hv
    rw [← HL0.out] at hv2
    have HV1 := Lib.hid hv1
    have HV2 := Lib.hid hv2
    have hway := (wayOk_true (runOk_true hv2).1).2.1
    have hn12 : n ≤ 12 := by rw [HL.out]; exact hway
    obtain ⟨i0, hi, hz0, hz1, hz2⟩ := info_parts info_ints
    have HI := Lib.hid (And.intro hi (And.intro hz0 (And.intro hz1 hz2)))
    have HFL : Hid ((spR ts (l, S)).length = n) := by show _ = _; unfold spR; rw [spF_len]; exact HL.out.symm
    clear hv hv1 hv2 hway hi hz0 hz1 hz2
    go_wp2_with fail
    have HO0 : Hid (OwnSD (w1.alloc (.cells #[] 39)) w.heap.size 39 2 (some ⟨w1.heap.size, 0, none⟩) 0 []) := ⟨[], rfl, own_nil3 _ _ _ _ rfl D1.size, fun k hk => absurd hk (by simp), fun j k hk => absurd hk (by simp)⟩
    have hb : Below w1.heap.size w1 (w1.alloc (.cells #[] 39)) := (Below.refl _ _).alloc (Nat.le_refl _) _
    obtain ⟨w2, hw2⟩ : ∃ w2, w1.alloc (.cells #[] 39) = w2 := ⟨_, rfl⟩
    have hw21 : w1.heap.size < w2.heap.size := by rw [← hw2]; simp
    obtain ⟨g2, hg2⟩ : ∃ g, w1.heap.size = g := ⟨_, rfl⟩
    have HG2 : Hid (Blk (w1.alloc (.cells #[] 39)) w1.heap.size 39 #[]) := Blk.new _ _ _
    rw [hw2] at HO0 HG2 hb ⊢
    rw [hg2] at HO0 HG2 hw21 ⊢
    have D2 := bel_next D1 hb
    clear hw2 hg2 b0 b1 hb
    refine (spansOf_any A0 m c0 ts A n c (l, S) _ (H0.out.bel D2) HL0.out (H.out.bel D2) HL.out HV1.out HV2.out).mono ?_
    rintro e w3 ⟨A3, c3, rfl, hsp, hb⟩
    have D3 := bel_next D2 hb
    have HS := Lib.hid hsp
    have HO3 : Hid (OwnSD w3 w.heap.size 39 2 (some ⟨g2, 0, none⟩) 0 []) := by
      obtain ⟨gs, a, b, d, f⟩ := HO0.out
      exact ⟨gs, a, own_belS b hb, fun k h1 h2 => ⟨(d k h1 h2).1, bel_blk (d k h1 h2).2 hb⟩, f⟩
    obtain ⟨F, hF⟩ : ∃ F, spR ts (l, S) = F := ⟨_, rfl⟩
    rw [hF] at E HFL HS
    have HB : Hid (0 < F.length → ∀ p, A3 = some p → p.block < w3.heap.size ∧ p.block ≠ g2) := by
      intro h0 p hp
      obtain ⟨b, o, e, hlt, hc⟩ := HS.out h0
      rw [e] at hp
      injection hp with hp
      subst hp
      refine ⟨hlt, fun e2 => ?_⟩
      simp only at e2
      subst e2
      have h1 := (hc 0 h0).1
      have h2 : Blk w3 b 39 #[] := bel_blk HG2.out hb
      rw [h2.cell] at h1
      simp at h1
    have hg23 : g2 < w3.heap.size := by have := hb.size; omega
    clear HO0 hb hsp hw1 hw21 hF HG2
    go_wp2_with fail
    go_loopw [6, 19] (fun v u w' => ∃ (i : Nat), u = .int .i64 i ∧ i ≤ n ∧ Hid (∃ g c, v = .slice (some ⟨g, 0, none⟩) (F.take i).length c ∧ (g = g2 ∨ w3.heap.size ≤ g) ∧ OwnSD w' w.heap.size 39 2 (some ⟨g, 0, none⟩) c (F.take i)) ∧ Hid (SpAt w' A3 F) ∧ w3.heap.size ≤ w'.heap.size ∧ Below w.heap.size w w') (fun _ u _ => n - (intOf u).toNat)
    case atStart => exact ⟨0, rfl, by omega, ⟨_, 0, rfl, .inl rfl, HO3.out⟩, HS, Nat.le_refl _, D3⟩
    case round =>
      clear HO3 HS
      obtain ⟨i, rfl, hin, HO, HS, hsz3, hbel⟩ := hrel
      by_cases hlt : i < n
      · have hiF : i < F.length := by rw [HFL.out]; exact hlt
        obtain ⟨b3, o3, rfl, hb3, hc⟩ := HS.out (by omega)
        obtain ⟨hb31, hb32⟩ := HB.out (by omega) _ rfl
        simp only at hb31 hb32
        obtain ⟨s0, s1, s2⟩ := hc i hiF
        obtain ⟨ga, c2, rfl, hga, hown⟩ := HO.out
        obtain ⟨gs, hgl, ho, hk, hd⟩ := hown
        have hti : (F.take i).length = i := by simp; omega
        rw [hti] at ho hgl ⊢
        have htake : F.take (i + 1) = F.take i ++ [F[i]] := by rw [List.take_add_one, List.getElem?_eq_getElem hiF]; rfl
        obtain ⟨⟨a, b, d⟩, hx⟩ : ∃ x, F[i] = x := ⟨_, rfl⟩
        rw [hx] at s0 s1 s2 htake
        simp only at s0 s1 s2
        have HTK := Lib.hid htake
        have HTI := Lib.hid hti
        have HOW := Lib.hid ho
        have HK := Lib.hid hk
        have HD := Lib.hid hd
        have HGL := Lib.hid hgl
        have hsw := hbel.size
        clear hc HO ho hk hd hgl hti htake hx
        go_wp2_with (at_builtin; refine wpList_append_lies _ rfl _ _ 55 rfl w.heap.size 39 i0 (.slice none 0 0) 1 24 Try.underlying55 HI.out.1 HI.out.2.1 HI.out.2.2.1 HI.out.2.2.2 rfl (by decide) _ _ _ rfl (((HOW.out.alloc _).alloc _).alloc _) ⟨wr.heap.size + 1 + 1, 0, none⟩ 1 1 [.slice (some ⟨wr.heap.size + 1, 0, none⟩) 3 3] rfl rfl ?d1 ?d2 (by decide) ?d3 ?d4 ?d5 _ rfl ?_)
        try case d1 => exact World.news_of_block (Blk.newAt (by simp))
        try case d2 => intro u hu; simp at hu; subst hu; rfl
        try case d3 => unfold maxLen; omega
        try case d4 => omega
        try case d5 => first | (simp; omega) | omega
        intro g5 c4 w4 hown1 hgrow hat hlt5
        obtain ⟨A4, hA4⟩ : ∃ A4, (some ⟨g5, 0, none⟩ : Option Addr) = A4 := ⟨_, rfl⟩
        rw [hA4] at hown1
        have hb4 : Below w.heap.size w w4 := Below.grown (bel_next hbel (by go_grown)) hgrow (by simp; omega) (fun k hk => by have := (HOW.out.lt k hk).1; omega)
        have HN : Hid (∀ k, (Value.slice (some ⟨ga, 0, none⟩) i c2).ownBlock = some k → k < wr.heap.size) := fun k hk => (HOW.out.lt k hk).2
        have HO4 : Hid (OwnSD w4 w.heap.size 39 2 A4 c4 (F.take (i + 1))) := by
          rw [HTK.out]
          refine ⟨gs ++ [wr.heap.size + 1], by simp [HGL.out, HTI.out], ?_, ?_, ?_⟩
          · have h5 := hown1
            have e1 : (F.take i ++ [(a, b, d)]).length = i + 1 := by rw [List.length_append, HTI.out]; rfl
            rw [e1]
            simpa [sliceV] using h5
          · intro k h1 h2
            rcases Nat.lt_or_ge k i with h3 | h3
            · have h4 : k < gs.length := by rw [HGL.out]; exact h3
              have h3' : k < (F.take i).length := by rw [HTI.out]; exact h3
              obtain ⟨h5, h6⟩ := HK.out k h3' h4
              rw [List.getElem_append_left h4, List.getElem_append_left h3']
              refine ⟨h5, ?_⟩
              have h7 := ((h6.alloc (.cells #[.int .i64 a, .int .i64 b, .int .i64 d] 94)).alloc (.cells #[.int .i64 a, .int .i64 b, .int .i64 d] 2)).alloc (.cells #[.slice (some ⟨wr.heap.size + 1, 0, none⟩) 3 3] 39)
              refine (hgrow.block _ h7.lt ?_).trans h7
              intro he
              have h8 := HOW.out
              rcases h8.2 with ⟨hn, -⟩ | ⟨g9, cap9, cur9, hv9, -, hB9, -⟩
              · rw [hn] at he; cases he
              · rw [hv9] at he
                injection he with he
                simp only at he
                rw [he] at h6
                have h10 := h6.symm.trans hB9
                injection h10 with h10
                injection h10 with _ h11
                exact absurd h11 (by decide)
            · have h4 : k = i := by have := h1; rw [List.length_append, HTI.out] at this; simp at this; omega
              subst h4
              rw [List.getElem_append_right (by rw [HGL.out]; exact Nat.le_refl _), List.getElem_append_right (by rw [HTI.out]; exact Nat.le_refl _)]
              simp only [HGL.out, HTI.out, Nat.sub_self, List.getElem_singleton]
              refine ⟨by omega, ?_⟩
              have h7 := (Blk.newAt (w := wr.alloc (.cells #[.int .i64 a, .int .i64 b, .int .i64 d] 94)) (n := wr.heap.size + 1) (t := 2) (cs := #[.int .i64 a, .int .i64 b, .int .i64 d]) (by simp)).alloc (.cells #[.slice (some ⟨wr.heap.size + 1, 0, none⟩) 3 3] 39)
              refine (hgrow.block _ h7.lt ?_).trans h7
              intro he
              have h8 := HN.out _ he.symm
              omega
          · intro j k h1 h2
            rcases Nat.lt_or_ge k gs.length with h3 | h3
            · rw [List.getElem_append_left h3, List.getElem_append_left (by omega)]
              exact HD.out j k h3 h2
            · have h4 : k = gs.length := by have := h1; simp at this; omega
              subst h4
              rw [List.getElem_append_left h2, List.getElem_append_right (Nat.le_refl _)]
              simp only [Nat.sub_self, List.getElem_singleton]
              have h5 : j < (F.take i).length := by rw [HTI.out, ← HGL.out]; exact h2
              have := (HK.out j h5 h2).2.lt
              omega
        have HL4 : Hid ((F.take (i + 1)).length = i + 1) := by show _ = _; rw [HTK.out, List.length_append, HTI.out]; rfl
        have HS4 : Hid (SpAt w4 (some ⟨b3, o3, none⟩) F) := by
          have h1 := ((HS.out.alloc (.cells #[.int .i64 a, .int .i64 b, .int .i64 d] 94)).alloc (.cells #[.int .i64 a, .int .i64 b, .int .i64 d] 2)).alloc (.cells #[.slice (some ⟨wr.heap.size + 1, 0, none⟩) 3 3] 39)
          intro h0
          obtain ⟨b5, o5, e5, hlt5', hc5⟩ := h1 h0
          injection e5 with e5
          injection e5 with e6 e7
          subst e6 e7
          have hne : some b3 ≠ (Value.slice (some ⟨ga, 0, none⟩) i c2).ownBlock := fun h => by
            injection h with h
            have h9 : b3 = ga := h
            rcases hga with rfl | hga
            · exact hb32 h9
            · omega
          exact ⟨b3, o3, rfl, Nat.lt_of_lt_of_le hlt5' hgrow.size, fun k hk => ⟨hgrow.cell (hc5 k hk).1 hne, hgrow.cell (hc5 k hk).2.1 hne, hgrow.cell (hc5 k hk).2.2 hne⟩⟩
        have hg5 : g5 = g2 ∨ w3.heap.size ≤ g5 := by
          rcases hat with h | h
          · injection h with h
            rw [← h]
            exact hga
          · right
            rw [h]
            first | omega | (simp; omega)
        have hs4 : w3.heap.size ≤ w4.heap.size := by have := hgrow.size; simp at this; omega
        subst hA4
        clear hown1 hgrow HS
        go_wp2_with fail
        go_roundw
        case rel => exact ⟨i + 1, by go_num, by omega, ⟨g5, c4, by rw [HL4.out], hg5, HO4.out⟩, HS4, hs4, hb4⟩
        case measure => simp [intOf]; omega
      · have hie : i = n := by omega
        subst hie
        obtain ⟨ga, c2, rfl, hga, hown⟩ := HO.out
        obtain ⟨A2, hA2⟩ : ∃ A2, (some ⟨ga, 0, none⟩ : Option Addr) = A2 := ⟨_, rfl⟩
        rw [hA2] at hown ⊢
        have hti : F.take i = F := List.take_of_length_le (by rw [HFL.out]; exact Nat.le_refl _)
        rw [hti] at hown ⊢
        rw [HFL.out]
        have hq := hown.own (by decide)
        have hin2 := hown.ss.inn
        have hu : ∀ p, A2 = some p → w.heap.size ≤ p.block ∧ p.block < wr.heap.size := by
          obtain ⟨gs, -, ho, -, -⟩ := hown
          intro p hp
          subst hp
          exact ho.lt p.block rfl
        have HQ := Lib.hid (And.intro hin2 (And.intro hq hu))
        clear HO hown hti hq hin2 hu HS hA2 hga
        go_wp2_with fail
        refine bodyPost_ret (v := .tuple #[.slice A2 i c2, .int .i64 0]) (by simp [results, Try.results30, go_sem]) rfl ?_
        rw [E.out]
        refine ⟨A2, c2, ?_, HQ.out, hbel⟩
        show _ = Ending.returned (.tuple #[.slice A2 F.length c2, .int .i64 0])
        rw [HFL.out]

end Go.Proofs.Ytlebkjkiikehhaa
