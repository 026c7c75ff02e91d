/-
  CONTRACTS: the spans of a run; two spans meet.
-/
import Derived.Test.YtlebkjkiikehhaaSpanP
namespace Go.Proofs.Ytlebkjkiikehhaa
open Go.RowKit

theorem info_span : (Try.prog.info? 94).map (fun i => (i.zero, i.size, i.bytes)) = some (some (.agg #[.int .i64 0, .int .i64 0, .int .i64 0]), 3, 24) := by kernel_rfl
theorem info_ints : (Try.prog.info? 39).map (fun i => (i.zero, i.size, i.bytes)) = some (some (.slice none 0 0), 1, 24) := by kernel_rfl
theorem own_nil3 (w : World) (t : TypeId) (size base : Nat) {g : Nat} (hg : g = w.heap.size) (hb : base ≤ w.heap.size) : (w.alloc (.cells #[] t)).ownsRow base t size (.slice (some ⟨g, 0, none⟩) 0 0) 0 [] := by
  subst hg
  exact World.ownsRow_made w #[] 0 hb (by unfold maxLen; omega) (by simp)
/-- The call returns a slice of spans. -/
def MadeSp (w : World) (l : List Sp) (n : Nat) (e : Ending) (w' : World) : Prop := ∃ A c, e = .returned (.slice A n c) ∧ SpAt w' A l ∧ Below w.heap.size w w'
/-- The call returns a slice of slices of its own. -/
def MadeSS (w : World) (tr t : TypeId) (l : List Sp) (n : Nat) (e : Ending) (w' : World) : Prop := ∃ A c, e = .returned (.slice A n c) ∧ n = l.length ∧ OwnSS w' w.heap.size tr t A c l ∧ Below w.heap.size w w'

set_option maxHeartbeats 2000000 in
theorem spansOf_any (A0 : Option Addr) (m c0 : Nat) (ts : List Int) (A : Option Addr) (n c : Nat) (r : Rn) (w : World) (h0 : IntsAt w A0 ts) (hl0 : m = ts.length)
    (h : IntsAt w A r.1) (hl : n = r.1.length) (hv : validT ts = true) (hr : runOk m r = true) :
    Calls Try.prog 60 #[.slice A0 m c0, .agg #[.slice A n c, .int .i64 r.2]] w (MadeSp w (spR ts r) n) := by
  obtain ⟨m1, m2, hts⟩ := validT_true hv
  obtain ⟨hway, s0, s1⟩ := runOk_true hr
  obtain ⟨n1, n2, hwy⟩ := wayOk_true hway
  obtain ⟨i0, hi, hz0, hz1, hz2⟩ := info_parts info_span
  have HI := Lib.hid (And.intro hi (And.intro hz0 (And.intro hz1 hz2)))
  rw [← hl0] at m1 m2
  rw [← hl] at n1 n2
  obtain ⟨b1, o1, rfl, hb1, hc1⟩ := h (by omega)
  obtain ⟨b2, o2, rfl, hb2, hc2⟩ := h0 (by omega)
  have HC1 := Lib.hid hc1
  have HC2 := Lib.hid hc2
  have HL := Lib.hid hl
  have HL0 := Lib.hid hl0
  have HTS := Lib.hid hts
  have HWY := Lib.hid hwy
  obtain ⟨st, hst⟩ : ∃ st, r.2 = st := ⟨_, rfl⟩
  have E : Hid (([] : List Sp) ++ spF ts st (r.1.drop 0) = spR ts r) := by rw [← hst]; rfl
  rw [hst] at s0 s1 ⊢
  obtain ⟨F, hF⟩ : ∃ F, spR ts r = F := ⟨_, rfl⟩
  rw [hF] at E ⊢
  clear h hl h0 hl0 hts hwy hv hr hway hst hF hc1 hc2 hi hz0 hz1 hz2
  go_enter Try.func60, Try.ntmps60
  go_wp2_with fail
  go_region_held3 (fun w' => w'.cell? ⟨w.heap.size, 0, none⟩ = some (.slice (some ⟨b1, o1, none⟩) n c) ∧ w'.cell? ⟨w.heap.size, 1, none⟩ = some (.int .i64 st)) (go_keep) (fail)
  go_wp2_with fail
  go_loopw [5, 6, 15] (fun v x u w' => ∃ (i : Nat) (a : Int) (ys : List Sp), u = .int .i64 i ∧ x = .int .i64 a ∧ i ≤ n ∧ ys.length = i ∧ w'.ownsRow w.heap.size 94 3 v ys.length (cells3 ys) ∧ Hid (ys ++ spF ts a (r.1.drop i) = F) ∧ 0 ≤ a ∧ a ≤ 100000 + 1000 * (i : Int) ∧ Below w.heap.size w w') (fun _ _ u _ => n - (intOf u).toNat)
  case atStart => exact ⟨0, st, [], rfl, rfl, by omega, rfl, own_nil3 _ _ _ _ (by simp) (by simp), E, by omega, by omega, by go_grown⟩
  case round =>
    clear E
    obtain ⟨i, a, ys, rfl, rfl, hin, hyl, hown, HE, ha0, ha1, hbel⟩ := hrel
    by_cases hlt : i < n
    · have hil : i < r.1.length := by rw [← HL.out]; exact hlt
      have t0 := bel_cell hbel (HC1.out i hil)
      obtain ⟨y0, y1⟩ := HWY.out i hil
      have hd := spF_step (ts := ts) (a := a) hil
      obtain ⟨q, hq⟩ : ∃ q : Nat, r.1[i] = q := ⟨r.1[i].toNat, by omega⟩
      rw [hq] at t0 y0 y1 hd
      rw [Int.toNat_natCast] at hd
      have hqm : q < ts.length := by rw [← HL0.out]; omega
      have t1 := bel_cell hbel (HC2.out q hqm)
      obtain ⟨z0, z1⟩ := HTS.out q hqm
      have hg : ts.getD q 0 = ts[q] := by simp [hqm]
      rw [hg] at hd
      obtain ⟨z, hz⟩ : ∃ z, ts[q] = z := ⟨_, rfl⟩
      rw [hz] at t1 z0 z1 hd
      have HE2 : Hid ((ys ++ [((q : Int), a, a + z)]) ++ spF ts (a + z) (r.1.drop (i + 1)) = F) := by show _ = _; rw [List.append_assoc, List.singleton_append, ← hd]; exact HE.out
      have hqm2 : q < m := by omega
      have HO := Lib.hid hown
      have HYL := Lib.hid hyl
      have hyn : ys.length ≤ 12 := by omega
      have hsw := hbel.size
      clear hd hq hz hg hqm HE hown hyl
      go_wp2_with (at_builtin; refine wpList_append_own _ rfl _ _ 91 rfl w.heap.size 94 i0 (.agg #[.int .i64 0, .int .i64 0, .int .i64 0]) 3 24 Try.underlying91 HI.out.1 HI.out.2.1 HI.out.2.2.1 HI.out.2.2.2 rfl (by decide) _ _ _ rfl (HO.out.alloc _) ⟨wr.heap.size, 0, none⟩ 1 1 [.int .i64 (q : Int), .int .i64 a, .int .i64 (a + z)] rfl rfl ?c1 ?c2 ?c3 ?c4 ?c5 ?_)
      try case c1 => exact World.news_of_block (heap_alloc_new wr _)
      try case c2 => exact ints_oneCell .i64 [(q : Int), a, a + z]
      try case c3 => unfold maxLen; omega
      try case c4 => omega
      try case c5 => first | (simp; omega) | omega
      intro v' w4 hown1 hgrow _
      have hown2 : w4.ownsRow w.heap.size 94 3 v' (ys ++ [((q : Int), a, a + z)]).length (cells3 (ys ++ [((q : Int), a, a + z)])) := by
        rw [cells3_append, List.length_append]
        exact hown1
      have HO4 := Lib.hid hown2
      have hb4 : Below w.heap.size w w4 := Below.grown (show Below w.heap.size w _ from hbel.alloc hbel.size _) hgrow (by simp; omega) (fun k hk => by have := (HO.out.lt k hk).1; omega)
      have t0' := bel_cell hb4 (HC2.out q (by rw [← HL0.out]; exact hqm2))
      have t1' : w4.cell? ⟨b2, o2 + q, none⟩ = some (.int .i64 z) := by
        have h6 := bel_cell hbel (HC2.out q (by rw [← HL0.out]; exact hqm2))
        rw [h6] at t1
        rw [t0']
        exact t1
      have HY4 : Hid ((ys ++ [((q : Int), a, a + z)]).length = i + 1) := by show _ = _; rw [List.length_append, HYL.out]; rfl
      clear hown1 hown2 hgrow t0'
      go_wp2_with fail
      go_roundw
      case rel => exact ⟨i + 1, a + z, ys ++ [((q : Int), a, a + z)], by go_num, rfl, by omega, HY4.out, HO4.out, HE2, by omega, by omega, hb4⟩
      case measure => simp [intOf]; omega
    · have HE2 : Hid (F = ys) := by show _ = _; rw [← HE.out, List.drop_of_length_le (by rw [← HL.out]; omega), spF, List.append_nil]
      obtain ⟨A2, c2, rfl⟩ := own_form hown
      have HR : Hid (SpAt wr A2 ys) := SpAt.ofOwn hown
      have hie : ys.length = n := by omega
      have HIE := Lib.hid hie
      clear hown hyl hie
      go_wp2_with fail
      go_ret
      rw [HE2.out]
      exact ⟨A2, c2, by rw [HIE.out]; rfl, HR.out, hbel⟩

set_option maxHeartbeats 2000000 in
theorem l06Spans_any (A0 : Option Addr) (m c0 : Nat) (ts : List Int) (b p : Nat) (A : Option Addr) (n c : Nat) (r : Rn) (w : World) (h0 : IntsAt w A0 ts) (hl0 : m = ts.length) (hp0 : w.cell? ⟨b, p, none⟩ = some (.slice A n c)) (hp1 : w.cell? ⟨b, p + 1, none⟩ = some (.int .i64 r.2))
    (h : IntsAt w A r.1) (hl : n = r.1.length) (hv : validT ts = true) (hr : runOk m r = true) :
    Calls Try.prog 59 #[.slice A0 m c0, .pointer (some ⟨b, p, none⟩)] w (MadeSS w 39 2 (spR ts r) n) := by
  obtain ⟨m1, m2, hts⟩ := validT_true hv
  obtain ⟨hway, s0, s1⟩ := runOk_true hr
  obtain ⟨n1, n2, hwy⟩ := wayOk_true hway
  obtain ⟨i0, hi, hz0, hz1, hz2⟩ := info_parts info_ints
  have HI := Lib.hid (And.intro hi (And.intro hz0 (And.intro hz1 hz2)))
  rw [← hl0] at m1 m2
  rw [← hl] at n1 n2
  obtain ⟨b1, o1, rfl, hb1, hc1⟩ := h (by omega)
  obtain ⟨b2, o2, rfl, hb2, hc2⟩ := h0 (by omega)
  have HC1 := Lib.hid hc1
  have HC2 := Lib.hid hc2
  have HL := Lib.hid hl
  have HL0 := Lib.hid hl0
  have HTS := Lib.hid hts
  have HWY := Lib.hid hwy
  obtain ⟨st, hst⟩ : ∃ st, r.2 = st := ⟨_, rfl⟩
  have E : Hid (([] : List Sp) ++ spF ts st (r.1.drop 0) = spR ts r) := by rw [← hst]; rfl
  rw [hst] at s0 s1 hp1
  have HFL : Hid ((spR ts r).length = n) := by show _ = _; unfold spR; rw [spF_len]; exact hl.symm
  obtain ⟨F, hF⟩ : ∃ F, spR ts r = F := ⟨_, rfl⟩
  rw [hF] at E HFL ⊢
  have HP0 := Lib.hid hp0
  have hpb := cell_lt hp0
  clear h hl h0 hl0 hts hwy hv hr hway hst hF hc1 hc2 hi hz0 hz1 hz2
  go_enter Try.func59, Try.ntmps59
  go_wp2_with fail
  go_loopw [5, 6, 7] (fun v x u w' => ∃ (i : Nat) (a : Int) (ys : List Sp), u = .int .i64 i ∧ x = .int .i64 a ∧ i ≤ n ∧ ys.length = i ∧ (∃ A c, v = .slice A ys.length c ∧ OwnSS w' w.heap.size 39 2 A c ys) ∧ Hid (ys ++ spF ts a (r.1.drop i) = F) ∧ 0 ≤ a ∧ a ≤ 100000 + 1000 * (i : Int) ∧ Below w.heap.size w w') (fun _ _ u _ => n - (intOf u).toNat)
  case atStart => exact ⟨0, st, [], rfl, rfl, by omega, rfl, ⟨_, 0, rfl, [], rfl, own_nil3 _ _ _ _ (by simp) (by simp), fun k hk => absurd hk (by simp)⟩, E, by omega, by omega, by go_grown⟩
  case round =>
    clear E hp0 hp1
    obtain ⟨i, a, ys, rfl, rfl, hin, hyl, ⟨A2, c2, rfl, hown⟩, HE, ha0, ha1, hbel⟩ := hrel
    have hp0 := bel_cell hbel HP0.out
    by_cases hlt : i < n
    · have hil : i < r.1.length := by rw [← HL.out]; exact hlt
      have t0 := bel_cell hbel (HC1.out i hil)
      obtain ⟨y0, y1⟩ := HWY.out i hil
      have hd := spF_step (ts := ts) (a := a) hil
      obtain ⟨q, hq⟩ : ∃ q : Nat, r.1[i] = q := ⟨r.1[i].toNat, by omega⟩
      rw [hq] at t0 y0 y1 hd
      rw [Int.toNat_natCast] at hd
      have hqm : q < ts.length := by rw [← HL0.out]; omega
      have t1 := bel_cell hbel (HC2.out q hqm)
      obtain ⟨z0, z1⟩ := HTS.out q hqm
      have hg : ts.getD q 0 = ts[q] := by simp [hqm]
      rw [hg] at hd
      obtain ⟨z, hz⟩ : ∃ z, ts[q] = z := ⟨_, rfl⟩
      rw [hz] at t1 z0 z1 hd
      have HE2 : Hid ((ys ++ [((q : Int), a, a + z)]) ++ spF ts (a + z) (r.1.drop (i + 1)) = F) := by show _ = _; rw [List.append_assoc, List.singleton_append, ← hd]; exact HE.out
      have hqm2 : q < m := by omega
      obtain ⟨gs, hgl, ho, hk⟩ := hown
      have HO := Lib.hid ho
      have HK := Lib.hid hk
      have HGL := Lib.hid hgl
      have HYL := Lib.hid hyl
      have hyn : ys.length ≤ 12 := by omega
      have hsw := hbel.size
      have HY4 : Hid ((ys ++ [((q : Int), a, a + z)]).length = i + 1) := by show _ = _; rw [List.length_append, HYL.out]; rfl
      clear hd hq hz hg hqm HE hyl ho hk hgl
      go_wp2_with (at_builtin; refine wpList_append_own _ rfl _ _ 55 rfl w.heap.size 39 i0 (.slice none 0 0) 1 24 Try.underlying55 HI.out.1 HI.out.2.1 HI.out.2.2.1 HI.out.2.2.2 rfl (by decide) _ _ _ rfl ((HO.out.alloc _).alloc _) ⟨wr.heap.size + 1, 0, none⟩ 1 1 [.slice (some ⟨wr.heap.size, 0, none⟩) 3 3] rfl rfl ?d1 ?d2 ?d3 ?d4 ?d5 ?_)
      try
        case d1 =>
          intro j u hu
          cases j with
          | zero => simp at hu; subst hu; simp [Addr.add]
          | succ j => simp at hu
      try case d2 => intro u hu; simp at hu; subst hu; rfl
      try case d3 => unfold maxLen; omega
      try case d4 => omega
      try case d5 => first | (simp; omega) | omega
      intro v' w4 hown1 hgrow _
      obtain ⟨A4, c4, rfl⟩ := own_form hown1
      have HO4 : Hid (OwnSS w4 w.heap.size 39 2 A4 c4 (ys ++ [((q : Int), a, a + z)])) := by
        refine ⟨gs ++ [wr.heap.size], by simp [HGL.out], ?_, ?_⟩
        · have h5 := hown1
          have e1 : (ys ++ [((q : Int), a, a + z)]).length = ys.length + 1 := by simp
          rw [e1]
          simpa [sliceV] using h5
        · intro k h1 h2
          rcases Nat.lt_or_ge k ys.length with h3 | h3
          · have h4 : k < gs.length := by rw [HGL.out]; exact h3
            obtain ⟨h5, h6⟩ := HK.out k h3 h4
            rw [List.getElem_append_left h4, List.getElem_append_left h3]
            refine ⟨h5, ?_⟩
            have h7 := (h6.alloc (.cells #[.int .i64 (q : Int), .int .i64 a, .int .i64 (a + z)] 2)).alloc (.cells #[.slice (some ⟨wr.heap.size, 0, none⟩) 3 3] 39)
            refine (hgrow.block _ h7.lt ?_).trans h7
            intro he
            have h8 := HO.out
            rcases h8.2 with ⟨hn, -⟩ | ⟨g9, cap9, cur9, hv9, -, hB9, -⟩
            · rw [hn] at he; cases he
            · rw [hv9] at he
              injection he with he
              simp only at he
              rw [he] at h6
              have h10 := h6.symm.trans hB9
              injection h10 with h10
              injection h10 with _ h11
              exact absurd h11 (by decide)
          · have h4 : k = ys.length := by have := h1; simp at this; omega
            subst h4
            have e2 : ys.length = gs.length := HGL.out.symm
            rw [List.getElem_append_right (by omega), List.getElem_append_right (by omega)]
            simp only [e2, Nat.sub_self, List.getElem_singleton]
            refine ⟨by omega, ?_⟩
            have h7 := (Blk.new wr 2 #[.int .i64 (q : Int), .int .i64 a, .int .i64 (a + z)]).alloc (.cells #[.slice (some ⟨wr.heap.size, 0, none⟩) 3 3] 39)
            refine (hgrow.block _ h7.lt ?_).trans h7
            intro he
            have h8 := HO.out.lt _ he.symm
            omega
      have e1 : (ys ++ [((q : Int), a, a + z)]).length = ys.length + 1 := by simp
      rw [← e1]
      have hb4 : Below w.heap.size w w4 := Below.grown (bel_next hbel (by go_grown)) hgrow (by simp; omega) (fun k hk => by have := (HO.out.lt k hk).1; omega)
      have t1' : w4.cell? ⟨b2, o2 + q, none⟩ = some (.int .i64 z) := by
        have h6 := HC2.out q (by rw [← HL0.out]; exact hqm2)
        rw [bel_cell hbel h6] at t1
        rw [bel_cell hb4 h6]
        exact t1
      clear hown1 hgrow e1
      go_wp2_with fail
      go_roundw
      case rel => exact ⟨i + 1, a + z, ys ++ [((q : Int), a, a + z)], by go_num, rfl, by omega, HY4.out, ⟨A4, c4, rfl, HO4.out⟩, HE2, by omega, by omega, hb4⟩
      case measure => simp [intOf]; omega
    · have HE2 : Hid (F = ys) := by show _ = _; rw [← HE.out, List.drop_of_length_le (by rw [← HL.out]; omega), spF, List.append_nil]
      have hie : ys.length = n := by omega
      have HIE := Lib.hid hie
      have HO := Lib.hid hown
      clear hown hyl hie
      go_wp2_with fail
      go_ret
      rw [HE2.out]
      exact ⟨A2, c2, by rw [HIE.out]; rfl, HIE.out.symm, HO.out, hbel⟩

theorem meet_any (s o : Sp) (w : World) :
    Calls Try.prog 63 #[.agg #[.int .i64 s.1, .int .i64 s.2.1, .int .i64 s.2.2], .agg #[.int .i64 o.1, .int .i64 o.2.1, .int .i64 o.2.2]] w (Ret w (.bool (meetB s o))) := by
  obtain ⟨a, b, c⟩ := s
  obtain ⟨x, y, z⟩ := o
  show Calls Try.prog 63 #[.agg #[.int .i64 a, .int .i64 b, .int .i64 c], .agg #[.int .i64 x, .int .i64 y, .int .i64 z]] w _
  by_cases h1 : a = x
  · have hb1 : (a == x) = true := by simpa using h1
    by_cases h2 : b < z
    · by_cases h3 : y < c
      · have E : Hid (meetB (a, b, c) (x, y, z) = true) := by show _ = _; simp [meetB, h1, h2, h3]
        clear h1
        go_enter Try.func63, Try.ntmps63
        go_wp2_with fail
        go_ret
        rw [E.out]
        exact ⟨rfl, by go_grown⟩
      · have E : Hid (meetB (a, b, c) (x, y, z) = false) := by show _ = _; simp [meetB, h1, h2, h3]
        clear h1
        go_enter Try.func63, Try.ntmps63
        go_wp2_with fail
        go_ret
        rw [E.out]
        exact ⟨rfl, by go_grown⟩
    · have E : Hid (meetB (a, b, c) (x, y, z) = false) := by show _ = _; simp [meetB, h1, h2]
      clear h1
      go_enter Try.func63, Try.ntmps63
      go_wp2_with fail
      go_ret
      rw [E.out]
      exact ⟨rfl, by go_grown⟩
  · have hb1 : (a == x) = false := by simpa using h1
    have E : Hid (meetB (a, b, c) (x, y, z) = false) := by show _ = _; simp [meetB, h1]
    clear h1
    go_enter Try.func63, Try.ntmps63
    go_wp2_with fail
    go_ret
    rw [E.out]
    exact ⟨rfl, by go_grown⟩

/-- The first place at which the closure says yes, or -1; the memory may have grown. -/
def FoundM (w : World) (b : Bool) (e : Ending) (w' : World) : Prop := ∃ r : Int, e = .returned (.int .i64 r) ∧ decide (0 ≤ r) = b ∧ Below w.heap.size w w'

set_option maxHeartbeats 1000000 in
theorem IndexFunc_meet (s : Sp) (A : Option Addr) (n c : Nat) (l : List Sp) (w : World) (h : SpAt w A l) (hl : n = l.length) (hn0 : n ≤ 1048576) :
    Calls Try.prog 97 #[.slice A n c, .func (.func 63) #[.agg #[.int .i64 s.1, .int .i64 s.2.1, .int .i64 s.2.2]] #[]] w (FoundM w (anyM s l)) := by
  have H := Lib.hid h
  have HL := Lib.hid hl
  clear h hl
  go_enter Try.func97, Try.ntmps97
  go_wp2
  go_loopw [8] (fun u w' => ∃ (i : Nat), u = .int .i64 i ∧ i ≤ n ∧ Hid (anyM s l = anyM s (l.drop i)) ∧ Below w.heap.size w w') (fun u _ => n - (intOf u).toNat)
  case atStart => exact ⟨0, rfl, by omega, rfl, Below.refl _ _⟩
  case round =>
    obtain ⟨i, rfl, hin, HA, hbel⟩ := hrel
    by_cases hlt : i < n
    · obtain ⟨b, o, rfl, hblt, hc⟩ := (H.out.bel hbel) (by rw [← HL.out]; omega)
      have hil : i < l.length := by rw [← HL.out]; exact hlt
      obtain ⟨t0, t1, t2⟩ := hc i hil
      have hd := anyM_step (s := s) hil
      obtain ⟨x, hx⟩ : ∃ x, l[i] = x := ⟨_, rfl⟩
      rw [hx] at t0 t1 t2 hd
      clear hc hx
      cases hv : meetB s x
      · have HF : Hid (anyM s l = anyM s (l.drop (i + 1))) := by show _ = _; rw [HA.out, hd, hv]; rfl
        clear hd
        go_wp2_with fail
        refine (meet_any s x _).mono ?_
        rintro e w2 ⟨rfl, hb2⟩
        rw [hv]
        go_wp2_with fail
        go_roundw
        case rel => exact ⟨i + 1, by go_num, by omega, HF, bel_next hbel hb2⟩
        case measure => simp [intOf]; omega
      · have HF : Hid (anyM s l = true) := by show _ = _; rw [HA.out, hd, hv]; rfl
        clear hd
        go_wp2_with fail
        refine (meet_any s x _).mono ?_
        rintro e w2 ⟨rfl, hb2⟩
        rw [hv]
        go_wp2_with fail
        go_ret
        exact ⟨_, rfl, by rw [HF.out]; simp, bel_next hbel hb2⟩
    · have HF : Hid (anyM s l = false) := by show _ = _; rw [HA.out, List.drop_of_length_le (by rw [← HL.out]; omega)]; rfl
      go_wp2_with fail
      go_ret
      exact ⟨-1, rfl, by rw [HF.out]; rfl, hbel⟩

theorem ContainsFunc_meet (s : Sp) (A : Option Addr) (n c : Nat) (l : List Sp) (w : World) (h : SpAt w A l) (hl : n = l.length) (hn0 : n ≤ 1048576) :
    Calls Try.prog 62 #[.slice A n c, .func (.func 63) #[.agg #[.int .i64 s.1, .int .i64 s.2.1, .int .i64 s.2.2]] #[]] w (Ret w (.bool (anyM s l))) := by
  have HL := Lib.hid hl
  clear hl
  go_enter Try.func62, Try.ntmps62
  go_wp2_with fail
  refine (IndexFunc_meet s A n c l _ h HL.out hn0).mono ?_
  rintro e w1 ⟨r, rfl, hr, hb⟩
  have HR := Lib.hid hr
  clear hr
  go_wp2_with fail
  go_ret
  exact ⟨ret_bool (by rw [← HR.out]), hb⟩

end Go.Proofs.Ytlebkjkiikehhaa
