/-
  SLICES OF RUNS, as they lie in memory, and the contracts of the laws' own helpers on them.
-/
import Derived.Test.YtlebkjkiikehhaaIntS
import Derived.Test.YtlebkjkiikehhaaAid
namespace Go.Proofs.Ytlebkjkiikehhaa
open Go.RowKit

abbrev Rn := List Int × Int
/-- The two cells of a run at an address, and its way. -/
def RunAt (w : World) (b o : Nat) (r : Rn) : Prop :=
  ∃ A c, w.cell? ⟨b, o, none⟩ = some (.slice A r.1.length c) ∧ w.cell? ⟨b, o + 1, none⟩ = some (.int .i64 r.2) ∧ IntsAt w A r.1 ∧ r.1.length ≤ 9223372036854775807
theorem RunAt.bel {w w' : World} {b o : Nat} {r : Rn} (h : RunAt w b o r) (hb : Below w.heap.size w w') : RunAt w' b o r := by
  obtain ⟨A, c, h1, h2, h3, h4⟩ := h
  exact ⟨A, c, bel_cell hb h1, bel_cell hb h2, h3.bel hb, h4⟩
def RunsAt (w : World) (A : Option Addr) (l : List Rn) : Prop :=
  0 < l.length → ∃ b o, A = some ⟨b, o, none⟩ ∧ b < w.heap.size ∧ ∀ (k : Nat) (h : k < l.length), RunAt w b (o + k * 2) l[k]
theorem RunsAt.bel {w w' : World} {A : Option Addr} {l : List Rn} (h : RunsAt w A l) (hb : Below w.heap.size w w') : RunsAt w' A l := fun h0 => by
  obtain ⟨b, o, e, hlt, hc⟩ := h h0
  exact ⟨b, o, e, Nat.lt_of_lt_of_le hlt hb.size, fun k hk => (hc k hk).bel hb⟩
theorem RunsAt.drew {w : World} {A : Option Addr} {l : List Rn} (h : RunsAt w A l) : RunsAt w.drew A l := h.bel (Below.refl _ _).drew
theorem RunsAt.alloc {w : World} {A : Option Addr} {l : List Rn} (h : RunsAt w A l) (o : Obj) : RunsAt (w.alloc o) A l := h.bel ((Below.refl _ _).alloc (Nat.le_refl _) o)

/-- What is left of the size. -/
def szL : Int → List Rn → Int
  | z, [] => z
  | z, r :: rs => if z < r.1.length then -1 else szL (z - r.1.length) rs
def szRuns (left : Int) (l : List Rn) : Int := if left < l.length then -1 else szL (left - l.length) l
def Small (l : List Rn) : Prop := l.length ≤ 1048576 ∧ ∀ (k : Nat) (h : k < l.length), l[k].1.length ≤ 1048576
theorem szL_ok : ∀ (l : List Rn) (z y : Int), 0 ≤ z → z ≤ 1048576 → szL z l = y → 0 ≤ y → y ≤ 1048576 ∧ ∀ (k : Nat) (h : k < l.length), l[k].1.length ≤ 1048576
  | [], z, y, h0, h1, h, _ => ⟨by rw [← h, szL]; exact h1, fun k hk => absurd hk (by simp)⟩
  | r :: rs, z, y, h0, h1, h, hy => by
    rw [szL] at h
    split at h
    · omega
    · obtain ⟨h2, h3⟩ := szL_ok rs _ y (by omega) (by omega) h hy
      refine ⟨h2, fun k hk => ?_⟩
      cases k with
      | zero => show r.1.length ≤ _; omega
      | succ k => exact h3 k (by simpa using hk)
theorem szRuns_ok {left z : Int} {l : List Rn} (h0 : 0 ≤ left) (h1 : left ≤ 1048576) (h : szRuns left l = z) : 0 ≤ z → z ≤ 1048576 ∧ l.length ≤ 1048576 ∧ Small l := by
  intro hz
  unfold szRuns at h
  split at h
  · omega
  · obtain ⟨h2, h3⟩ := szL_ok l _ z (by omega) (by omega) h hz
    exact ⟨h2, by omega, by omega, h3⟩
theorem szL_step {z : Int} {l : List Rn} {i : Nat} (h : i < l.length) : szL z (l.drop i) = if z < l[i].1.length then -1 else szL (z - l[i].1.length) (l.drop (i + 1)) := by
  rw [drop_at' h, szL]

theorem szInt64S_any (A : Option Addr) (n c : Nat) (left : Int) (w : World) (h0 : 0 ≤ left) (h1 : left ≤ 1048576) (hn : n ≤ 9223372036854775807) :
    Calls Try.prog 58 #[.slice A n c, .int .i64 left] w (Ret0 w (.int .i64 (szF left n))) := by
  by_cases h : left < n
  · have E := Lib.hid (show szF left n = -1 by unfold szF; rw [if_pos h])
    go_enter Try.func58, Try.ntmps58
    go_wp2
    go_ret
    exact ⟨ret_int E.out.symm, rfl⟩
  · have E := Lib.hid (show szF left n = left - n by unfold szF; rw [if_neg h])
    go_enter Try.func58, Try.ntmps58
    go_wp2
    go_ret
    exact ⟨ret_int E.out.symm, rfl⟩

theorem szRun_any (A : Option Addr) (n c : Nat) (S : Int) (left : Int) (w : World) (h0 : 0 ≤ left) (h1 : left ≤ 1048576) (hn : n ≤ 9223372036854775807) :
    Calls Try.prog 27 #[.agg #[.slice A n c, .int .i64 S], .int .i64 left] w (Ret w (.int .i64 (szF left n))) := by
  by_cases h : left < n
  · have E := Lib.hid (show szF left n = -1 by unfold szF; rw [if_pos h])
    go_enter Try.func27, Try.ntmps27
    go_wp2_with (go_at_call 58; refine (szInt64S_any A n c left _ h0 h1 hn).mono ?_; rintro e w2 ⟨rfl, rfl⟩; rw [E.out])
    go_ret
    exact ⟨ret_int E.out.symm, by go_grown⟩
  · have E := Lib.hid (show szF left n = left - n by unfold szF; rw [if_neg h])
    go_enter Try.func27, Try.ntmps27
    go_wp2_with (go_at_call 58; refine (szInt64S_any A n c left _ h0 h1 hn).mono ?_; rintro e w2 ⟨rfl, rfl⟩; rw [E.out])
    go_ret
    exact ⟨ret_int E.out.symm, by go_grown⟩

set_option maxHeartbeats 1000000 in
theorem szRunS_any (A : Option Addr) (n c : Nat) (l : List Rn) (left : Int) (w : World) (h0 : 0 ≤ left) (h1 : left ≤ 1048576) (hn : n ≤ 9223372036854775807) (h : RunsAt w A l) (hl : n = l.length) :
    Calls Try.prog 17 #[.slice A n c, .int .i64 left] w (Ret w (.int .i64 (szRuns left l))) := by
  have H := Lib.hid h
  have HL := Lib.hid hl
  by_cases hs : left < n
  · have E : Hid (szRuns left l = -1) := by show _ = _; unfold szRuns; rw [if_pos (by rw [← hl]; exact hs)]
    clear hl h
    go_enter Try.func17, Try.ntmps17
    go_wp2_with fail
    go_ret
    exact ⟨ret_int E.out.symm, Below.refl _ _⟩
  · have E : Hid (szRuns left l = szL (left - n) (l.drop 0)) := by show _ = _; unfold szRuns; rw [if_neg (by rw [← hl]; exact hs), ← hl]; rfl
    clear hl h
    go_enter Try.func17, Try.ntmps17
    go_wp2_with fail
    go_loopw [1, 5] (fun v u w' => ∃ (z : Int) (i : Nat), v = .int .i64 z ∧ u = .int .i64 i ∧ 0 ≤ z ∧ z ≤ 1048576 ∧ i ≤ n ∧ Hid (szRuns left l = szL z (l.drop i)) ∧ Below w.heap.size w w') (fun _ u _ => n - (intOf u).toNat)
    case atStart => exact ⟨left - n, 0, by go_num, rfl, by omega, by omega, by omega, E, Below.refl _ _⟩
    case round =>
      clear E hs
      obtain ⟨z, i, rfl, rfl, hz0, hz1, hin, HE, hbel⟩ := hrel
      by_cases hlt : i < n
      · obtain ⟨b, o, rfl, hblt, hc⟩ := H.out (by rw [← HL.out]; omega)
        have hil : i < l.length := by rw [← HL.out]; exact hlt
        obtain ⟨A1, c1, t0, t1, -, hmax⟩ := (hc i hil).bel hbel
        have hst := szL_step (z := z) hil
        obtain ⟨m, hm⟩ : ∃ m, l[i].1.length = m := ⟨_, rfl⟩
        rw [hm] at t0 hmax hst
        clear hc hm
        go_wp2_with fail
        refine (szRun_any A1 m c1 _ z _ hz0 hz1 hmax).mono ?_
        rintro e w2 ⟨rfl, hb2⟩
        by_cases hzm : z < m
        · have E : Hid (szRuns left l = -1) := by show _ = _; rw [HE.out, hst, if_pos hzm]
          have e1 : szF z m = -1 := by unfold szF; rw [if_pos hzm]
          clear hst
          go_wp2_with fail
          go_ret
          exact ⟨ret_int E.out.symm, bel_next hbel hb2⟩
        · have E : Hid (szRuns left l = szL (z - m) (l.drop (i + 1))) := by show _ = _; rw [HE.out, hst, if_neg hzm]
          have e1 : szF z m = z - m := by unfold szF; rw [if_neg hzm]
          clear hst
          go_wp2_with fail
          go_roundw
          case rel => exact ⟨z - m, i + 1, rfl, by go_num, by omega, by omega, by omega, E, bel_next hbel hb2⟩
          case measure => simp [intOf]; omega
      · have E : Hid (szRuns left l = z) := by show _ = _; rw [HE.out, List.drop_of_length_le (by rw [← HL.out]; omega), szL]
        go_wp2_with fail
        go_ret
        exact ⟨ret_int E.out.symm, hbel⟩

/-- The call returns a run with a way of its own. -/
def MadeR (w : World) (t : TypeId) (l : List Int) (S : Int) (n : Nat) (e : Ending) (w' : World) : Prop :=
  ∃ g, e = .returned (.agg #[.slice (some ⟨g, 0, none⟩) n n, .int .i64 S]) ∧ w.heap.size ≤ g ∧ Hid (Blk w' g t (ints l)) ∧ Below w.heap.size w w'

set_option maxHeartbeats 1000000 in
theorem toRun_any (A : Option Addr) (n c : Nat) (l : List Int) (S : Int) (w : World) (h : IntsAt w A l) (hl : n = l.length) (hn0 : n ≤ 1048576) :
    Calls Try.prog 29 #[.agg #[.slice A n c, .int .i64 S]] w (MadeR w 2 l S n) := by
  have HL := Lib.hid hl
  have H := Lib.hid h
  clear hl h
  go_enter Try.func29, Try.ntmps29
  go_wp2_with fail
  refine (toInt64S_any A n c l _ (H.out.bel (by go_grown)) HL.out hn0).mono ?_
  rintro e w1 ⟨g, rfl, hg, R, hb1⟩
  have D1 : Below w.heap.size w w1 := Below.trans (by go_grown) (hb1.mono (by simp; omega))
  obtain ⟨o0, o1, f0, f1⟩ := (bel_blk (Blk.newAt (n := w.heap.size + 2) (by simp)) hb1).c2
  obtain ⟨r0, r1, e0, e1⟩ := (bel_blk ((Blk.newAt (n := w.heap.size + 1) (by simp)).alloc _) hb1).c2
  obtain ⟨b0, b1, -⟩ := (bel_blk (((Blk.new _ _ _).alloc _).alloc _) hb1).c2
  have hg2 : w.heap.size + 2 < g := by simp at hg; omega
  clear hb1 hg
  go_wp2_with fail
  refine bodyPost_ret (v := .agg #[.slice (some ⟨g, 0, none⟩) n n, .int .i64 S]) (by simp [results, Try.results29, go_sem, r0, r1]) rfl ?_
  refine ⟨g, rfl, by omega, ?_, ?_⟩
  · show Blk _ _ _ _
    repeat' (first | exact R.out | refine Blk.far ?_ (by simp; omega) _)
  · go_grown

theorem info_impl_Run : (Try.prog.info? 58).map (fun i => (i.zero, i.size, i.bytes)) = some (some (.agg #[.slice none 0 0, .int .i64 0]), 2, 32) := by kernel_rfl

/-- The first i runs of a list stand in a row of cells, each with a way in a block of its own. -/
def FillR (w : World) (g : Nat) (t : TypeId) (cs : Array Value) (l : List Rn) (i : Nat) : Prop :=
  cs.size = l.length * 2 ∧ ∀ (k : Nat) (h : k < l.length), k < i → ∃ gk, cs[k * 2]? = some (.slice (some ⟨gk, 0, none⟩) l[k].1.length l[k].1.length) ∧ cs[k * 2 + 1]? = some (.int .i64 l[k].2) ∧ g < gk ∧ Hid (Blk w gk t (ints l[k].1))
theorem FillR.bel {w w' : World} {g : Nat} {t : TypeId} {cs : Array Value} {l : List Rn} {i : Nat} (h : FillR w g t cs l i) (hb : Below w.heap.size w w') : FillR w' g t cs l i :=
  ⟨h.1, fun k hk hki => by obtain ⟨gk, h1, h2, h3, h4⟩ := h.2 k hk hki; exact ⟨gk, h1, h2, h3, hid_blk h4 hb⟩⟩
theorem FillR.set {w : World} {g : Nat} {t : TypeId} {cs : Array Value} {l : List Rn} {i : Nat} (h : FillR w g t cs l i) (o : Nat) (v : Value) : FillR (w.setCell ⟨g, o, none⟩ v) g t cs l i :=
  ⟨h.1, fun k hk hki => by obtain ⟨gk, h1, h2, h3, h4⟩ := h.2 k hk hki; exact ⟨gk, h1, h2, h3, h4.out.far (by simp; omega) v⟩⟩
theorem FillR.step {w : World} {g gi : Nat} {t : TypeId} {cs : Array Value} {l : List Rn} {i : Nat} (h : FillR w g t cs l i) (hi : i < l.length) (hg : g < gi) (hB : Hid (Blk w gi t (ints l[i].1))) :
    FillR w g t ((cs.setIfInBounds (i * 2) (.slice (some ⟨gi, 0, none⟩) l[i].1.length l[i].1.length)).setIfInBounds (i * 2 + 1) (.int .i64 l[i].2)) l (i + 1) := by
  have hs := h.1
  refine ⟨by simpa using hs, fun k hk hki => ?_⟩
  by_cases e : k = i
  · subst e
    refine ⟨gi, ?_, ?_, hg, hB⟩
    · rw [Array.getElem?_setIfInBounds_ne (by omega)]; simp [Array.getElem?_setIfInBounds]; omega
    · simp [Array.getElem?_setIfInBounds]; omega
  · obtain ⟨gk, h1, h2, h3, h4⟩ := h.2 k hk (by omega)
    refine ⟨gk, ?_, ?_, h3, h4⟩
    · rw [Array.getElem?_setIfInBounds_ne (by omega), Array.getElem?_setIfInBounds_ne (by omega)]; exact h1
    · rw [Array.getElem?_setIfInBounds_ne (by omega), Array.getElem?_setIfInBounds_ne (by omega)]; exact h2
/-- A block of runs, known whole. -/
def RunsB (w : World) (g : Nat) (tr t : TypeId) (l : List Rn) : Prop := ∃ cs, Hid (Blk w g tr cs) ∧ FillR w g t cs l l.length
theorem RunsB.runs {w : World} {g : Nat} {tr t : TypeId} {l : List Rn} (h : RunsB w g tr t l) (hs : Small l) : RunsAt w (some ⟨g, 0, none⟩) l := fun _ => by
  obtain ⟨cs, hB, hF⟩ := h
  refine ⟨g, 0, rfl, hB.out.lt, fun k hk => ?_⟩
  obtain ⟨gk, h1, h2, h3, h4⟩ := hF.2 k hk hk
  refine ⟨some ⟨gk, 0, none⟩, l[k].1.length, ?_, ?_, IntsAt.ofBlk h4.out, by have := hs.2 k hk; omega⟩
  · rw [Nat.zero_add, hB.out.cell]; exact h1
  · rw [Nat.zero_add, hB.out.cell]; exact h2
def MadeRS (w : World) (tr t : TypeId) (l : List Rn) (n : Nat) (e : Ending) (w' : World) : Prop :=
  ∃ g, e = .returned (.slice (some ⟨g, 0, none⟩) n n) ∧ w.heap.size ≤ g ∧ RunsB w' g tr t l ∧ Below w.heap.size w w'

set_option maxHeartbeats 2000000 in
theorem toRunS_any (A : Option Addr) (n c : Nat) (l : List Rn) (w : World) (h : RunsAt w A l) (hl : n = l.length) (hs : Small l) :
    Calls Try.prog 20 #[.slice A n c] w (MadeRS w 58 2 l n) := by
  obtain ⟨i0, hi, hz0, hz1, hz2⟩ := info_parts info_impl_Run
  have hn0 : n ≤ 1048576 := by rw [hl]; exact hs.1
  have hmk := fun W => run_make_rowN (P := Try.prog) 45 58 i0 _ Try.underlying45 hi hz0 .i64 .i64 n n (Nat.le_refl _) (by rw [hz2]; omega) (by omega) W
  have H := Lib.hid h
  have HL := Lib.hid hl
  have HI := Lib.hid hz1
  have HS := Lib.hid hs
  clear h hl hz1 hz2 hz0 hi hs
  go_enter Try.func20, Try.ntmps20
  go_wp2
  go_loopw [4] (fun u w' => ∃ (i : Nat) (cs : Array Value), u = .int .i64 i ∧ i ≤ n ∧ Hid (Blk w' w.heap.size 58 cs) ∧ Hid (FillR w' w.heap.size 2 cs l i) ∧ Below w.heap.size w w') (fun u _ => n - (intOf u).toNat)
  case atStart => exact ⟨0, _, rfl, by omega, Blk.new _ _ _, ⟨by rw [size_madeCells, HI.out, HL.out], fun k _ h => absurd h (by omega)⟩, by go_grown⟩
  case round =>
    obtain ⟨i, cs, rfl, hin, HB, HF, hbel⟩ := hrel
    clear hmk
    by_cases hlt : i < n
    · obtain ⟨b, o, rfl, hblt, hc⟩ := H.out (by rw [← HL.out]; omega)
      have hil : i < l.length := by rw [← HL.out]; exact hlt
      obtain ⟨A1, c1, t0, t1, hw1, -⟩ := (hc i hil).bel hbel
      have hsm := HS.out.2 i hil
      have hcs : cs.size = n * 2 := HF.out.1.trans (by rw [← HL.out])
      obtain ⟨r, hr⟩ : ∃ r, l[i] = r := ⟨_, rfl⟩
      have HR := Lib.hid hr
      rw [hr] at t0 t1 hw1 hsm
      clear hc hr
      go_wp2_with fail
      refine (toRun_any A1 r.1.length c1 r.1 r.2 _ hw1 rfl hsm).mono ?_
      rintro e w2 ⟨g2, rfl, hg2, R2, hb2⟩
      have HB2 := hid_blk HB hb2
      have HF2 : Hid (FillR w2 w.heap.size 2 cs l i) := HF.out.bel hb2
      have x0 : w2.cell? ⟨w.heap.size, i * 2, none⟩ = some (cs[i * 2]'(by omega)) := by rw [HB2.out.cell]; exact Array.getElem?_eq_getElem _
      have x1 : w2.cell? ⟨w.heap.size, i * 2 + 1, none⟩ = some (cs[i * 2 + 1]'(by omega)) := by rw [HB2.out.cell]; exact Array.getElem?_eq_getElem _
      have f0 := HB2.out.frozen (i * 2)
      have f1 := HB2.out.frozen (i * 2 + 1)
      have hgl : w.heap.size < g2 := by have := HB.out.lt; omega
      have hbel2 := bel_next hbel hb2
      have hgg : g2 ≠ w.heap.size := by omega
      clear hb2 HB HF t0 t1 hw1
      go_wp2_with fail
      go_roundw
      case rel =>
        refine ⟨i + 1, _, by go_num, by omega, (HB2.out.set_ _ _).set_ _ _, ?_, (hbel2.setCell (by simp) _).setCell (by simp) _⟩
        have h5 := ((HF2.out.set (i * 2) (.slice (some ⟨g2, 0, none⟩) r.1.length r.1.length)).set (i * 2 + 1) (.int .i64 r.2)).step hil hgl (gi := g2) (by rw [HR.out]; exact (R2.out.far (by simp; omega) _).far (by simp; omega) _)
        rw [HR.out] at h5
        exact h5
      case measure => simp [intOf]; omega
    · have hie : i = n := by omega
      subst hie
      go_wp2_with fail
      go_ret
      exact ⟨w.heap.size, rfl, Nat.le_refl _, ⟨cs, HB, by rw [← HL.out]; exact HF.out⟩, hbel⟩

set_option maxHeartbeats 1000000 in
theorem eqRun_any (A A' : Option Addr) (n c c' : Nat) (l : List Int) (S : Int) (w : World) (h : IntsAt w A l) (h' : IntsAt w A' l) (hl : n = l.length) (hn0 : n ≤ 1048576) :
    Calls Try.prog 32 #[.agg #[.slice A n c, .int .i64 S], .agg #[.slice A' n c', .int .i64 S]] w (Ret w (.bool true)) := by
  have HL := Lib.hid hl
  have H := Lib.hid h
  have H' := Lib.hid h'
  clear hl h h'
  go_enter Try.func32, Try.ntmps32
  go_wp2_with fail
  refine (eqInt64S_any A A' n c c' l _ ((H.out.alloc _).alloc _) ((H'.out.alloc _).alloc _) HL.out hn0).mono ?_
  rintro e w1 ⟨rfl, hb1⟩
  have D1 : Below w.heap.size w w1 := Below.trans (by go_grown) (hb1.mono (by simp; omega))
  obtain ⟨o0, o1, -⟩ := (bel_blk (Blk.newAt (n := w.heap.size + 1) (by simp)) hb1).c2
  obtain ⟨b0, b1, -⟩ := (bel_blk ((Blk.new _ _ _).alloc _) hb1).c2
  clear hb1
  go_wp2_with fail
  go_ret
  exact ⟨rfl, D1⟩

set_option maxHeartbeats 2000000 in
theorem eqRunS_any (A A' : Option Addr) (n c c' : Nat) (l : List Rn) (w : World) (h : RunsAt w A l) (h' : RunsAt w A' l) (hl : n = l.length) (hs : Small l) :
    Calls Try.prog 23 #[.slice A n c, .slice A' n c'] w (Ret w (.bool true)) := by
  have hn0 : n ≤ 1048576 := by rw [hl]; exact hs.1
  have H := Lib.hid h
  have H' := Lib.hid h'
  have HL := Lib.hid hl
  have HS := Lib.hid hs
  clear h h' hl hs
  go_enter Try.func23, Try.ntmps23
  go_wp2
  go_loopw [5] (fun u w' => ∃ (i : Nat), u = .int .i64 i ∧ i ≤ n ∧ Below w.heap.size w w') (fun u _ => n - (intOf u).toNat)
  case atStart => exact ⟨0, rfl, by omega, by go_grown⟩
  case round =>
    obtain ⟨i, rfl, hin, hbel⟩ := hrel
    by_cases hlt : i < n
    · obtain ⟨b, o, rfl, hblt, hc⟩ := H.out (by rw [← HL.out]; omega)
      obtain ⟨b', o', rfl, hblt', hc'⟩ := H'.out (by rw [← HL.out]; omega)
      have hil : i < l.length := by rw [← HL.out]; exact hlt
      obtain ⟨A1, c1, t0, t1, W1, -⟩ := (hc i hil).bel hbel
      obtain ⟨A2, c2, d0, d1, W2, -⟩ := (hc' i hil).bel hbel
      have hsm := HS.out.2 i hil
      obtain ⟨r, hr⟩ : ∃ r, l[i] = r := ⟨_, rfl⟩
      rw [hr] at t0 t1 d0 d1 W1 W2 hsm
      clear hc hc' hr
      go_wp2_with fail
      go_region_held3 (fun w' => w'.cell? ⟨b, o + i * 2, none⟩ = some (.slice A1 r.1.length c1) ∧ w'.cell? ⟨b, o + i * 2 + 1, none⟩ = some (.int .i64 r.2) ∧
          w'.cell? ⟨b', o' + i * 2, none⟩ = some (.slice A2 r.1.length c2) ∧ w'.cell? ⟨b', o' + i * 2 + 1, none⟩ = some (.int .i64 r.2) ∧ IntsAt w' A1 r.1 ∧ IntsAt w' A2 r.1 ∧ Below w.heap.size w w')
        (first
          | (refine ⟨t0, t1, d0, d1, W1.bel (by go_grown), W2.bel (by go_grown), ?_⟩; go_grown; done)
          | (have hS := ‹_ ∧ _ ∧ _ ∧ _ ∧ _ ∧ _ ∧ _›; exact ⟨bel_cell hb4 hS.1, bel_cell hb4 hS.2.1, bel_cell hb4 hS.2.2.1, bel_cell hb4 hS.2.2.2.1, IntsAt.bel hS.2.2.2.2.1 hb4, IntsAt.bel hS.2.2.2.2.2.1 hb4, bel_next hS.2.2.2.2.2.2 hb4⟩))
        (first
          | (go_at_call 32; (with_reducible refine (eqRun_any A1 A2 r.1.length c1 c2 r.1 r.2 _ (by first | exact (‹_ ∧ _ ∧ _ ∧ _ ∧ _ ∧ _ ∧ _›).2.2.2.2.1 | exact W1.drew | exact W1) (by first | exact (‹_ ∧ _ ∧ _ ∧ _ ∧ _ ∧ _ ∧ _›).2.2.2.2.2.1 | exact W2.drew | exact W2) rfl hsm).mono ?_); rintro e w4 ⟨rfl, hb4⟩))
      obtain ⟨-, -, -, -, -, -, D⟩ := ‹_ ∧ _ ∧ _ ∧ _ ∧ _ ∧ _ ∧ _›
      go_wp2_with fail
      go_roundw
      case rel => exact ⟨i + 1, by go_num, by omega, D⟩
      case measure => simp [intOf]; omega
    · go_wp2_with fail
      go_ret
      exact ⟨rfl, hbel⟩

end Go.Proofs.Ytlebkjkiikehhaa
