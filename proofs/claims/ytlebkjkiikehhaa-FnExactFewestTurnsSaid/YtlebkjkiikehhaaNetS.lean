/-
  CONTRACTS of the laws' own helpers on tubes and networks.
-/
import Derived.Test.YtlebkjkiikehhaaNum
import Derived.Test.YtlebkjkiikehhaaTube
namespace Go.Proofs.Ytlebkjkiikehhaa
open Go.RowKit

theorem toTube_any (a b c : Int) (w : World) : Calls Try.prog 12 #[.agg #[.int .i64 a, .int .i64 b, .int .i64 c]] w (Ret w (.agg #[.int .i64 a, .int .i64 b, .int .i64 c])) := by
  go_enter Try.func12, Try.ntmps12
  go_wp2
  go_returns
  exact ⟨rfl, by go_grown⟩

theorem info_impl_Tube : (Try.prog.info? 34).map (fun i => (i.zero, i.size, i.bytes)) = some (some (.agg #[.int .i64 0, .int .i64 0, .int .i64 0]), 3, 24) := by kernel_rfl

theorem szTubeS_any (A : Option Addr) (n c : Nat) (left : Int) (w : World) (h0 : 0 ≤ left) (h1 : left ≤ 1048576) (hn : n ≤ 9223372036854775807) :
    Calls Try.prog 46 #[.slice A n c, .int .i64 left] w (Ret0 w (.int .i64 (szF left n))) := by
  by_cases h : left < n
  · have E := Lib.hid (show szF left n = -1 by unfold szF; rw [if_pos h])
    go_enter Try.func46, Try.ntmps46
    go_wp2
    go_ret
    exact ⟨ret_int E.out.symm, rfl⟩
  · have E := Lib.hid (show szF left n = left - n by unfold szF; rw [if_neg h])
    go_enter Try.func46, Try.ntmps46
    go_wp2
    go_ret
    exact ⟨ret_int E.out.symm, rfl⟩

set_option maxHeartbeats 1000000 in
theorem toTubeS_any (A : Option Addr) (n c : Nat) (l : List Tb) (w : World) (h : TubesAt w A l) (hl : n = l.length) (hn0 : n ≤ 1048576) :
    Calls Try.prog 49 #[.slice A n c] w (Made3 w 34 l n) := by
  obtain ⟨i0, hi, hz0, hz1, hz2⟩ := info_parts info_impl_Tube
  have hmk := fun W => run_make_rowN (P := Try.prog) 28 34 i0 _ Try.underlying28 hi hz0 .i64 .i64 n n (Nat.le_refl _) (by rw [hz2]; omega) (by omega) W
  have H := Lib.hid h
  have HL := Lib.hid hl
  have HI := Lib.hid hz1
  clear h hl hz1 hz2 hz0 hi
  go_enter Try.func49, Try.ntmps49
  go_wp2
  go_loopw [4] (fun u w' => ∃ (i : Nat) (cs : Array Value), u = .int .i64 i ∧ i ≤ n ∧ Hid (Blk w' w.heap.size 34 cs) ∧ Hid (Fill3 cs l i) ∧ Below w.heap.size w w') (fun u _ => n - (intOf u).toNat)
  case atStart => exact ⟨0, _, rfl, by omega, Blk.new _ _ _, ⟨by rw [size_madeCells, HI.out, HL.out], fun k _ h => absurd h (by omega)⟩, by go_grown⟩
  case round =>
    obtain ⟨i, cs, rfl, hin, HB, HF, hbel⟩ := hrel
    clear hmk
    by_cases hlt : i < n
    · obtain ⟨b, o, rfl, hblt, hc⟩ := H.out (by rw [← HL.out]; omega)
      obtain ⟨c0, c1, c2⟩ := (hc i (by rw [← HL.out]; exact hlt)).bel hbel
      clear hc
      go_wp2_with fail
      refine (toTube_any _ _ _ _).mono ?_
      rintro e w2 ⟨rfl, hb2⟩
      have HB2 := hid_blk HB hb2
      obtain ⟨x0, x1, x2, f0, f1, f2⟩ := HB2.out.at3 (HF.out.1.trans (by rw [← HL.out])) hlt
      have hbel2 := bel_next hbel hb2
      clear c0 c1 c2 hb2
      go_wp2_with fail
      go_roundw
      case rel => exact ⟨i + 1, _, by go_num, by omega, (((HB2.out.set_ _ _).set_ _ _).set_ _ _), HF.out.step (by rw [← HL.out]; exact hlt), ((hbel2.setCell (by simp) _).setCell (by simp) _).setCell (by simp) _⟩
      case measure => simp [intOf]; omega
    · have hie : i = n := by omega
      subst hie
      go_wp2_with fail
      go_ret
      exact ⟨w.heap.size, rfl, Nat.le_refl _, ⟨cs, HB.out, by rw [← HL.out]; exact HF.out⟩, hbel⟩

theorem eqTube_any (a b c : Int) (w : World) : Calls Try.prog 89 #[.agg #[.int .i64 a, .int .i64 b, .int .i64 c], .agg #[.int .i64 a, .int .i64 b, .int .i64 c]] w (Ret w (.bool true)) := by
  go_enter Try.func89, Try.ntmps89
  go_wp2
  go_ret
  exact ⟨rfl, by go_grown⟩

set_option maxHeartbeats 1000000 in
theorem eqTubeS_any (A A' : Option Addr) (n c c' : Nat) (l : List Tb) (w : World) (h : TubesAt w A l) (h' : TubesAt w A' l) (hl : n = l.length) (hn0 : n ≤ 1048576) :
    Calls Try.prog 53 #[.slice A n c, .slice A' n c'] w (Ret w (.bool true)) := by
  have H := Lib.hid h
  have H' := Lib.hid h'
  have HL := Lib.hid hl
  clear h h' hl
  go_enter Try.func53, Try.ntmps53
  go_wp2
  go_loopw [5] (fun u w' => ∃ (i : Nat), u = .int .i64 i ∧ i ≤ n ∧ Below w.heap.size w w') (fun u _ => n - (intOf u).toNat)
  case atStart => exact ⟨0, rfl, by omega, by go_grown⟩
  case round =>
    obtain ⟨i, rfl, hin, hbel⟩ := hrel
    by_cases hlt : i < n
    · obtain ⟨b, o, rfl, hblt, hc⟩ := H.out (by rw [← HL.out]; omega)
      obtain ⟨b', o', rfl, hblt', hc'⟩ := H'.out (by rw [← HL.out]; omega)
      obtain ⟨c0, c1, c2⟩ := (hc i (by rw [← HL.out]; exact hlt)).bel hbel
      obtain ⟨d0, d1, d2⟩ := (hc' i (by rw [← HL.out]; exact hlt)).bel hbel
      clear hc hc'
      go_wp2_with fail
      go_region_held3 (fun w' => w'.cell? ⟨b, o + i * 3, none⟩ = some (.int .i64 l[i].1) ∧ w'.cell? ⟨b, o + i * 3 + 1, none⟩ = some (.int .i64 l[i].2.1) ∧ w'.cell? ⟨b, o + i * 3 + 2, none⟩ = some (.int .i64 l[i].2.2) ∧
          w'.cell? ⟨b', o' + i * 3, none⟩ = some (.int .i64 l[i].1) ∧ w'.cell? ⟨b', o' + i * 3 + 1, none⟩ = some (.int .i64 l[i].2.1) ∧ w'.cell? ⟨b', o' + i * 3 + 2, none⟩ = some (.int .i64 l[i].2.2) ∧
          Below w.heap.size w w')
        (first
          | (refine ⟨c0, c1, c2, d0, d1, d2, ?_⟩; go_grown; done)
          | (go_split_ands; refine ⟨?_, ?_, ?_, ?_, ?_, ?_, ?_⟩ <;> first | exact bel_cell hb4 (by assumption) | exact bel_next (by assumption) hb4))
        (first
          | (go_at_call 89; refine (eqTube_any _ _ _ _).mono ?_; rintro e w4 ⟨rfl, hb4⟩))
      obtain ⟨x0, x1, x2, y0, y1, y2, D⟩ := ‹_ ∧ _ ∧ _ ∧ _ ∧ _ ∧ _ ∧ _›
      go_wp2_with fail
      go_roundw
      case rel => exact ⟨i + 1, by go_num, by omega, D⟩
      case measure => simp [intOf]; omega
    · go_wp2_with fail
      go_ret
      exact ⟨rfl, hbel⟩

theorem szNet_any (S : Int) (A : Option Addr) (n c : Nat) (left : Int) (w : World) (h0 : 0 ≤ left) (h1 : left ≤ 1048576) (hn : n ≤ 9223372036854775807) :
    Calls Try.prog 9 #[.agg #[.int .i64 S, .slice A n c], .int .i64 left] w (Ret w (.int .i64 (szF left n))) := by
  by_cases h : left < n
  · have E := Lib.hid (show szF left n = -1 by unfold szF; rw [if_pos h])
    go_enter Try.func9, Try.ntmps9
    go_wp2_with (go_at_call 46; refine (szTubeS_any A n c left _ h0 h1 hn).mono ?_; rintro e w2 ⟨rfl, rfl⟩; rw [E.out])
    go_ret
    exact ⟨ret_int E.out.symm, by go_grown⟩
  · have E := Lib.hid (show szF left n = left - n by unfold szF; rw [if_neg h])
    go_enter Try.func9, Try.ntmps9
    go_wp2_with (go_at_call 46; refine (szTubeS_any A n c left _ h0 h1 hn).mono ?_; rintro e w2 ⟨rfl, rfl⟩; rw [E.out])
    go_ret
    exact ⟨ret_int E.out.symm, by go_grown⟩

set_option maxHeartbeats 1000000 in
theorem toNet_any (S : Int) (A : Option Addr) (n c : Nat) (l : List Tb) (w : World) (h : TubesAt w A l) (hl : n = l.length) (hn0 : n ≤ 1048576) :
    Calls Try.prog 11 #[.agg #[.int .i64 S, .slice A n c]] w (MadeN w 34 S l n) := by
  have HL := Lib.hid hl
  have H := Lib.hid h
  clear hl h
  go_enter Try.func11, Try.ntmps11
  go_wp2_with fail
  refine (toTubeS_any A n c l _ (H.out.bel (by go_grown)) HL.out hn0).mono ?_
  rintro e w1 ⟨g, rfl, hg, R, hb1⟩
  have D1 : Below w.heap.size w w1 := Below.trans (by go_grown) (hb1.mono (by simp; omega))
  obtain ⟨o0, o1, f0, f1⟩ := (bel_blk (Blk.newAt (n := w.heap.size + 2) (by simp)) hb1).c2
  obtain ⟨r0, r1, e0, e1⟩ := (bel_blk ((Blk.newAt (n := w.heap.size + 1) (by simp)).alloc _) hb1).c2
  have hg2 : w.heap.size + 2 < g := by simp at hg; omega
  have R' := Lib.hid R
  clear hb1 hg R
  go_wp2_with fail
  refine bodyPost_ret (v := .agg #[.int .i64 S, .slice (some ⟨g, 0, none⟩) n n]) (by simp [results, Try.results11, go_sem, r0, r1]) rfl ?_
  refine ⟨g, rfl, by omega, ?_, ?_⟩
  · obtain ⟨cs, hB, hF⟩ := R'.out
    refine ⟨cs, ?_, hF⟩
    repeat' (first | exact hB | refine Blk.far ?_ (by simp; omega) _)
  · go_grown

theorem eqNet_any (S : Int) (A A' : Option Addr) (n c c' : Nat) (l : List Tb) (w : World) (h : TubesAt w A l) (h' : TubesAt w A' l) (hl : n = l.length) (hn0 : n ≤ 1048576) :
    Calls Try.prog 14 #[.agg #[.int .i64 S, .slice A n c], .agg #[.int .i64 S, .slice A' n c']] w (Ret w (.bool true)) := by
  have HL := Lib.hid hl
  have H := Lib.hid h
  have H' := Lib.hid h'
  clear hl h h'
  go_enter Try.func14, Try.ntmps14
  go_wp2_with fail
  refine (eqTubeS_any A A' n c c' l _ (H.out.bel (by go_grown)) (H'.out.bel (by go_grown)) HL.out hn0).mono ?_
  rintro e w1 ⟨rfl, hb1⟩
  go_wp2_with fail
  go_ret
  exact ⟨rfl, Below.trans (by go_grown) (hb1.mono (by simp; omega))⟩

end Go.Proofs.Ytlebkjkiikehhaa
