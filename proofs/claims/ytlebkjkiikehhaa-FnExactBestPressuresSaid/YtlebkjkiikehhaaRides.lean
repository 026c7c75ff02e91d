/-
  CONTRACTS of the laws' own helpers on slices of rides.
-/
import Derived.Test.YtlebkjkiikehhaaRide
import Derived.Test.YtlebkjkiikehhaaSlice
namespace Go.Proofs.Ytlebkjkiikehhaa
open Go.RowKit

theorem info_impl_Ride : (Try.prog.info? 101).map (fun i => (i.zero, i.size, i.bytes)) = some (some (.agg #[.int .i64 0, .int .i64 0, .int .i64 0, .int .i64 0]), 4, 32) := by kernel_rfl

theorem szRideS_any (A : Option Addr) (n c : Nat) (left : Int) (w : World) (h0 : 0 ≤ left) (h1 : left ≤ 1048576) (hn : n ≤ 9223372036854775807) :
    Calls Try.prog 38 #[.slice A n c, .int .i64 left] w (Ret0 w (.int .i64 (szF left n))) := by
  by_cases h : left < n
  · have E := Lib.hid (show szF left n = -1 by unfold szF; rw [if_pos h])
    go_enter Try.func38, Try.ntmps38
    go_wp2
    go_ret
    exact ⟨ret_int E.out.symm, rfl⟩
  · have E := Lib.hid (show szF left n = left - n by unfold szF; rw [if_neg h])
    go_enter Try.func38, Try.ntmps38
    go_wp2
    go_ret
    exact ⟨ret_int E.out.symm, rfl⟩

set_option maxHeartbeats 1000000 in
theorem toRideS_any (A : Option Addr) (n c : Nat) (l : List Rd) (w : World) (h : RidesAt w A l) (hl : n = l.length) (hn0 : n ≤ 1048576) :
    Calls Try.prog 40 #[.slice A n c] w (Made4 w 101 l n) := by
  obtain ⟨i0, hi, hz0, hz1, hz2⟩ := info_parts info_impl_Ride
  have hmk := fun W => run_make_rowN (P := Try.prog) 70 101 i0 _ Try.underlying70 hi hz0 .i64 .i64 n n (Nat.le_refl _) (by rw [hz2]; omega) (by omega) W
  have H := Lib.hid h
  have HL := Lib.hid hl
  have HI := Lib.hid hz1
  clear h hl hz1 hz2 hz0 hi
  go_enter Try.func40, Try.ntmps40
  go_wp2
  go_loopw [4] (fun u w' => ∃ (i : Nat) (cs : Array Value), u = .int .i64 i ∧ i ≤ n ∧ Hid (Blk w' w.heap.size 101 cs) ∧ Hid (Fill4 cs l i) ∧ Below w.heap.size w w') (fun u _ => n - (intOf u).toNat)
  case atStart => exact ⟨0, _, rfl, by omega, Blk.new _ _ _, ⟨by rw [size_madeCells, HI.out, HL.out], fun k _ h => absurd h (by omega)⟩, by go_grown⟩
  case round =>
    obtain ⟨i, cs, rfl, hin, HB, HF, hbel⟩ := hrel
    clear hmk
    by_cases hlt : i < n
    · obtain ⟨b, o, rfl, hblt, hc⟩ := H.out (by rw [← HL.out]; omega)
      obtain ⟨c0, c1, c2, c3⟩ := (hc i (by rw [← HL.out]; exact hlt)).bel hbel
      clear hc
      go_wp2_with fail
      refine (toRide_any _ _ _ _ _).mono ?_
      rintro e w2 ⟨rfl, hb2⟩
      have HB2 := hid_blk HB hb2
      obtain ⟨x0, x1, x2, x3, d0, d1, d2, d3, f0, f1, f2, f3⟩ := HB2.out.at4 (HF.out.1.trans (by rw [← HL.out])) hlt
      have hbel2 := bel_next hbel hb2
      clear c0 c1 c2 c3 hb2
      go_wp2_with fail
      go_roundw
      case rel => exact ⟨i + 1, _, by go_num, by omega, ((((HB2.out.set_ _ _).set_ _ _).set_ _ _).set_ _ _), HF.out.step (by rw [← HL.out]; exact hlt), (((hbel2.setCell (by simp) _).setCell (by simp) _).setCell (by simp) _).setCell (by simp) _⟩
      case measure => simp [intOf]; omega
    · have hie : i = n := by omega
      subst hie
      go_wp2_with fail
      go_ret
      exact ⟨w.heap.size, rfl, Nat.le_refl _, ⟨cs, HB.out, by rw [← HL.out]; exact HF.out⟩, hbel⟩

theorem eqRide_any (a b c d : Int) (w : World) : Calls Try.prog 73 #[.agg #[.int .i64 a, .int .i64 b, .int .i64 c, .int .i64 d], .agg #[.int .i64 a, .int .i64 b, .int .i64 c, .int .i64 d]] w (Ret w (.bool true)) := by
  go_enter Try.func73, Try.ntmps73
  go_wp2
  go_ret
  exact ⟨rfl, by go_grown⟩

set_option maxHeartbeats 1000000 in
theorem eqRideS_any (A A' : Option Addr) (n c c' : Nat) (l : List Rd) (w : World) (h : RidesAt w A l) (h' : RidesAt w A' l) (hl : n = l.length) (hn0 : n ≤ 1048576) :
    Calls Try.prog 42 #[.slice A n c, .slice A' n c'] w (Ret w (.bool true)) := by
  have H := Lib.hid h
  have H' := Lib.hid h'
  have HL := Lib.hid hl
  clear h h' hl
  go_enter Try.func42, Try.ntmps42
  go_wp2
  go_loopw [5] (fun u w' => ∃ (i : Nat), u = .int .i64 i ∧ i ≤ n ∧ Below w.heap.size w w') (fun u _ => n - (intOf u).toNat)
  case atStart => exact ⟨0, rfl, by omega, by go_grown⟩
  case round =>
    obtain ⟨i, rfl, hin, hbel⟩ := hrel
    by_cases hlt : i < n
    · obtain ⟨b, o, rfl, hblt, hc⟩ := H.out (by rw [← HL.out]; omega)
      obtain ⟨b', o', rfl, hblt', hc'⟩ := H'.out (by rw [← HL.out]; omega)
      obtain ⟨c0, c1, c2, c3⟩ := (hc i (by rw [← HL.out]; exact hlt)).bel hbel
      obtain ⟨d0, d1, d2, d3⟩ := (hc' i (by rw [← HL.out]; exact hlt)).bel hbel
      clear hc hc'
      go_wp2_with fail
      go_region_held3 (fun w' => w'.cell? ⟨b, o + i * 4, none⟩ = some (.int .i64 l[i].1) ∧ w'.cell? ⟨b, o + i * 4 + 1, none⟩ = some (.int .i64 l[i].2.1) ∧ w'.cell? ⟨b, o + i * 4 + 2, none⟩ = some (.int .i64 l[i].2.2.1) ∧ w'.cell? ⟨b, o + i * 4 + 3, none⟩ = some (.int .i64 l[i].2.2.2) ∧
          w'.cell? ⟨b', o' + i * 4, none⟩ = some (.int .i64 l[i].1) ∧ w'.cell? ⟨b', o' + i * 4 + 1, none⟩ = some (.int .i64 l[i].2.1) ∧ w'.cell? ⟨b', o' + i * 4 + 2, none⟩ = some (.int .i64 l[i].2.2.1) ∧ w'.cell? ⟨b', o' + i * 4 + 3, none⟩ = some (.int .i64 l[i].2.2.2) ∧
          Below w.heap.size w w')
        (first
          | (refine ⟨c0, c1, c2, c3, d0, d1, d2, d3, ?_⟩; go_grown; done)
          | (go_split_ands; refine ⟨?_, ?_, ?_, ?_, ?_, ?_, ?_, ?_, ?_⟩ <;> first | exact bel_cell hb4 (by assumption) | exact bel_next (by assumption) hb4))
        (first
          | (go_at_call 73; refine (eqRide_any _ _ _ _ _).mono ?_; rintro e w4 ⟨rfl, hb4⟩))
      obtain ⟨x0, x1, x2, x3, y0, y1, y2, y3, D⟩ := ‹_ ∧ _ ∧ _ ∧ _ ∧ _ ∧ _ ∧ _ ∧ _ ∧ _›
      go_wp2_with fail
      go_roundw
      case rel => exact ⟨i + 1, by go_num, by omega, D⟩
      case measure => simp [intOf]; omega
    · go_wp2_with fail
      go_ret
      exact ⟨rfl, hbel⟩

end Go.Proofs.Ytlebkjkiikehhaa
