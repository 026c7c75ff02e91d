/-
  CONTRACTS of the laws' own helpers on slices of integers, and of the program's 'outside'.
-/
import Derived.Test.YtlebkjkiikehhaaNum
import Derived.Test.YtlebkjkiikehhaaSlice
namespace Go.Proofs.Ytlebkjkiikehhaa
open Go.RowKit

theorem info_int64 : (Try.prog.info? 2).map (fun i => (i.zero, i.size, i.bytes)) = some (some (.int .i64 0), 1, 8) := by kernel_rfl

set_option maxHeartbeats 1000000 in
theorem toInt64S_any (A : Option Addr) (n c : Nat) (l : List Int) (w : World) (h : IntsAt w A l) (hl : n = l.length) (hn0 : n ≤ 1048576) :
    Calls Try.prog 19 #[.slice A n c] w (Made1 w 2 l n) := by
  obtain ⟨i0, hi, hz0, hz1, hz2⟩ := info_parts info_int64
  have hmk := fun W => run_make_rowN (P := Try.prog) 39 2 i0 _ Try.underlying39 hi hz0 .i64 .i64 n n (Nat.le_refl _) (by rw [hz2]; omega) (by omega) W
  have H := Lib.hid h
  have HL := Lib.hid hl
  have HI := Lib.hid hz1
  clear h hl hz1 hz2 hz0 hi
  go_enter Try.func19, Try.ntmps19
  go_wp2
  go_loopw [4] (fun u w' => ∃ (i : Nat) (cs : Array Value), u = .int .i64 i ∧ i ≤ n ∧ Hid (Blk w' w.heap.size 2 cs) ∧ Hid (Fill1 cs l i) ∧ Below w.heap.size w w') (fun u _ => n - (intOf u).toNat)
  case atStart => exact ⟨0, _, rfl, by omega, Blk.new _ _ _, ⟨by rw [size_madeCells, HI.out, HL.out, Nat.mul_one], fun k _ h => absurd h (by omega)⟩, by go_grown⟩
  case round =>
    obtain ⟨i, cs, rfl, hin, HB, HF, hbel⟩ := hrel
    clear hmk
    by_cases hlt : i < n
    · obtain ⟨b, o, rfl, hblt, hc⟩ := H.out (by rw [← HL.out]; omega)
      have c0 := bel_cell hbel (hc i (by rw [← HL.out]; exact hlt))
      clear hc
      have x0 : wr.cell? ⟨w.heap.size, i, none⟩ = some (cs[i]'(by rw [HF.out.1, ← HL.out]; exact hlt)) := by rw [HB.out.cell]; exact Array.getElem?_eq_getElem _
      have f0 := HB.out.frozen i
      go_wp2_with fail
      go_roundw
      case rel => exact ⟨i + 1, _, by go_num, by omega, HB.out.set_ _ _, HF.out.step (by rw [← HL.out]; exact hlt), hbel.setCell (by simp) _⟩
      case measure => simp [intOf]; omega
    · have hie : i = n := by omega
      subst hie
      go_wp2_with fail
      go_ret
      refine ⟨w.heap.size, rfl, Nat.le_refl _, ?_, hbel⟩
      have hF : Fill1 cs l l.length := by rw [← HL.out]; exact HF.out
      rw [← hF.all]
      exact HB

set_option maxHeartbeats 1000000 in
theorem eqInt64S_any (A A' : Option Addr) (n c c' : Nat) (l : List Int) (w : World) (h : IntsAt w A l) (h' : IntsAt w A' l) (hl : n = l.length) (hn0 : n ≤ 1048576) :
    Calls Try.prog 22 #[.slice A n c, .slice A' n c'] w (Ret w (.bool true)) := by
  have H := Lib.hid h
  have H' := Lib.hid h'
  have HL := Lib.hid hl
  clear h h' hl
  go_enter Try.func22, Try.ntmps22
  go_wp2
  go_loopw [5] (fun u w' => ∃ (i : Nat), u = .int .i64 i ∧ i ≤ n ∧ Below w.heap.size w w') (fun u _ => n - (intOf u).toNat)
  case atStart => exact ⟨0, rfl, by omega, by go_grown⟩
  case round =>
    obtain ⟨i, rfl, hin, hbel⟩ := hrel
    by_cases hlt : i < n
    · obtain ⟨b, o, rfl, hblt, hc⟩ := H.out (by rw [← HL.out]; omega)
      obtain ⟨b', o', rfl, hblt', hc'⟩ := H'.out (by rw [← HL.out]; omega)
      have c0 := bel_cell hbel (hc i (by rw [← HL.out]; exact hlt))
      have d0 := bel_cell hbel (hc' i (by rw [← HL.out]; exact hlt))
      clear hc hc'
      go_wp2_with fail
      go_quiet (fail)
      go_wp2_with fail
      go_roundw
      case rel => exact ⟨i + 1, by go_num, by omega, below_drewN hbel _⟩
      case measure => simp [intOf]; omega
    · go_wp2_with fail
      go_ret
      exact ⟨rfl, hbel⟩

/-- Some number is out of a range. -/
def outB (l : List Int) (lo hi : Int) : Bool := l.any fun x => !inB x lo hi
theorem outB_step {l : List Int} {i : Nat} {lo hi : Int} (h : i < l.length) : outB (l.drop i) lo hi = (!inB l[i] lo hi || outB (l.drop (i + 1)) lo hi) := by
  unfold outB
  rw [drop_at' h, List.any_cons]
theorem outB_end {l : List Int} {i : Nat} {lo hi : Int} (h : l.length ≤ i) : outB (l.drop i) lo hi = false := by
  rw [List.drop_of_length_le h]; rfl

theorem outside1_any (x lo hi : Int) (p q : Nat) (w : World) (hp : w.cell? ⟨p, 0, none⟩ = some (.int .i64 lo)) (hq : w.cell? ⟨q, 0, none⟩ = some (.int .i64 hi)) :
    Calls Try.prog 115 #[.int .i64 x, .pointer (some ⟨p, 0, none⟩), .pointer (some ⟨q, 0, none⟩)] w (Ret0 w (.bool (!inB x lo hi))) := by
  go_enter Try.func115, Try.ntmps115
  go_wp2_with (go_at_call 85; refine (within_any _ _ _ _).mono ?_; rintro e w' ⟨rfl, rfl⟩)
  go_ret
  exact ⟨rfl, rfl⟩

/-- The first place at which the closure says yes, or -1. -/
def FoundI (w : World) (b : Bool) (e : Ending) (w' : World) : Prop := ∃ r : Int, e = .returned (.int .i64 r) ∧ decide (0 ≤ r) = b ∧ w = w'

set_option maxHeartbeats 1000000 in
theorem IndexFunc_ints (A : Option Addr) (n c : Nat) (l : List Int) (lo hi : Int) (p q : Nat) (w : World) (h : IntsAt w A l) (hl : n = l.length) (hn0 : n ≤ 1048576)
    (hp : w.cell? ⟨p, 0, none⟩ = some (.int .i64 lo)) (hq : w.cell? ⟨q, 0, none⟩ = some (.int .i64 hi)) :
    Calls Try.prog 117 #[.slice A n c, .func (.func 115) #[] #[.pointer (some ⟨p, 0, none⟩), .pointer (some ⟨q, 0, none⟩)]] w (FoundI w (outB l lo hi)) := by
  have H := Lib.hid h
  have HL := Lib.hid hl
  clear h hl
  go_enter Try.func117, Try.ntmps117
  go_wp2
  go_loop [8] (fun u => ∃ (i : Nat), u = .int .i64 i ∧ i ≤ n ∧ Hid (outB l lo hi = outB (l.drop i) lo hi)) (fun u => n - (intOf u).toNat)
  case atStart => exact ⟨0, rfl, by omega, rfl⟩
  case round =>
    obtain ⟨i, rfl, hin, HA⟩ := hrel
    by_cases hlt : i < n
    · obtain ⟨b, o, rfl, hblt, hc⟩ := H.out (by rw [← HL.out]; omega)
      have hil : i < l.length := by rw [← HL.out]; exact hlt
      have c0 := hc i hil
      clear hc
      have hd := outB_step (lo := lo) (hi := hi) hil
      cases hv : inB l[i] lo hi
      · have HS : Hid (outB l lo hi = true) := by show _ = _; rw [HA.out, hd, hv]; rfl
        clear hd
        go_wp2_with (go_at_call 115; refine (outside1_any _ lo hi p q _ hp hq).mono ?_; rintro e w2 ⟨rfl, rfl⟩)
        go_ret
        exact ⟨_, rfl, by rw [HS.out]; simp, rfl⟩
      · have HS : Hid (outB l lo hi = outB (l.drop (i + 1)) lo hi) := by show _ = _; rw [HA.out, hd, hv]; rfl
        clear hd
        go_wp2_with (go_at_call 115; refine (outside1_any _ lo hi p q _ hp hq).mono ?_; rintro e w2 ⟨rfl, rfl⟩)
        go_round
        case rel => exact ⟨i + 1, by go_num, by omega, HS⟩
        case measure => simp [intOf]; omega
    · have HS : Hid (outB l lo hi = false) := by show _ = _; rw [HA.out]; exact outB_end (by rw [← HL.out]; omega)
      go_wp2_with fail
      go_ret
      exact ⟨-1, rfl, by rw [HS.out]; rfl, rfl⟩

theorem ContainsFunc_ints (A : Option Addr) (n c : Nat) (l : List Int) (lo hi : Int) (p q : Nat) (w : World) (h : IntsAt w A l) (hl : n = l.length) (hn0 : n ≤ 1048576)
    (hp : w.cell? ⟨p, 0, none⟩ = some (.int .i64 lo)) (hq : w.cell? ⟨q, 0, none⟩ = some (.int .i64 hi)) :
    Calls Try.prog 114 #[.slice A n c, .func (.func 115) #[] #[.pointer (some ⟨p, 0, none⟩), .pointer (some ⟨q, 0, none⟩)]] w (Ret0 w (.bool (outB l lo hi))) := by
  have HL := Lib.hid hl
  clear hl
  go_enter Try.func114, Try.ntmps114
  go_wp2_with fail
  refine (IndexFunc_ints A n c l lo hi p q _ h HL.out hn0 hp hq).mono ?_
  rintro e w1 ⟨r, rfl, hr, rfl⟩
  have HR := Lib.hid hr
  clear hr
  go_wp2_with fail
  go_ret
  exact ⟨ret_bool (by rw [← HR.out]), rfl⟩

theorem outside_any (A : Option Addr) (n c : Nat) (l : List Int) (lo hi : Int) (w : World) (h : IntsAt w A l) (hl : n = l.length) (hn0 : n ≤ 1048576) :
    Calls Try.prog 108 #[.slice A n c, .int .i64 lo, .int .i64 hi] w (Ret w (.bool (outB l lo hi))) := by
  have HL := Lib.hid hl
  have H := Lib.hid h
  clear hl h
  go_enter Try.func108, Try.ntmps108
  go_wp2_with fail
  refine (ContainsFunc_ints A n c l lo hi w.heap.size (w.heap.size + 1) _ ((H.out.alloc _).alloc _) HL.out hn0 (by go_cell) (by go_cell)).mono ?_
  rintro e w1 ⟨rfl, rfl⟩
  go_wp2_with fail
  go_ret
  exact ⟨rfl, by go_grown⟩

end Go.Proofs.Ytlebkjkiikehhaa
