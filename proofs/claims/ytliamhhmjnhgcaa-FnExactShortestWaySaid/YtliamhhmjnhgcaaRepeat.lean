/-
  CONTRACT: a list of one number, repeated a few times.
-/
import Derived.Test.YtliamhhmjnhgcaaNetCode
import Derived.Laws.CopyOwn
import Derived.Deep.RegionLaw
namespace Go.Proofs.Ytliamhhmjnhgcaa
open Go.RowKit

theorem Mul64_one (n : Nat) (w : World) (n2 : 2 ≤ n) (n10 : n ≤ 10) :
    Calls Try.prog 84 #[.int .u64 1, .int .u64 n] w (Ret0 w (.tuple #[.int .u64 0, .int .u64 n])) := by
  rcases (show n = 2 ∨ n = 3 ∨ n = 4 ∨ n = 5 ∨ n = 6 ∨ n = 7 ∨ n = 8 ∨ n = 9 ∨ n = 10 by omega) with rfl | rfl | rfl | rfl | rfl | rfl | rfl | rfl | rfl
  all_goals
    go_enter Try.func84, Try.ntmps84
    go_wp2_with fail
    refine bodyPost_ret (v := .tuple #[.int .u64 0, .int .u64 _]) (by simp [results, Try.results84, go_sem]; exact ⟨by decide, rfl⟩) rfl ?_
    exact ⟨rfl, rfl⟩

theorem Mul_one (n : Nat) (w : World) (n2 : 2 ≤ n) (n10 : n ≤ 10) :
    Calls Try.prog 80 #[.int .u64 1, .int .u64 n] w (Ret0 w (.tuple #[.int .u64 0, .int .u64 n])) := by
  go_enter Try.func80, Try.ntmps80
  go_wp2_with fail
  refine (Mul64_one n _ n2 n10).mono ?_
  rintro e w1 ⟨rfl, rfl⟩
  go_wp2_with fail
  refine bodyPost_ret (v := .tuple #[.int .u64 0, .int .u64 n]) (by simp [results, Try.results80, go_sem]) rfl ?_
  exact ⟨rfl, rfl⟩

theorem info_int64R : (Try.prog.info? 2).map (fun i => (i.zero, i.size, i.bytes)) = some (some (.int .i64 0), 1, 8) := by kernel_rfl
theorem size_int64R : (Try.prog.info? 2).map (·.size) = some 1 := by kernel_rfl

set_option maxHeartbeats 2000000 in
set_option maxRecDepth 100000 in
theorem Repeat_one (A : Option Addr) (c : Nat) (x : Int) (n : Nat) (w : World) (h : IntsAt w A [x]) (n2 : 2 ≤ n) (n10 : n ≤ 10) :
    Calls Try.prog 76 #[.slice A 1 c, .int .i64 n] w (Made1 w 2 (List.replicate n x) n) := by
  obtain ⟨i0, hi, hz0, hz1, hz2⟩ := info_parts info_int64R
  have hmk := fun W => run_make_rowN (P := Try.prog) 42 2 i0 _ Try.underlying42 hi hz0 .i64 .i64 n n (Nat.le_refl _) (by rw [hz2]; omega) (by omega) W
  obtain ⟨b, o, rfl, hblt, hc⟩ := h (by simp)
  have c0 : w.cell? ⟨b, o, none⟩ = some (.int .i64 x) := hc 0 (by simp)
  have HI := Lib.hid hz1
  clear h hc hz1 hz2 hz0 hi
  go_enter Try.func76, Try.ntmps76
  go_wp2_with fail
  refine (Mul_one n _ n2 n10).mono ?_
  rintro e w1 ⟨rfl, rfl⟩
  have hN : ¬ (9223372036854775807 : Int) < (n : Int) := by omega
  obtain ⟨Z, hZ⟩ : ∃ Z : List Value, Z.toArray = madeCells (Value.int .i64 0).cells (n * i0.size) := ⟨_, Array.toArray_toList⟩
  have hZl : Z.length = n := by have := congrArg Array.size hZ; rw [size_madeCells, HI.out, Nat.mul_one] at this; simpa using this
  have hmk1 := hmk w
  rw [← hZ] at hmk1
  have hg0 : (w.alloc (.cells Z.toArray 2)).heap[w.heap.size]? = some (.cells Z.toArray 2 (0, 0)) := heap_alloc_new w _
  clear hmk hZ
  go_wp2_with (with_reducible refine wpList_copy_splice rfl (.tmp 31) (.tmp 32) 42 42 rfl 2 Try.underlying42 size_int64R (some ⟨w.heap.size, 0, none⟩) (some ⟨b, o, none⟩) n n 1 c ?c1 ?c2 w.heap.size 0 Z 2 hg0 [.int .i64 x] ?c3 ?c4 ?c5 ?c6 w.heap.size w ?c7 (Nat.le_refl _) ?_)
  case c1 => rfl
  case c2 => rfl
  case c3 => show 1 = Nat.min 1 n; exact (Nat.min_eq_left (by omega)).symm
  case c4 =>
    intro j v hj
    cases j with
    | zero => simp at hj; subst hj; exact c0
    | succ j => simp at hj
  case c5 => simp; omega
  case c6 => simp [Value.oneCell']
  case c7 => go_grown
  intro w2 HG hb2
  have HB : Hid (Blk w2 w.heap.size 2 (splice Z 0 [Value.int .i64 x]).toArray) := HG
  have HZ : Hid (∀ k, k < 1 → (splice Z 0 [Value.int .i64 x])[k]? = some (.int .i64 x)) := by
    show ∀ k, _
    intro k hk
    obtain rfl : k = 0 := by omega
    simp [splice]
  have hL0 : (splice Z 0 [Value.int .i64 x]).length = n := by rw [length_splice _ _ _ (by simp; omega), hZl]
  obtain ⟨Z1, hZ1⟩ : ∃ Z1, Z1 = splice Z 0 [Value.int .i64 x] := ⟨_, rfl⟩
  rw [← hZ1] at HB HZ hL0
  clear HG hg0 hmk1 hZ1 hZl c0 hblt Z
  go_wp2_with fail
  go_loopw [8] (fun u w' => ∃ (m : Nat) (cs : List Value), u = .int .i64 m ∧ 1 ≤ m ∧ m ≤ n ∧ cs.length = n ∧ Hid (Blk w' w.heap.size 2 cs.toArray) ∧ Hid (∀ k, k < m → cs[k]? = some (.int .i64 x)) ∧ Below w.heap.size w w') (fun u _ => n - (intOf u).toNat)
  case atStart => exact ⟨1, Z1, rfl, by omega, by omega, hL0, HB, HZ, hb2⟩
  case round =>
    obtain ⟨m, cs, rfl, hm1, hmn, hL, HB, HF, hbel⟩ := hrel
    by_cases hlt : m < n
    · obtain ⟨k, hk⟩ : ∃ k, k = Nat.min m (n - m) := ⟨_, rfl⟩
      have hk1 : k ≤ m := by rw [hk]; exact Nat.min_le_left _ _
      have hk2 : k ≤ n - m := by rw [hk]; exact Nat.min_le_right _ _
      have hk0 : 1 ≤ k := by rw [hk]; exact Nat.le_min.2 ⟨hm1, by omega⟩
      have HN : Hid (k = Nat.min m (n - m)) := hk
      clear hk
      have hne : ¬ n = m := by omega
      go_wp2_with fail
      go_region_law (refine step_copy_splice rfl (.tmp 41) (.tmp 44) 42 42 rfl 2 Try.underlying42 size_int64R (some ⟨w.heap.size, m, none⟩) (some ⟨w.heap.size, 0, none⟩) (n - m) (n - m) m n (by simp [Act.eval, Act.put]) (by simp [Act.eval, Act.put]) w.heap.size m cs 2 HB.out (List.replicate k (Value.int .i64 x)) (by rw [List.length_replicate]; exact HN.out) (fun _ => ⟨rfl, _, rfl, fun j v hj => by have hj1 := (List.getElem?_eq_some_iff.1 hj).1; rw [List.length_replicate] at hj1; rw [List.getElem?_replicate, if_pos hj1] at hj; rw [← hj, Addr.add_lit, Nat.zero_add]; exact (HB.out.drew.cell j).trans (by simpa using HF.out j (by omega))⟩) (by rw [List.length_replicate]; omega) (by intro v hv; rw [List.eq_of_mem_replicate hv]; rfl) w.heap.size w hbel.drew (Nat.le_refl _) ?_; intro w4 hg4 hb4)
      have HB4 : Hid (Blk w4 w.heap.size 2 (splice cs m (List.replicate k (Value.int .i64 x))).toArray) := hg4
      have HF4 : Hid (∀ j, j < m + k → (splice cs m (List.replicate k (Value.int .i64 x)))[j]? = some (.int .i64 x)) := by
        show ∀ j, _
        intro j hj
        unfold splice
        rcases Nat.lt_or_ge j m with h | h
        · rw [List.getElem?_append_left (by simp; omega), List.getElem?_take_of_lt h]; exact HF.out j h
        · rw [List.getElem?_append_right (by simp; omega), List.getElem?_append_left (by simp; omega), List.getElem?_replicate, if_pos (by simp; omega)]
      have hL4 : (splice cs m (List.replicate k (Value.int .i64 x))).length = n := by rw [length_splice _ _ _ (by simp; omega), hL]
      obtain ⟨cs4, hcs4⟩ : ∃ cs4, cs4 = splice cs m (List.replicate k (Value.int .i64 x)) := ⟨_, rfl⟩
      rw [← hcs4] at HB4 HF4 hL4
      clear hcs4 hg4 HB HF HN hL
      have hw : IntKind.i64.wrap ((m : Int) + (k : Int)) = ((m + k : Nat) : Int) := by rw [IntKind.wrap_i64]; omega
      simp [Act.put, hw]
      go_wp2_with fail
      go_roundw
      case rel => exact ⟨m + k, cs4, by go_num, by omega, by omega, hL4, HB4, HF4, hb4⟩
      case measure => simp [intOf]; omega
    · have hme : m = n := by omega
      subst hme
      go_wp2_with fail
      go_ret
      refine ⟨w.heap.size, rfl, Nat.le_refl _, ?_, hbel⟩
      have hE : cs.toArray = ints (List.replicate m x) := by
        unfold ints
        congr 1
        apply List.ext_getElem?
        intro j
        rcases Nat.lt_or_ge j m with h | h
        · rw [HF.out j h]; simp [h]
        · rw [List.getElem?_eq_none (by omega), List.getElem?_eq_none (by simpa using h)]
      rw [← hE]
      exact HB

end Go.Proofs.Ytliamhhmjnhgcaa
