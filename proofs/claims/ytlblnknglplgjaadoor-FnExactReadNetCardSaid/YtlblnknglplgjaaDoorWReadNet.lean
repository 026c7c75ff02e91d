/-
  THE WALK of the law on ReadNet.
-/
import Derived.Test.YtlblnknglplgjaaDoorReadN2
import Derived.Test.YtlblnknglplgjaaDoorHeldN
import Derived.Test.YtlblnknglplgjaaDoorTab
import Derived.Test.YtlblnknglplgjaaDoorWReadDecimal
namespace Go.Proofs.YtlblnknglplgjaaDoor
open Go.RowKit

theorem maxLen_belN {w w' : World} (h : ∃ m, w.cell? ⟨3, 0, none⟩ = some (.int .i64 m)) (hb : Below w.heap.size w w') : ∃ m, w'.cell? ⟨3, 0, none⟩ = some (.int .i64 m) := by
  obtain ⟨m, hm⟩ := h
  exact ⟨m, bel_cell hb hm⟩
theorem own_gives3N {w : World} {base n c : Nat} {e : TypeId} {A : Option Addr} {l : List Tb} (h : w.ownsRow base e 3 (.slice A n c) n (cells3 l)) (hl : l.length = n) :
    TubesAt w A l ∧ Own w A (n * 3) ∧ (∀ p, A = some p → base ≤ p.block ∧ p.block < w.heap.size) := by
  refine ⟨tubes_own h hl, ?_, ?_⟩
  · intro h0
    rcases h.2 with ⟨hv, hn⟩ | ⟨g, cap, cur, hv, hb, hg, hnc, _, hsz, _⟩
    · omega
    · injection hv with hA
      exact ⟨g, e, cur, hA, hg, by rw [hsz]; exact Nat.mul_le_mul_right 3 hnc⟩
  · intro p hp
    rcases h.2 with ⟨hv, hn⟩ | ⟨g, cap, cur, hv, hb, hg, hnc, _, hsz, _⟩
    · injection hv with hA
      rw [hA] at hp
      cases hp
    · injection hv with hA
      rw [hA] at hp
      injection hp with hp
      subst hp
      exact ⟨hb, Blk.lt hg⟩
theorem readNet_len (s : ByteArray) : (nN (readNet s)).2.length ≤ 1048576 := by
  cases h : readNet s with
  | none => simp [nN]
  | some r =>
    obtain ⟨S, l⟩ := r
    have := (validN_true (readNet_back h).1).2.2.1
    show l.length ≤ _
    omega

set_option maxHeartbeats 4000000 in
theorem walk_FnExactReadNet {w : World} (hL : laidMet Tryd.prog Rows.fnExactReadNetRow.laid w) (hm : ∃ m, w.cell? ⟨3, 0, none⟩ = some (.int .i64 m)) (s : ByteArray) (_ : s.size ≤ 9223372036854775807) :
    Calls Tryd.prog 8 #[.string s] w (Ret w (.bool true)) := by
  have HT := Lib.hid (tab_of hL.tail.tail)
  have HR := Lib.hid (errs_of hL.tail.tail.tail.tail)
  have HM := Lib.hid hm
  clear hL hm
  by_cases hs : 1048576 < s.size
  · go_enter Tryd.func8, Tryd.ntmps8
    go_wp2_with fail
    go_ret
    exact ⟨rfl, Below.refl _ _⟩
  have hs' : s.size ≤ 1048576 := by omega
  have hr := readNet_len s
  obtain ⟨S, hS⟩ : ∃ S, (nN (readNet s)).1 = S := ⟨_, rfl⟩
  obtain ⟨rl, hrl⟩ : ∃ l, (nN (readNet s)).2 = l := ⟨_, rfl⟩
  obtain ⟨ok, hok⟩ : ∃ b, (readNet s).isSome = b := ⟨_, rfl⟩
  have HS := Lib.hid hS
  have HRL := Lib.hid hrl
  have HOK := Lib.hid hok
  rw [hrl] at hr
  clear hS hrl hok
  go_enter Tryd.func8, Tryd.ntmps8
  go_wp2_with fail
  refine (specReadNet_any s _ hs').mono ?_
  unfold MadeNR
  rw [HS.out, HRL.out, HOK.out]
  rintro e w1 ⟨A6, c6, rfl, O6, hb⟩
  obtain ⟨I6, -, U6⟩ := own_gives3N O6 rfl
  have D := hb
  have hw1 := hb.size
  clear hb O6
  go_wp2_with fail
  have R6 : Hid (Blk (w1.alloc (.cells #[.int .i64 S, .slice A6 rl.length c6] 42)) w1.heap.size 42 #[.int .i64 S, .slice A6 rl.length c6]) := Blk.new _ _ _
  have hb : Below w1.heap.size w1 (w1.alloc (.cells #[.int .i64 S, .slice A6 rl.length c6] 42)) := (Below.refl _ _).alloc (Nat.le_refl _) _
  obtain ⟨g6, hg6⟩ : ∃ g, w1.heap.size = g := ⟨_, rfl⟩
  obtain ⟨w2, hw2⟩ : ∃ w2, w1.alloc (.cells #[.int .i64 S, .slice A6 rl.length c6] 42) = w2 := ⟨_, rfl⟩
  rw [hw2] at R6 hb ⊢
  replace I6 := I6.bel hb
  replace D := bel_next D hb
  rw [hg6] at R6 U6 hw1 ⊢
  have v6 := R6.out.lt
  clear hb hw2 hg6
  refine (implReadNet_any s _ hs' (maxLen_belN HM.out D) (HT.out.bel D) (HR.out.bel D)).mono ?_
  unfold MadeNR
  rw [HS.out, HRL.out, HOK.out]
  rintro e w3 ⟨A9, c9, rfl, O9, hb⟩
  obtain ⟨I9, W9, U9⟩ := own_gives3N O9 rfl
  replace R6 := hid_blk R6 hb
  replace I6 := I6.bel hb
  replace D := bel_next D hb
  have q3 := hb.size
  clear hb O9
  obtain ⟨k0, k1, -⟩ := R6.out.c2
  have v6' : g6 < w3.heap.size := by omega
  go_wp2_with fail
  have R9 : Hid (Blk (w3.alloc (.cells #[.int .i64 S, .slice A9 rl.length c9] 42)) w3.heap.size 42 #[.int .i64 S, .slice A9 rl.length c9]) := Blk.new _ _ _
  have hb : Below w3.heap.size w3 (w3.alloc (.cells #[.int .i64 S, .slice A9 rl.length c9] 42)) := (Below.refl _ _).alloc (Nat.le_refl _) _
  obtain ⟨g9, hg9⟩ : ∃ g, w3.heap.size = g := ⟨_, rfl⟩
  obtain ⟨w4, hw4⟩ : ∃ w4, w3.alloc (.cells #[.int .i64 S, .slice A9 rl.length c9] 42) = w4 := ⟨_, rfl⟩
  rw [hw4] at R9 hb ⊢
  replace R6 := hid_blk R6 hb
  replace I6 := I6.bel hb
  replace I9 := I9.bel hb
  replace W9 := W9.bel hb
  replace D := bel_next D hb
  rw [hg9] at R9 U9 q3 ⊢
  have v9 := R9.out.lt
  clear hb hw4 hg9
  refine (eqNet_any S A9 A6 rl.length c9 c6 rl _ I9 I6 rfl hr).mono ?_
  rintro e w5 ⟨rfl, hb⟩
  replace R6 := hid_blk R6 hb
  replace R9 := hid_blk R9 hb
  replace I6 := I6.bel hb
  replace W9 := W9.bel hb
  replace D := bel_next D hb
  have q5 := hb.size
  clear hb k0 k1 I9
  obtain ⟨k2, k3, -⟩ := R9.out.c2
  have hw5 : w.heap.size ≤ w5.heap.size := D.size
  have v9' : g9 < w5.heap.size := by omega
  cases ok
  all_goals
    go_wp2_with fail
    refine (markNet_any S A9 rl.length c9 1 _ W9 (by omega) (by omega) (by omega)).mono ?_
    rintro e w6 ⟨rfl, M9, hbut⟩
    replace R6 := Lib.hid (hbut.blk R6.out (by intro q hq; have yq := U9 q hq; omega))
    replace R9 := Lib.hid (hbut.blk R9.out (by intro q hq; have yq := U9 q hq; omega))
    replace I6 := I6.but hbut (by intro h0 p q hp hq; have yp := U6 p hp; have yq := U9 q hq; omega)
    replace D := hbut.below D (by intro q hq; have yq := U9 q hq; have := v6; omega)
    have q6 := hbut.size
    clear hbut k2 k3
    obtain ⟨k2, k3, -⟩ := R9.out.c2
    have v9'' : g9 < w6.heap.size := by omega
    go_wp2_with fail
    refine (heldNet_any S A9 rl.length c9 1 _ M9 (by omega) (by omega) (by omega)).mono ?_
    rintro e w7 ⟨rfl, hb⟩
    replace R6 := hid_blk R6 hb
    replace R9 := hid_blk R9 hb
    replace I6 := I6.bel hb
    replace M9 := M9.bel hb
    replace D := bel_next D hb
    have q7 := hb.size
    clear hb k2 k3
    go_wp2_with fail
    refine (implReadNet_any s _ hs' (maxLen_belN HM.out D) (HT.out.bel D) (HR.out.bel D)).mono ?_
    unfold MadeNR
    rw [HS.out, HRL.out, HOK.out]
    rintro e w8 ⟨A4, c4, rfl, O4, hb⟩
    obtain ⟨I4, -, -⟩ := own_gives3N O4 rfl
    replace R6 := hid_blk R6 hb
    replace R9 := hid_blk R9 hb
    replace I6 := I6.bel hb
    replace M9 := M9.bel hb
    replace D := bel_next D hb
    have q8 := hb.size
    clear hb O4
    obtain ⟨k0, k1, -⟩ := R6.out.c2
    have v6'' : g6 < w8.heap.size := R6.out.lt
    go_wp2_with fail
    have hb : Below w8.heap.size w8 (w8.alloc (.cells #[.int .i64 S, .slice A4 rl.length c4] 42)) := (Below.refl _ _).alloc (Nat.le_refl _) _
    obtain ⟨w9, hw9⟩ : ∃ w9, w8.alloc (.cells #[.int .i64 S, .slice A4 rl.length c4] 42) = w9 := ⟨_, rfl⟩
    rw [hw9] at hb ⊢
    replace R9 := hid_blk R9 hb
    replace I6 := I6.bel hb
    replace I4 := I4.bel hb
    replace M9 := M9.bel hb
    replace D := bel_next D hb
    clear hb hw9 k0 k1 R6
    refine (eqNet_any S A4 A6 rl.length c4 c6 rl _ I4 I6 rfl hr).mono ?_
    rintro e w10 ⟨rfl, hb⟩
    replace R9 := hid_blk R9 hb
    replace M9 := M9.bel hb
    replace D := bel_next D hb
    clear hb I4 I6
    obtain ⟨k2, k3, -⟩ := R9.out.c2
    have v9z : g9 < w10.heap.size := R9.out.lt
    go_wp2_with fail
    refine (heldNet_any S A9 rl.length c9 1 _ M9 (by omega) (by omega) (by omega)).mono ?_
    rintro e w11 ⟨rfl, hb⟩
    replace D := bel_next D hb
    clear hb
    go_wp2_with fail
    go_ret
    exact ⟨rfl, D⟩

end Go.Proofs.YtlblnknglplgjaaDoor
