/-
  THE WALK of the law on times.
-/
import Derived.Test.YtedjpbmgldbhkaaTimes
import Derived.Test.YtedjpbmgldbhkaaFrame
namespace Go.Proofs.Ytedjpbmgldbhkaa
open Go.RowKit

set_option maxHeartbeats 1000000 in
theorem walk_FnExactValidTimes {w : World} (A : Option Addr) (n c : Nat) (l : List Int) (F : IntsArg w A n l) : Calls Try.prog 3 #[.slice A n c] w (Ret w (.bool true)) := by
  obtain ⟨hl, h, hn⟩ := F
  have HL := Lib.hid hl.symm
  clear hl
  by_cases hs : n ≤ 1048576
  · go_enter Try.func3, Try.ntmps3
    go_wp2_with fail
    refine (toInt64S_any A n c l _ h HL.out hs).mono ?_
    rintro e w1 ⟨g1, rfl, hg1, R1, hb1⟩
    go_wp2_with fail
    refine (specValidTimes_any _ n n l _ (IntsAt.ofBlk R1.out) HL.out hs).mono ?_
    rintro e w2 ⟨rfl, rfl⟩
    go_wp2_with fail
    refine (toInt64S_any A n c l _ (h.bel hb1) HL.out hs).mono ?_
    rintro e w3 ⟨g3, rfl, hg3, R3, hb3⟩
    have D3 := bel_next hb1 hb3
    go_wp2_with fail
    refine (implValidTimes_any _ n n l _ (IntsAt.ofBlk R3.out) HL.out hs).mono ?_
    rintro e w4 ⟨rfl, hb4⟩
    have D4 := bel_next D3 hb4
    have R4 := hid_blk R3 hb4
    go_wp2_with fail
    refine (toInt64S_any A n c l _ (h.bel D4) HL.out hs).mono ?_
    rintro e w5 ⟨g5, rfl, hg5, R5, hb5⟩
    have D5 := bel_next D4 hb5
    have R6 := hid_blk R4 hb5
    go_wp2_with fail
    refine (eqInt64S_any _ _ n n n l _ (IntsAt.ofBlk R6.out) (IntsAt.ofBlk R5.out) HL.out hs).mono ?_
    rintro e w6 ⟨rfl, hb6⟩
    go_wp2_with fail
    go_ret
    exact ⟨rfl, bel_next D5 hb6⟩
  · go_enter Try.func3, Try.ntmps3
    go_wp2_with fail
    go_ret
    exact ⟨rfl, Below.refl _ _⟩

end Go.Proofs.Ytedjpbmgldbhkaa
