/-
  THE WALK of the law on RideText.
-/
import Derived.Test.YtlblnknglplgjaaDoorRideT
import Derived.Test.YtlblnknglplgjaaDoorTab
namespace Go.Proofs.YtlblnknglplgjaaDoor
open Go.RowKit

set_option maxHeartbeats 1000000 in
theorem walk_FnExactRideText {w : World} (hL : laidMet Tryd.prog Rows.fnExactRideTextRow.laid w) (L W P B : Int) :
    Calls Tryd.prog 6 #[.agg #[.int .i64 L, .int .i64 W, .int .i64 P, .int .i64 B]] w (Ret w (.bool true)) := by
  have ht : Tab w := tab_of hL.tail.tail
  have HT := Lib.hid ht
  clear hL ht
  go_enter Tryd.func6, Tryd.ntmps6
  go_wp2_with fail
  refine (toRide_any L W P B _).mono ?_
  rintro e w1 ⟨rfl, hb⟩
  have D : Below w.heap.size w w1 := Below.trans (by go_grown) (hb.mono (by simp))
  have HB : Hid (Blk w1 w.heap.size 32 #[.int .i64 L, .int .i64 W, .int .i64 P, .int .i64 B]) := bel_blk (Blk.new _ _ _) hb
  clear hb
  go_wp2_with fail
  refine (specRideText_any L W P B _).mono ?_
  rintro e w2 ⟨rfl, hb⟩
  replace D := bel_next D hb
  replace HB := hid_blk HB hb
  obtain ⟨T, hT⟩ : ∃ T, rideTx L W P B = T := ⟨_, rfl⟩
  have HTX := Lib.hid hT
  rw [hT]
  have h0 : w2.cell? ⟨w.heap.size, 0, none⟩ = some (.int .i64 L) := by rw [HB.out.cell]; rfl
  have h1 : w2.cell? ⟨w.heap.size, 1, none⟩ = some (.int .i64 W) := by rw [HB.out.cell]; rfl
  have h2 : w2.cell? ⟨w.heap.size, 2, none⟩ = some (.int .i64 P) := by rw [HB.out.cell]; rfl
  have h3 : w2.cell? ⟨w.heap.size, 3, none⟩ = some (.int .i64 B) := by rw [HB.out.cell]; rfl
  clear hb hT
  go_wp2_with fail
  refine (toRide_any L W P B _).mono ?_
  rintro e w3 ⟨rfl, hb⟩
  replace D := bel_next D hb
  clear hb h0 h1 h2 h3
  go_wp2_with fail
  refine (implRideText_any L W P B _ (HT.out.bel D)).mono ?_
  rintro e w4 ⟨rfl, hb⟩
  replace D := bel_next D hb
  rw [HTX.out]
  clear hb
  go_wp2_with fail
  go_ret
  exact ⟨rfl, D⟩

end Go.Proofs.YtlblnknglplgjaaDoor
