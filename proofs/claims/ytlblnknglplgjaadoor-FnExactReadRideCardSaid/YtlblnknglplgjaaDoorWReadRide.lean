/-
  THE WALK of the law on ReadRide.
-/
import Derived.Test.YtlblnknglplgjaaDoorRRide2
import Derived.Test.YtlblnknglplgjaaDoorWReadDecimal
namespace Go.Proofs.YtlblnknglplgjaaDoor
open Go.RowKit

theorem maxLen_bel {w w' : World} (h : ∃ m, w.cell? ⟨3, 0, none⟩ = some (.int .i64 m)) (hb : Below w.heap.size w w') : ∃ m, w'.cell? ⟨3, 0, none⟩ = some (.int .i64 m) := by
  obtain ⟨m, hm⟩ := h
  exact ⟨m, bel_cell hb hm⟩
theorem eqRide_any (a b c d : Int) (w : World) : Calls Tryd.prog 16 #[.agg #[.int .i64 a, .int .i64 b, .int .i64 c, .int .i64 d], .agg #[.int .i64 a, .int .i64 b, .int .i64 c, .int .i64 d]] w (Ret w (.bool true)) := by
  go_enter Tryd.func16, Tryd.ntmps16
  go_wp2
  all_goals go_ret
  all_goals exact ⟨ret_bool (by simp), by go_grown⟩

set_option maxHeartbeats 2000000 in
theorem walk_FnExactReadRide {w : World} (hL : laidMet Tryd.prog Rows.fnExactReadRideRow.laid w) (hm : ∃ m, w.cell? ⟨3, 0, none⟩ = some (.int .i64 m)) (s : ByteArray) (_ : s.size ≤ 9223372036854775807) :
    Calls Tryd.prog 5 #[.string s] w (Ret w (.bool true)) := by
  have HT := Lib.hid (tab_of hL.tail.tail)
  have HR := Lib.hid (errs_of hL.tail.tail.tail.tail)
  have HM := Lib.hid hm
  clear hL hm
  by_cases hs : 1048576 < s.size
  · go_enter Tryd.func5, Tryd.ntmps5
    go_wp2_with fail
    go_ret
    exact ⟨rfl, Below.refl _ _⟩
  have hs' : s.size ≤ 1048576 := by omega
  obtain ⟨⟨a, b, c, d⟩, hr⟩ : ∃ r, r4 (readR s) = r := ⟨_, rfl⟩
  obtain ⟨ok, hok⟩ : ∃ ok, (readR s).isSome = ok := ⟨_, rfl⟩
  have E : Hid ((.tuple #[ride4V (r4 (readR s)), .bool (readR s).isSome] : Value) = .tuple #[.agg #[.int .i64 a, .int .i64 b, .int .i64 c, .int .i64 d], .bool ok]) := by show _ = _; rw [hr, hok]; rfl
  clear hr hok
  go_enter Tryd.func5, Tryd.ntmps5
  go_wp2_with fail
  refine (specReadRide_any s _ hs').mono ?_
  rintro e w1 ⟨rfl, hb⟩
  rw [E.out]
  have D := hb
  clear hb
  go_wp2_with fail
  have A1 : Hid (Blk (w1.alloc (.cells #[.int .i64 a, .int .i64 b, .int .i64 c, .int .i64 d] 28)) w1.heap.size 28 #[.int .i64 a, .int .i64 b, .int .i64 c, .int .i64 d]) := Blk.new _ _ _
  have DA := D.alloc D.size (.cells #[.int .i64 a, .int .i64 b, .int .i64 c, .int .i64 d] 28)
  refine (implReadRide_any s _ hs' (maxLen_bel HM.out DA) (HT.out.bel DA) (HR.out.bel DA)).mono ?_
  rintro e w2 ⟨rfl, hb⟩
  rw [E.out]
  replace A1 := hid_blk A1 hb
  have D2 := bel_next DA hb
  have hlt := A1.out.lt
  obtain ⟨k0, k1, k2, k3, -⟩ := A1.out.c4
  clear hb D DA
  go_wp2_with fail
  refine (eqRide_any a b c d _).mono ?_
  rintro e w3 ⟨rfl, hb⟩
  replace D2 := Below.trans D2 (Below.trans ((Below.refl _ _).alloc D2.size _) (hb.mono (by have := D2.size; simp; omega)))
  clear hb
  cases ok
  all_goals
    go_wp2_with fail
    go_ret
    exact ⟨rfl, D2⟩

end Go.Proofs.YtlblnknglplgjaaDoor
