/-
  THE WALK of the law on CountSettings (printed by tools/gen_netlaws.py).
-/
import Derived.Test.YtliamhhmjnhgcaaCountSet
import Derived.Test.YtliamhhmjnhgcaaFrameNet
namespace Go.Proofs.Ytliamhhmjnhgcaa
open Go.RowKit

set_option maxHeartbeats 2000000 in
theorem walk_FnExactCountSettings {w : World} (S : Int) (A : Option Addr) (n c : Nat) (l : List Tb) (F : NetArg w A n l) : Calls Try.prog 13 #[.agg #[.int .i64 S, .slice A n c]] w (Ret w (.bool true)) := by
  obtain ⟨hl, h, hn⟩ := F
  have HL := Lib.hid hl.symm
  have H := Lib.hid h
  clear hl h
  by_cases hs : n ≤ 1048576
  · have e : szF 1048576 n = 1048576 - (n : Int) := by unfold szF; rw [if_neg (by omega)]
    have E := Lib.hid e
    clear e
    go_enter Try.func13, Try.ntmps13
    go_wp2_with fail
    refine (szNet_any S A n c 1048576 _ (by omega) (by omega) hn).mono ?_
    rintro e w0 ⟨rfl, hb0⟩
    rw [E.out]
    have D0 : Below w.heap.size w w0 := Below.trans (by go_grown) (hb0.mono (by simp))
    have N0 : Hid (Blk w0 w.heap.size 24 #[.int .i64 S, .slice A n c]) := bel_blk (Blk.new _ _ _) hb0
    clear hb0
    obtain ⟨a0, a1, -⟩ := N0.out.c2
    go_wp2_with fail
    refine (toNet_any S A n c l _ (H.out.bel D0) HL.out hs).mono ?_
    rintro e w1 ⟨g1, rfl, hg1, R1, hb1⟩
    have D1 := bel_next D0 hb1
    have N1 := hid_blk N0 hb1
    clear hb1 a0 a1 N0
    go_wp2_with fail
    refine (specCountSettings_any S _ n n l _ R1.tubes HL.out hs).mono ?_
    rintro e w2 ⟨rfl, hb2⟩
    have D2 := bel_next D1 hb2
    have N2 := hid_blk N1 hb2
    clear hb2 N1 R1 hg1 D1
    obtain ⟨a0, a1, -⟩ := N2.out.c2
    have s2 := N2.out.lt
    go_wp2_with fail
    refine (toNet_any S A n c l _ (H.out.bel D2) HL.out hs).mono ?_
    rintro e w3 ⟨g3, rfl, hg3, R3, hb3⟩
    have D3 := bel_next D2 hb3
    have N3 := hid_blk N2 hb3
    clear hb3 N2 a0 a1 s2
    go_wp2_with fail
    refine (implCountSettings_any S _ n n l _ (R3.tubes.alloc _) HL.out hs).mono ?_
    rintro e w4 ⟨rfl, hb4⟩
    have D4 : Below w.heap.size w w4 := bel_next (D3.alloc D3.size _) hb4
    have N4 : Hid (Blk w4 w.heap.size _ _) := bel_blk (N3.out.alloc _) hb4
    have X4 : Hid (Blk w4 w3.heap.size 29 #[.int .i64 S, .slice (some ⟨g3, 0, none⟩) n n]) := bel_blk (Blk.new _ _ _) hb4
    have R4 := (R3.tubes.alloc (.cells #[.int .i64 S, .slice (some ⟨g3, 0, none⟩) n n] 29)).bel hb4
    have H4 := H.out.bel D4
    obtain ⟨a0, a1, -⟩ := N4.out.c2
    obtain ⟨x0, x1, -⟩ := X4.out.c2
    clear hb4 N3 N4 X4 R3 D3 D2 D0 hg3
    go_wp2_with fail
    go_region_held3 (fun w' => w'.cell? ⟨w3.heap.size, 0, none⟩ = some (.int .i64 S) ∧ w'.cell? ⟨w3.heap.size, 1, none⟩ = some (.slice (some ⟨g3, 0, none⟩) n n) ∧ w'.cell? ⟨w.heap.size, 0, none⟩ = some (.int .i64 S) ∧ w'.cell? ⟨w.heap.size, 1, none⟩ = some (.slice A n c) ∧
        TubesAt w' (some ⟨g3, 0, none⟩) l ∧ TubesAt w' A l ∧ Below w.heap.size w w')
      (first
        | (refine ⟨x0, x1, a0, a1, R4.bel (by go_grown), H4.bel (by go_grown), ?_⟩; go_grown; done)
        | (go_split_ands; refine ⟨?_, ?_, ?_, ?_, ?_, ?_, ?_⟩ <;> first | exact bel_cell hb5 (by assumption) | exact TubesAt.bel (by assumption) hb5 | exact bel_next (by assumption) hb5))
      (first
        | (go_at_call 16; refine (toNet_any S A n c l _ (by first | assumption | exact H4.drew | (go_split_ands; assumption)) HL.out hs).mono ?_; rintro e w5 ⟨g5, rfl, hg5, R5, hb5⟩)
        | (go_at_call 18; refine (eqNet_any S _ _ n n n l _ (by first | assumption | (go_split_ands; assumption)) R5.tubes HL.out hs).mono ?_; rintro e w6 ⟨rfl, hb5⟩))
    obtain ⟨-, -, -, -, -, -, D⟩ := ‹_ ∧ _ ∧ _ ∧ _ ∧ _ ∧ _ ∧ _›
    go_wp2_with fail
    go_ret
    exact ⟨rfl, D⟩
  · have e : szF 1048576 n = -1 := by unfold szF; rw [if_pos (by omega)]
    have E := Lib.hid e
    clear e
    go_enter Try.func13, Try.ntmps13
    go_wp2_with fail
    refine (szNet_any S A n c 1048576 _ (by omega) (by omega) hn).mono ?_
    rintro e w0 ⟨rfl, hb0⟩
    rw [E.out]
    go_wp2_with fail
    go_ret
    exact ⟨rfl, Below.trans (by go_grown) (hb0.mono (by simp))⟩

end Go.Proofs.Ytliamhhmjnhgcaa
