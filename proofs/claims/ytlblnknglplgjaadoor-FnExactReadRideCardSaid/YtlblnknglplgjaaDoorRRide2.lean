/-
  CONTRACTS: the ride that a text spells, the program's way (printed by tools/gen_rride2.py).
-/
import Derived.Test.YtlblnknglplgjaaDoorRRide
import Derived.Test.YtlblnknglplgjaaDoorReadI
import Derived.Test.YtlblnknglplgjaaDoorShelfT
namespace Go.Proofs.YtlblnknglplgjaaDoor
open Go.RowKit

theorem readR2_no {s : ByteArray} (h : (splB 32 s).length ≠ 4) : readR s = none := readR_no h
theorem trimB (u : UInt8) (p : List UInt8) (f : ByteArray) (hf : f = ⟨#[u]⟩) : (⟨(Lib.trimSuffix (mkB p).data.toList f.data.toList).toArray⟩ : ByteArray) = mkB (trimN u p) := by
  subst hf
  show (⟨(Lib.trimSuffix p [u]).toArray⟩ : ByteArray) = _
  rw [trimN_eq]
  rfl
theorem trimN_len (u : UInt8) (p : List UInt8) : (trimN u p).length ≤ p.length := by
  unfold trimN
  split
  · simp
  · exact Nat.le_refl _
theorem sl0 (wx : World) : (Instr.slice 9 (.string ⟨#[109, 103, 112, 98]⟩) (some (.int .i64 0)) (some (.int .i64 1)) none).run Tryd.prog wx = .ok (.string ⟨#[109]⟩) wx :=
  (run_slice_string (P := Tryd.prog) wx 9 ⟨#[109, 103, 112, 98]⟩ .i64 .i64 0 1 Tryd.underlying9 (by decide) (by decide) (by decide)).trans (by rfl)
theorem sl1 (wx : World) : (Instr.slice 9 (.string ⟨#[109, 103, 112, 98]⟩) (some (.int .i64 1)) (some (.int .i64 2)) none).run Tryd.prog wx = .ok (.string ⟨#[103]⟩) wx :=
  (run_slice_string (P := Tryd.prog) wx 9 ⟨#[109, 103, 112, 98]⟩ .i64 .i64 1 2 Tryd.underlying9 (by decide) (by decide) (by decide)).trans (by rfl)
theorem sl2 (wx : World) : (Instr.slice 9 (.string ⟨#[109, 103, 112, 98]⟩) (some (.int .i64 2)) (some (.int .i64 3)) none).run Tryd.prog wx = .ok (.string ⟨#[112]⟩) wx :=
  (run_slice_string (P := Tryd.prog) wx 9 ⟨#[109, 103, 112, 98]⟩ .i64 .i64 2 3 Tryd.underlying9 (by decide) (by decide) (by decide)).trans (by rfl)
theorem sl3 (wx : World) : (Instr.slice 9 (.string ⟨#[109, 103, 112, 98]⟩) (some (.int .i64 3)) (some (.int .i64 4)) none).run Tryd.prog wx = .ok (.string ⟨#[98]⟩) wx :=
  (run_slice_string (P := Tryd.prog) wx 9 ⟨#[109, 103, 112, 98]⟩ .i64 .i64 3 4 Tryd.underlying9 (by decide) (by decide) (by decide)).trans (by rfl)
/-- The cells of the ride when so many fields are read. -/
def rC (v0 v1 v2 v3 : Int) : Nat → Array Value
  | 0 => #[.int .i64 0, .int .i64 0, .int .i64 0, .int .i64 0]
  | 1 => #[.int .i64 v0, .int .i64 0, .int .i64 0, .int .i64 0]
  | 2 => #[.int .i64 v0, .int .i64 v1, .int .i64 0, .int .i64 0]
  | 3 => #[.int .i64 v0, .int .i64 v1, .int .i64 v2, .int .i64 0]
  | _ => #[.int .i64 v0, .int .i64 v1, .int .i64 v2, .int .i64 v3]
def rB (b0 b1 b2 b3 : Bool) : Nat → Bool
  | 0 => true
  | 1 => b0
  | 2 => b0 && b1
  | 3 => b0 && (b1 && b2)
  | _ => b0 && (b1 && (b2 && b3))

set_option maxHeartbeats 8000000 in
set_option maxRecDepth 100000 in
theorem implReadRide_any (s : ByteArray) (w : World) (hs : s.size ≤ 1048576) (hm : ∃ m, w.cell? ⟨3, 0, none⟩ = some (.int .i64 m)) (ht : Tab w) (he : Errs w) :
    Calls Tryd.prog 15 #[.string s] w (MadeRd w (readR s)) := by
  have HN : (splB 32 s).length ≠ 4 → Hid (readR s = none) := readR_no
  have HY : (splB 32 s).length = 4 → ∃ p0 p1 p2 p3, Hid (splB 32 s = [mkB p0, mkB p1, mkB p2, mkB p3]) ∧ Hid (readR s = keepT s (ride4 (numS (trimN 109 p0)) (numS (trimN 103 p1)) (numS (trimN 112 p2)) (numS (trimN 98 p3)))) ∧ p0.length ≤ 1048576 ∧ p1.length ≤ 1048576 ∧ p2.length ≤ 1048576 ∧ p3.length ≤ 1048576 := by
    intro h
    obtain ⟨p0, p1, p2, p3, hp⟩ := four_of h
    have hc := congrArg List.length (spl_cat 32 s.data.toList [])
    rw [hp] at hc
    have e0 : s.data.toList.length = s.size := by simp
    simp only [cat, List.length_append, List.length_cons, List.nil_append] at hc
    refine ⟨p0, p1, p2, p3, by show _ = _; rw [splB_spl, hp]; rfl, by show _ = _; rw [← readR_eq]; unfold readR2; rw [hp], by omega, by omega, by omega, by omega⟩
  obtain ⟨m, hm⟩ := hm
  have HM := Lib.hid hm
  have HT := Lib.hid ht
  have HR := Lib.hid he
  obtain ⟨h1, h2⟩ := splB_split 32 s
  obtain ⟨l, hl⟩ : ∃ l, splB 32 s = l := ⟨_, rfl⟩
  rw [hl] at h1 h2 HN HY
  have H1 := Lib.hid h1
  have H2 := Lib.hid h2
  clear hm h1 h2 hl ht he
  go_enter Tryd.func15, Tryd.ntmps15
  go_wp2_with fail
  refine (Tryd.strings_Split s ⟨#[32]⟩ m _ (by omega) (bel_cell (show Below w.heap.size w _ from by go_grown) HM.out) (by decide)).mono ?_
  rintro e w1 ⟨rfl, hw1⟩
  rw [H1.out] at hw1
  rw [← H2.out]
  have D : Below w.heap.size w w1 := by rw [hw1]; go_grown
  have RB1 : Hid (Blk w1 w.heap.size 28 #[.int .i64 0, .int .i64 0, .int .i64 0, .int .i64 0]) := by rw [hw1]; exact (Blk.new _ _ _).alloc _
  have PB1 : Hid (Blk w1 (w.heap.size + 1) 9 (l.map Value.string).toArray) := by rw [hw1]; exact Blk.newAt (by simp)
  have hsz1 : w1.heap.size = w.heap.size + 2 := by rw [hw1]; simp
  have es1 : (w.alloc (.cells #[.int .i64 0, .int .i64 0, .int .i64 0, .int .i64 0] 28)).heap.size = w.heap.size + 1 := by simp
  rw [es1]
  clear hw1 es1
  by_cases h4 : l.length = 4
  · obtain ⟨p0, p1, p2, p3, e1, HE, y0, y1, y2, y3⟩ := HY h4
    obtain rfl := e1.out
    have key : ∀ u p, ∃ v b, Hid (readD (mkB (trimN u p)) = (v, b)) ∧ (b = true → numS (trimN u p) = some v) ∧ (b = false → numS (trimN u p) = none) := by
      intro u p
      have e2 : readD (mkB (trimN u p)) = resO (numS (trimN u p)) := rfl
      cases h : numS (trimN u p) with
      | none => exact ⟨0, false, by show _ = _; rw [e2, h]; rfl, by simp, by simp⟩
      | some n => exact ⟨n, true, by show _ = _; rw [e2, h]; rfl, by simp, by simp⟩
    obtain ⟨v0, b0, K0, m0⟩ := key 109 p0
    obtain ⟨v1, b1, K1, m1⟩ := key 103 p1
    obtain ⟨v2, b2, K2, m2⟩ := key 112 p2
    obtain ⟨v3, b3, K3, m3⟩ := key 98 p3
    have fin : (rB b0 b1 b2 b3 4 = false → Hid (readR s = none)) ∧ (rB b0 b1 b2 b3 4 = true → Hid (readR s = if rideTx v0 v1 v2 v3 = s then some (v0, v1, v2, v3) else none)) := by
      constructor
      · intro hb
        show _ = _
        rw [HE.out]
        cases b0
        · rw [m0.2 rfl]; rfl
        cases b1
        · rw [m0.1 rfl, m1.2 rfl]; rfl
        cases b2
        · rw [m0.1 rfl, m1.1 rfl, m2.2 rfl]; rfl
        cases b3
        · rw [m0.1 rfl, m1.1 rfl, m2.1 rfl, m3.2 rfl]; rfl
        cases hb
      · intro hb
        show _ = _
        rw [HE.out]
        cases b0
        · cases hb
        cases b1
        · cases hb
        cases b2
        · cases hb
        cases b3
        · cases hb
        rw [m0.1 rfl, m1.1 rfl, m2.1 rfl, m3.1 rfl]
        rfl
    have FIN := Lib.hid fin
    have hlt0 := RB1.out.lt
    have hlt1 := PB1.out.lt
    clear fin m0 m1 m2 m3 HE HN HY h4 e1 key
    go_wp2_with fail
    go_loopw [23] (fun u w' => ∃ (i : Nat), u = .int .i64 i ∧ i ≤ 4 ∧ Hid (Blk w' w.heap.size 28 #[.int .i64 0, .int .i64 0, .int .i64 0, .int .i64 0]) ∧ Hid (Blk w' (w.heap.size + 1) 9 #[.string (mkB p0), .string (mkB p1), .string (mkB p2), .string (mkB p3)]) ∧ Hid (Blk w' (w.heap.size + 2) 28 (rC v0 v1 v2 v3 i)) ∧ Hid (Blk w' (w.heap.size + 3) 65 #[.pointer (some ⟨w.heap.size + 2, 0, none⟩), .pointer (some ⟨w.heap.size + 2, 1, none⟩), .pointer (some ⟨w.heap.size + 2, 2, none⟩), .pointer (some ⟨w.heap.size + 2, 3, none⟩)]) ∧ Hid (rB b0 b1 b2 b3 i = true) ∧ Below w.heap.size w w') (fun u _ => 4 - (intOf u).toNat)
    case atStart => exact ⟨0, rfl, by omega, (RB1.out.alloc _).alloc _, (PB1.out.alloc _).alloc _, (Blk.newAt (n := w.heap.size + 2) hsz1.symm).alloc _, Blk.newAt (n := w.heap.size + 3) (by simp [hsz1]), rfl, (D.alloc D.size _).alloc (by have := D.size; simp; omega) _⟩
    case round =>
      obtain ⟨i, rfl, hin, XB, XP, XR, XF, XO, hbel⟩ := hrel
      clear RB1 PB1
      obtain ⟨z0, z1, z2, z3, z4, z5, z6, z7⟩ := XB.out.c4
      obtain ⟨q0, q1, q2, q3, -⟩ := XP.out.c4
      obtain ⟨f0, f1, f2, f3, -⟩ := XF.out.c4
      by_cases hi0 : i = 0
      · subst hi0
        rw [show ((0 : Nat) : Int) = (0 : Int) from rfl]
        have XR' : Hid (Blk wr (w.heap.size + 2) 28 #[.int .i64 0, .int .i64 0, .int .i64 0, .int .i64 0]) := XR
        obtain ⟨g0, g1, g2, g3, g4, g5, g6, g7⟩ := XR'.out.c4
        have hlt2 := XR'.out.lt
        clear XR
        have hsl := sl0
        have hsz4 : (⟨#[109, 103, 112, 98]⟩ : ByteArray).size = 4 := rfl
        have hw1 : IntKind.i64.wrap ((0 : Int) + 1) = 1 := by decide
        have hw2 : IntKind.i64.wrap (1 : Int) = 1 := by decide
        go_wp2_with fail
        go_region_held3 (fun w' => w'.cell? ⟨w.heap.size + 1, 0, none⟩ = some (.string (mkB p0)) ∧ Hid (Blk w' w.heap.size 28 #[.int .i64 0, .int .i64 0, .int .i64 0, .int .i64 0]) ∧ Hid (Blk w' (w.heap.size + 1) 9 #[.string (mkB p0), .string (mkB p1), .string (mkB p2), .string (mkB p3)]) ∧ Hid (Blk w' (w.heap.size + 2) 28 #[.int .i64 0, .int .i64 0, .int .i64 0, .int .i64 0]) ∧ Hid (Blk w' (w.heap.size + 3) 65 #[.pointer (some ⟨w.heap.size + 2, 0, none⟩), .pointer (some ⟨w.heap.size + 2, 1, none⟩), .pointer (some ⟨w.heap.size + 2, 2, none⟩), .pointer (some ⟨w.heap.size + 2, 3, none⟩)]) ∧ Below w.heap.size w w')
          (first
            | (exact ⟨q0, XB, XP, XR', XF, hbel.drew⟩)
            | (have hS := ‹_ ∧ _ ∧ _ ∧ _ ∧ _ ∧ _›; exact ⟨bel_cell hbR hS.1, hid_blk hS.2.1 hbR, hid_blk hS.2.2.1 hbR, hid_blk hS.2.2.2.1 hbR, hid_blk hS.2.2.2.2.1 hbR, bel_next hS.2.2.2.2.2 hbR⟩))
          (first
            | (go_at_call 43; refine (Tryd.strings_TrimSuffix (mkB p0) _ _ (by show p0.toArray.size ≤ _; simp; omega)).mono ?_; rintro e w4 ⟨rfl, hq⟩; rw [trimB 109 p0 _ (by first | rfl | decide)]; have hbR : Below wr.drew.heap.size wr.drew w4 := (by rw [hq]; exact Below.refl _ _); clear hq)
            | (go_at_call 11; refine (implReadDecimal_any (mkB (trimN 109 p0)) _ (by show (trimN 109 p0).toArray.size ≤ _; have := trimN_len 109 p0; simp; omega) (by first | exact HT.out.bel hbel.drew | exact HT.out.bel (‹_ ∧ _ ∧ _ ∧ _ ∧ _ ∧ Below _ _ _›).2.2.2.2.2) (by first | exact HR.out.bel hbel.drew | exact HR.out.bel (‹_ ∧ _ ∧ _ ∧ _ ∧ _ ∧ Below _ _ _›).2.2.2.2.2)).mono ?_; rintro e w5 ⟨rfl, hbR⟩; rw [K0.out]))
        clear XB XP XR' XF hbel z0 z1 z2 z3 z4 z5 z6 z7 q0 q1 q2 q3 f0 f1 f2 f3 g0 g1 g2 g3 g4 g5 g6 g7 hlt2
        obtain ⟨-, XB, XP, XR', XF, hbel⟩ := ‹_ ∧ _ ∧ _ ∧ _ ∧ _ ∧ _›
        obtain ⟨z0, z1, z2, z3, z4, z5, z6, z7⟩ := XB.out.c4
        obtain ⟨g0, g1, g2, g3, g4, g5, g6, g7⟩ := XR'.out.c4
        have hlt0 := XB.out.lt
        cases b0
        · have E : Hid (readR s = none) := FIN.out.1 (by have h := XO.out; revert h; simp [rB])
          clear FIN
          go_wp2_with fail
          have DB : Below w.heap.size w ((((w5.setCell ⟨w.heap.size, 0, none⟩ (.int .i64 0)).setCell ⟨w.heap.size, 1, none⟩ (.int .i64 0)).setCell ⟨w.heap.size, 2, none⟩ (.int .i64 0)).setCell ⟨w.heap.size, 3, none⟩ (.int .i64 0)) := ((((hbel.setCell (Nat.le_refl _) _).setCell (Nat.le_refl _) _).setCell (Nat.le_refl _) _).setCell (Nat.le_refl _) _)
          have R : Blk ((((w5.setCell ⟨w.heap.size, 0, none⟩ (.int .i64 0)).setCell ⟨w.heap.size, 1, none⟩ (.int .i64 0)).setCell ⟨w.heap.size, 2, none⟩ (.int .i64 0)).setCell ⟨w.heap.size, 3, none⟩ (.int .i64 0)) w.heap.size 28 #[.int .i64 0, .int .i64 0, .int .i64 0, .int .i64 0] := ((((XB.out.set_ 0 (.int .i64 0)).set_ 1 (.int .i64 0)).set_ 2 (.int .i64 0)).set_ 3 (.int .i64 0))
          obtain ⟨W4, hW⟩ : ∃ W4, ((((w5.setCell ⟨w.heap.size, 0, none⟩ (.int .i64 0)).setCell ⟨w.heap.size, 1, none⟩ (.int .i64 0)).setCell ⟨w.heap.size, 2, none⟩ (.int .i64 0)).setCell ⟨w.heap.size, 3, none⟩ (.int .i64 0)) = W4 := ⟨_, rfl⟩
          rw [hW] at DB R ⊢
          obtain ⟨k0, k1, k2, k3, -⟩ := R.c4
          clear hW R
          refine bodyPost_ret (v := .tuple #[.agg #[.int .i64 0, .int .i64 0, .int .i64 0, .int .i64 0], .bool false]) (by simp [results, Tryd.results15, go_sem, k0, k1, k2, k3]) rfl ?_
          rw [E.out]
          exact ⟨rfl, DB⟩
        · have XO' : Hid (rB true b1 b2 b3 1 = true) := by have h := XO.out; revert h; show _ → _ = _; simp [rB]
          go_wp2_with fail
          go_roundw
          case rel => exact ⟨1, by go_num, by omega, XB.out.far (by simp) _, XP.out.far (by simp) _, XR'.out.set_ 0 (.int .i64 v0), XF.out.far (by simp) _, XO', hbel.setCell (by simp) _⟩
          case measure => simp [intOf]
      by_cases hi1 : i = 1
      · subst hi1
        rw [show ((1 : Nat) : Int) = (1 : Int) from rfl]
        have XR' : Hid (Blk wr (w.heap.size + 2) 28 #[.int .i64 v0, .int .i64 0, .int .i64 0, .int .i64 0]) := XR
        obtain ⟨g0, g1, g2, g3, g4, g5, g6, g7⟩ := XR'.out.c4
        have hlt2 := XR'.out.lt
        clear XR
        have hsl := sl1
        have hsz4 : (⟨#[109, 103, 112, 98]⟩ : ByteArray).size = 4 := rfl
        have hw1 : IntKind.i64.wrap ((1 : Int) + 1) = 2 := by decide
        have hw2 : IntKind.i64.wrap (2 : Int) = 2 := by decide
        go_wp2_with fail
        go_region_held3 (fun w' => w'.cell? ⟨w.heap.size + 1, 1, none⟩ = some (.string (mkB p1)) ∧ Hid (Blk w' w.heap.size 28 #[.int .i64 0, .int .i64 0, .int .i64 0, .int .i64 0]) ∧ Hid (Blk w' (w.heap.size + 1) 9 #[.string (mkB p0), .string (mkB p1), .string (mkB p2), .string (mkB p3)]) ∧ Hid (Blk w' (w.heap.size + 2) 28 #[.int .i64 v0, .int .i64 0, .int .i64 0, .int .i64 0]) ∧ Hid (Blk w' (w.heap.size + 3) 65 #[.pointer (some ⟨w.heap.size + 2, 0, none⟩), .pointer (some ⟨w.heap.size + 2, 1, none⟩), .pointer (some ⟨w.heap.size + 2, 2, none⟩), .pointer (some ⟨w.heap.size + 2, 3, none⟩)]) ∧ Below w.heap.size w w')
          (first
            | (exact ⟨q1, XB, XP, XR', XF, hbel.drew⟩)
            | (have hS := ‹_ ∧ _ ∧ _ ∧ _ ∧ _ ∧ _›; exact ⟨bel_cell hbR hS.1, hid_blk hS.2.1 hbR, hid_blk hS.2.2.1 hbR, hid_blk hS.2.2.2.1 hbR, hid_blk hS.2.2.2.2.1 hbR, bel_next hS.2.2.2.2.2 hbR⟩))
          (first
            | (go_at_call 43; refine (Tryd.strings_TrimSuffix (mkB p1) _ _ (by show p1.toArray.size ≤ _; simp; omega)).mono ?_; rintro e w4 ⟨rfl, hq⟩; rw [trimB 103 p1 _ (by first | rfl | decide)]; have hbR : Below wr.drew.heap.size wr.drew w4 := (by rw [hq]; exact Below.refl _ _); clear hq)
            | (go_at_call 11; refine (implReadDecimal_any (mkB (trimN 103 p1)) _ (by show (trimN 103 p1).toArray.size ≤ _; have := trimN_len 103 p1; simp; omega) (by first | exact HT.out.bel hbel.drew | exact HT.out.bel (‹_ ∧ _ ∧ _ ∧ _ ∧ _ ∧ Below _ _ _›).2.2.2.2.2) (by first | exact HR.out.bel hbel.drew | exact HR.out.bel (‹_ ∧ _ ∧ _ ∧ _ ∧ _ ∧ Below _ _ _›).2.2.2.2.2)).mono ?_; rintro e w5 ⟨rfl, hbR⟩; rw [K1.out]))
        clear XB XP XR' XF hbel z0 z1 z2 z3 z4 z5 z6 z7 q0 q1 q2 q3 f0 f1 f2 f3 g0 g1 g2 g3 g4 g5 g6 g7 hlt2
        obtain ⟨-, XB, XP, XR', XF, hbel⟩ := ‹_ ∧ _ ∧ _ ∧ _ ∧ _ ∧ _›
        obtain ⟨z0, z1, z2, z3, z4, z5, z6, z7⟩ := XB.out.c4
        obtain ⟨g0, g1, g2, g3, g4, g5, g6, g7⟩ := XR'.out.c4
        have hlt0 := XB.out.lt
        cases b1
        · have E : Hid (readR s = none) := FIN.out.1 (by have h := XO.out; revert h; simp [rB])
          clear FIN
          go_wp2_with fail
          have DB : Below w.heap.size w ((((w5.setCell ⟨w.heap.size, 0, none⟩ (.int .i64 0)).setCell ⟨w.heap.size, 1, none⟩ (.int .i64 0)).setCell ⟨w.heap.size, 2, none⟩ (.int .i64 0)).setCell ⟨w.heap.size, 3, none⟩ (.int .i64 0)) := ((((hbel.setCell (Nat.le_refl _) _).setCell (Nat.le_refl _) _).setCell (Nat.le_refl _) _).setCell (Nat.le_refl _) _)
          have R : Blk ((((w5.setCell ⟨w.heap.size, 0, none⟩ (.int .i64 0)).setCell ⟨w.heap.size, 1, none⟩ (.int .i64 0)).setCell ⟨w.heap.size, 2, none⟩ (.int .i64 0)).setCell ⟨w.heap.size, 3, none⟩ (.int .i64 0)) w.heap.size 28 #[.int .i64 0, .int .i64 0, .int .i64 0, .int .i64 0] := ((((XB.out.set_ 0 (.int .i64 0)).set_ 1 (.int .i64 0)).set_ 2 (.int .i64 0)).set_ 3 (.int .i64 0))
          obtain ⟨W4, hW⟩ : ∃ W4, ((((w5.setCell ⟨w.heap.size, 0, none⟩ (.int .i64 0)).setCell ⟨w.heap.size, 1, none⟩ (.int .i64 0)).setCell ⟨w.heap.size, 2, none⟩ (.int .i64 0)).setCell ⟨w.heap.size, 3, none⟩ (.int .i64 0)) = W4 := ⟨_, rfl⟩
          rw [hW] at DB R ⊢
          obtain ⟨k0, k1, k2, k3, -⟩ := R.c4
          clear hW R
          refine bodyPost_ret (v := .tuple #[.agg #[.int .i64 0, .int .i64 0, .int .i64 0, .int .i64 0], .bool false]) (by simp [results, Tryd.results15, go_sem, k0, k1, k2, k3]) rfl ?_
          rw [E.out]
          exact ⟨rfl, DB⟩
        · have XO' : Hid (rB b0 true b2 b3 2 = true) := by have h := XO.out; revert h; show _ → _ = _; simp [rB]
          go_wp2_with fail
          go_roundw
          case rel => exact ⟨2, by go_num, by omega, XB.out.far (by simp) _, XP.out.far (by simp) _, XR'.out.set_ 1 (.int .i64 v1), XF.out.far (by simp) _, XO', hbel.setCell (by simp) _⟩
          case measure => simp [intOf]
      by_cases hi2 : i = 2
      · subst hi2
        rw [show ((2 : Nat) : Int) = (2 : Int) from rfl]
        have XR' : Hid (Blk wr (w.heap.size + 2) 28 #[.int .i64 v0, .int .i64 v1, .int .i64 0, .int .i64 0]) := XR
        obtain ⟨g0, g1, g2, g3, g4, g5, g6, g7⟩ := XR'.out.c4
        have hlt2 := XR'.out.lt
        clear XR
        have hsl := sl2
        have hsz4 : (⟨#[109, 103, 112, 98]⟩ : ByteArray).size = 4 := rfl
        have hw1 : IntKind.i64.wrap ((2 : Int) + 1) = 3 := by decide
        have hw2 : IntKind.i64.wrap (3 : Int) = 3 := by decide
        go_wp2_with fail
        go_region_held3 (fun w' => w'.cell? ⟨w.heap.size + 1, 2, none⟩ = some (.string (mkB p2)) ∧ Hid (Blk w' w.heap.size 28 #[.int .i64 0, .int .i64 0, .int .i64 0, .int .i64 0]) ∧ Hid (Blk w' (w.heap.size + 1) 9 #[.string (mkB p0), .string (mkB p1), .string (mkB p2), .string (mkB p3)]) ∧ Hid (Blk w' (w.heap.size + 2) 28 #[.int .i64 v0, .int .i64 v1, .int .i64 0, .int .i64 0]) ∧ Hid (Blk w' (w.heap.size + 3) 65 #[.pointer (some ⟨w.heap.size + 2, 0, none⟩), .pointer (some ⟨w.heap.size + 2, 1, none⟩), .pointer (some ⟨w.heap.size + 2, 2, none⟩), .pointer (some ⟨w.heap.size + 2, 3, none⟩)]) ∧ Below w.heap.size w w')
          (first
            | (exact ⟨q2, XB, XP, XR', XF, hbel.drew⟩)
            | (have hS := ‹_ ∧ _ ∧ _ ∧ _ ∧ _ ∧ _›; exact ⟨bel_cell hbR hS.1, hid_blk hS.2.1 hbR, hid_blk hS.2.2.1 hbR, hid_blk hS.2.2.2.1 hbR, hid_blk hS.2.2.2.2.1 hbR, bel_next hS.2.2.2.2.2 hbR⟩))
          (first
            | (go_at_call 43; refine (Tryd.strings_TrimSuffix (mkB p2) _ _ (by show p2.toArray.size ≤ _; simp; omega)).mono ?_; rintro e w4 ⟨rfl, hq⟩; rw [trimB 112 p2 _ (by first | rfl | decide)]; have hbR : Below wr.drew.heap.size wr.drew w4 := (by rw [hq]; exact Below.refl _ _); clear hq)
            | (go_at_call 11; refine (implReadDecimal_any (mkB (trimN 112 p2)) _ (by show (trimN 112 p2).toArray.size ≤ _; have := trimN_len 112 p2; simp; omega) (by first | exact HT.out.bel hbel.drew | exact HT.out.bel (‹_ ∧ _ ∧ _ ∧ _ ∧ _ ∧ Below _ _ _›).2.2.2.2.2) (by first | exact HR.out.bel hbel.drew | exact HR.out.bel (‹_ ∧ _ ∧ _ ∧ _ ∧ _ ∧ Below _ _ _›).2.2.2.2.2)).mono ?_; rintro e w5 ⟨rfl, hbR⟩; rw [K2.out]))
        clear XB XP XR' XF hbel z0 z1 z2 z3 z4 z5 z6 z7 q0 q1 q2 q3 f0 f1 f2 f3 g0 g1 g2 g3 g4 g5 g6 g7 hlt2
        obtain ⟨-, XB, XP, XR', XF, hbel⟩ := ‹_ ∧ _ ∧ _ ∧ _ ∧ _ ∧ _›
        obtain ⟨z0, z1, z2, z3, z4, z5, z6, z7⟩ := XB.out.c4
        obtain ⟨g0, g1, g2, g3, g4, g5, g6, g7⟩ := XR'.out.c4
        have hlt0 := XB.out.lt
        cases b2
        · have E : Hid (readR s = none) := FIN.out.1 (by have h := XO.out; revert h; simp [rB])
          clear FIN
          go_wp2_with fail
          have DB : Below w.heap.size w ((((w5.setCell ⟨w.heap.size, 0, none⟩ (.int .i64 0)).setCell ⟨w.heap.size, 1, none⟩ (.int .i64 0)).setCell ⟨w.heap.size, 2, none⟩ (.int .i64 0)).setCell ⟨w.heap.size, 3, none⟩ (.int .i64 0)) := ((((hbel.setCell (Nat.le_refl _) _).setCell (Nat.le_refl _) _).setCell (Nat.le_refl _) _).setCell (Nat.le_refl _) _)
          have R : Blk ((((w5.setCell ⟨w.heap.size, 0, none⟩ (.int .i64 0)).setCell ⟨w.heap.size, 1, none⟩ (.int .i64 0)).setCell ⟨w.heap.size, 2, none⟩ (.int .i64 0)).setCell ⟨w.heap.size, 3, none⟩ (.int .i64 0)) w.heap.size 28 #[.int .i64 0, .int .i64 0, .int .i64 0, .int .i64 0] := ((((XB.out.set_ 0 (.int .i64 0)).set_ 1 (.int .i64 0)).set_ 2 (.int .i64 0)).set_ 3 (.int .i64 0))
          obtain ⟨W4, hW⟩ : ∃ W4, ((((w5.setCell ⟨w.heap.size, 0, none⟩ (.int .i64 0)).setCell ⟨w.heap.size, 1, none⟩ (.int .i64 0)).setCell ⟨w.heap.size, 2, none⟩ (.int .i64 0)).setCell ⟨w.heap.size, 3, none⟩ (.int .i64 0)) = W4 := ⟨_, rfl⟩
          rw [hW] at DB R ⊢
          obtain ⟨k0, k1, k2, k3, -⟩ := R.c4
          clear hW R
          refine bodyPost_ret (v := .tuple #[.agg #[.int .i64 0, .int .i64 0, .int .i64 0, .int .i64 0], .bool false]) (by simp [results, Tryd.results15, go_sem, k0, k1, k2, k3]) rfl ?_
          rw [E.out]
          exact ⟨rfl, DB⟩
        · have XO' : Hid (rB b0 b1 true b3 3 = true) := by have h := XO.out; revert h; show _ → _ = _; simp [rB]
          go_wp2_with fail
          go_roundw
          case rel => exact ⟨3, by go_num, by omega, XB.out.far (by simp) _, XP.out.far (by simp) _, XR'.out.set_ 2 (.int .i64 v2), XF.out.far (by simp) _, XO', hbel.setCell (by simp) _⟩
          case measure => simp [intOf]
      by_cases hi3 : i = 3
      · subst hi3
        rw [show ((3 : Nat) : Int) = (3 : Int) from rfl]
        have XR' : Hid (Blk wr (w.heap.size + 2) 28 #[.int .i64 v0, .int .i64 v1, .int .i64 v2, .int .i64 0]) := XR
        obtain ⟨g0, g1, g2, g3, g4, g5, g6, g7⟩ := XR'.out.c4
        have hlt2 := XR'.out.lt
        clear XR
        have hsl := sl3
        have hsz4 : (⟨#[109, 103, 112, 98]⟩ : ByteArray).size = 4 := rfl
        have hw1 : IntKind.i64.wrap ((3 : Int) + 1) = 4 := by decide
        have hw2 : IntKind.i64.wrap (4 : Int) = 4 := by decide
        go_wp2_with fail
        go_region_held3 (fun w' => w'.cell? ⟨w.heap.size + 1, 3, none⟩ = some (.string (mkB p3)) ∧ Hid (Blk w' w.heap.size 28 #[.int .i64 0, .int .i64 0, .int .i64 0, .int .i64 0]) ∧ Hid (Blk w' (w.heap.size + 1) 9 #[.string (mkB p0), .string (mkB p1), .string (mkB p2), .string (mkB p3)]) ∧ Hid (Blk w' (w.heap.size + 2) 28 #[.int .i64 v0, .int .i64 v1, .int .i64 v2, .int .i64 0]) ∧ Hid (Blk w' (w.heap.size + 3) 65 #[.pointer (some ⟨w.heap.size + 2, 0, none⟩), .pointer (some ⟨w.heap.size + 2, 1, none⟩), .pointer (some ⟨w.heap.size + 2, 2, none⟩), .pointer (some ⟨w.heap.size + 2, 3, none⟩)]) ∧ Below w.heap.size w w')
          (first
            | (exact ⟨q3, XB, XP, XR', XF, hbel.drew⟩)
            | (have hS := ‹_ ∧ _ ∧ _ ∧ _ ∧ _ ∧ _›; exact ⟨bel_cell hbR hS.1, hid_blk hS.2.1 hbR, hid_blk hS.2.2.1 hbR, hid_blk hS.2.2.2.1 hbR, hid_blk hS.2.2.2.2.1 hbR, bel_next hS.2.2.2.2.2 hbR⟩))
          (first
            | (go_at_call 43; refine (Tryd.strings_TrimSuffix (mkB p3) _ _ (by show p3.toArray.size ≤ _; simp; omega)).mono ?_; rintro e w4 ⟨rfl, hq⟩; rw [trimB 98 p3 _ (by first | rfl | decide)]; have hbR : Below wr.drew.heap.size wr.drew w4 := (by rw [hq]; exact Below.refl _ _); clear hq)
            | (go_at_call 11; refine (implReadDecimal_any (mkB (trimN 98 p3)) _ (by show (trimN 98 p3).toArray.size ≤ _; have := trimN_len 98 p3; simp; omega) (by first | exact HT.out.bel hbel.drew | exact HT.out.bel (‹_ ∧ _ ∧ _ ∧ _ ∧ _ ∧ Below _ _ _›).2.2.2.2.2) (by first | exact HR.out.bel hbel.drew | exact HR.out.bel (‹_ ∧ _ ∧ _ ∧ _ ∧ _ ∧ Below _ _ _›).2.2.2.2.2)).mono ?_; rintro e w5 ⟨rfl, hbR⟩; rw [K3.out]))
        clear XB XP XR' XF hbel z0 z1 z2 z3 z4 z5 z6 z7 q0 q1 q2 q3 f0 f1 f2 f3 g0 g1 g2 g3 g4 g5 g6 g7 hlt2
        obtain ⟨-, XB, XP, XR', XF, hbel⟩ := ‹_ ∧ _ ∧ _ ∧ _ ∧ _ ∧ _›
        obtain ⟨z0, z1, z2, z3, z4, z5, z6, z7⟩ := XB.out.c4
        obtain ⟨g0, g1, g2, g3, g4, g5, g6, g7⟩ := XR'.out.c4
        have hlt0 := XB.out.lt
        cases b3
        · have E : Hid (readR s = none) := FIN.out.1 (by have h := XO.out; revert h; simp [rB])
          clear FIN
          go_wp2_with fail
          have DB : Below w.heap.size w ((((w5.setCell ⟨w.heap.size, 0, none⟩ (.int .i64 0)).setCell ⟨w.heap.size, 1, none⟩ (.int .i64 0)).setCell ⟨w.heap.size, 2, none⟩ (.int .i64 0)).setCell ⟨w.heap.size, 3, none⟩ (.int .i64 0)) := ((((hbel.setCell (Nat.le_refl _) _).setCell (Nat.le_refl _) _).setCell (Nat.le_refl _) _).setCell (Nat.le_refl _) _)
          have R : Blk ((((w5.setCell ⟨w.heap.size, 0, none⟩ (.int .i64 0)).setCell ⟨w.heap.size, 1, none⟩ (.int .i64 0)).setCell ⟨w.heap.size, 2, none⟩ (.int .i64 0)).setCell ⟨w.heap.size, 3, none⟩ (.int .i64 0)) w.heap.size 28 #[.int .i64 0, .int .i64 0, .int .i64 0, .int .i64 0] := ((((XB.out.set_ 0 (.int .i64 0)).set_ 1 (.int .i64 0)).set_ 2 (.int .i64 0)).set_ 3 (.int .i64 0))
          obtain ⟨W4, hW⟩ : ∃ W4, ((((w5.setCell ⟨w.heap.size, 0, none⟩ (.int .i64 0)).setCell ⟨w.heap.size, 1, none⟩ (.int .i64 0)).setCell ⟨w.heap.size, 2, none⟩ (.int .i64 0)).setCell ⟨w.heap.size, 3, none⟩ (.int .i64 0)) = W4 := ⟨_, rfl⟩
          rw [hW] at DB R ⊢
          obtain ⟨k0, k1, k2, k3, -⟩ := R.c4
          clear hW R
          refine bodyPost_ret (v := .tuple #[.agg #[.int .i64 0, .int .i64 0, .int .i64 0, .int .i64 0], .bool false]) (by simp [results, Tryd.results15, go_sem, k0, k1, k2, k3]) rfl ?_
          rw [E.out]
          exact ⟨rfl, DB⟩
        · have XO' : Hid (rB b0 b1 b2 true 4 = true) := by have h := XO.out; revert h; show _ → _ = _; simp [rB]
          go_wp2_with fail
          go_roundw
          case rel => exact ⟨4, by go_num, by omega, XB.out.far (by simp) _, XP.out.far (by simp) _, XR'.out.set_ 3 (.int .i64 v3), XF.out.far (by simp) _, XO', hbel.setCell (by simp) _⟩
          case measure => simp [intOf]
      have hi4 : i = 4 := by omega
      subst hi4
      have XR' : Hid (Blk wr (w.heap.size + 2) 28 #[.int .i64 v0, .int .i64 v1, .int .i64 v2, .int .i64 v3]) := XR
      obtain ⟨g0, g1, g2, g3, g4, g5, g6, g7⟩ := XR'.out.c4
      have E0 := FIN.out.2 XO.out
      clear FIN XP XF XR q0 q1 q2 q3 f0 f1 f2 f3
      go_wp2_with fail
      refine (implRideText_any v0 v1 v2 v3 _ (HT.out.bel hbel)).mono ?_
      rintro e w6 ⟨rfl, hb6⟩
      have XB6 := hid_blk XB hb6
      have XR6 := hid_blk XR' hb6
      have D6 := bel_next hbel hb6
      clear z0 z1 z2 z3 z4 z5 z6 z7 g0 g1 g2 g3 g4 g5 g6 g7 hb6 XB XR' hbel
      obtain ⟨z0, z1, z2, z3, z4, z5, z6, z7⟩ := XB6.out.c4
      obtain ⟨g0, g1, g2, g3, g4, g5, g6, g7⟩ := XR6.out.c4
      by_cases heq : rideTx v0 v1 v2 v3 = s
      · have E : Hid (readR s = some (v0, v1, v2, v3)) := by show _ = _; rw [E0.out, if_pos heq]
        have HEQ := Lib.hid heq
        rw [HEQ.out]
        clear E0 heq
        go_wp2_with fail
        have DB : Below w.heap.size w ((((w6.setCell ⟨w.heap.size, 0, none⟩ (.int .i64 v0)).setCell ⟨w.heap.size, 1, none⟩ (.int .i64 v1)).setCell ⟨w.heap.size, 2, none⟩ (.int .i64 v2)).setCell ⟨w.heap.size, 3, none⟩ (.int .i64 v3)) := ((((D6.setCell (Nat.le_refl _) _).setCell (Nat.le_refl _) _).setCell (Nat.le_refl _) _).setCell (Nat.le_refl _) _)
        have R : Blk ((((w6.setCell ⟨w.heap.size, 0, none⟩ (.int .i64 v0)).setCell ⟨w.heap.size, 1, none⟩ (.int .i64 v1)).setCell ⟨w.heap.size, 2, none⟩ (.int .i64 v2)).setCell ⟨w.heap.size, 3, none⟩ (.int .i64 v3)) w.heap.size 28 #[.int .i64 v0, .int .i64 v1, .int .i64 v2, .int .i64 v3] := ((((XB6.out.set_ 0 (.int .i64 v0)).set_ 1 (.int .i64 v1)).set_ 2 (.int .i64 v2)).set_ 3 (.int .i64 v3))
        obtain ⟨W4, hW⟩ : ∃ W4, ((((w6.setCell ⟨w.heap.size, 0, none⟩ (.int .i64 v0)).setCell ⟨w.heap.size, 1, none⟩ (.int .i64 v1)).setCell ⟨w.heap.size, 2, none⟩ (.int .i64 v2)).setCell ⟨w.heap.size, 3, none⟩ (.int .i64 v3)) = W4 := ⟨_, rfl⟩
        rw [hW] at DB R ⊢
        obtain ⟨k0, k1, k2, k3, -⟩ := R.c4
        clear hW R
        refine bodyPost_ret (v := .tuple #[.agg #[.int .i64 v0, .int .i64 v1, .int .i64 v2, .int .i64 v3], .bool true]) (by simp [results, Tryd.results15, go_sem, k0, k1, k2, k3]) rfl ?_
        rw [E.out]
        exact ⟨rfl, DB⟩
      · have E : Hid (readR s = none) := by show _ = _; rw [E0.out, if_neg heq]
        have hq1 := beqD_no heq
        obtain ⟨T, hT⟩ : ∃ T, rideTx v0 v1 v2 v3 = T := ⟨_, rfl⟩
        rw [hT] at hq1 ⊢
        have hq2 : (T.toList != s.toList) = true := by rw [bne, hq1]; rfl
        clear E0 heq hT
        go_wp2_with fail
        have DB : Below w.heap.size w ((((w6.setCell ⟨w.heap.size, 0, none⟩ (.int .i64 0)).setCell ⟨w.heap.size, 1, none⟩ (.int .i64 0)).setCell ⟨w.heap.size, 2, none⟩ (.int .i64 0)).setCell ⟨w.heap.size, 3, none⟩ (.int .i64 0)) := ((((D6.setCell (Nat.le_refl _) _).setCell (Nat.le_refl _) _).setCell (Nat.le_refl _) _).setCell (Nat.le_refl _) _)
        have R : Blk ((((w6.setCell ⟨w.heap.size, 0, none⟩ (.int .i64 0)).setCell ⟨w.heap.size, 1, none⟩ (.int .i64 0)).setCell ⟨w.heap.size, 2, none⟩ (.int .i64 0)).setCell ⟨w.heap.size, 3, none⟩ (.int .i64 0)) w.heap.size 28 #[.int .i64 0, .int .i64 0, .int .i64 0, .int .i64 0] := ((((XB6.out.set_ 0 (.int .i64 0)).set_ 1 (.int .i64 0)).set_ 2 (.int .i64 0)).set_ 3 (.int .i64 0))
        obtain ⟨W4, hW⟩ : ∃ W4, ((((w6.setCell ⟨w.heap.size, 0, none⟩ (.int .i64 0)).setCell ⟨w.heap.size, 1, none⟩ (.int .i64 0)).setCell ⟨w.heap.size, 2, none⟩ (.int .i64 0)).setCell ⟨w.heap.size, 3, none⟩ (.int .i64 0)) = W4 := ⟨_, rfl⟩
        rw [hW] at DB R ⊢
        obtain ⟨k0, k1, k2, k3, -⟩ := R.c4
        clear hW R
        refine bodyPost_ret (v := .tuple #[.agg #[.int .i64 0, .int .i64 0, .int .i64 0, .int .i64 0], .bool false]) (by simp [results, Tryd.results15, go_sem, k0, k1, k2, k3]) rfl ?_
        rw [E.out]
        exact ⟨rfl, DB⟩
  · have E := HN h4
    have h4' : ((l.length : Int) == 4) = false := by rw [beq_eq_false_iff_ne]; omega
    obtain ⟨z0, z1, z2, z3, z4, z5, z6, z7⟩ := RB1.out.c4
    clear HN HY
    go_wp2_with fail
    have DB : Below w.heap.size w ((((w1.setCell ⟨w.heap.size, 0, none⟩ (.int .i64 0)).setCell ⟨w.heap.size, 1, none⟩ (.int .i64 0)).setCell ⟨w.heap.size, 2, none⟩ (.int .i64 0)).setCell ⟨w.heap.size, 3, none⟩ (.int .i64 0)) := ((((D.setCell (Nat.le_refl _) _).setCell (Nat.le_refl _) _).setCell (Nat.le_refl _) _).setCell (Nat.le_refl _) _)
    have R : Blk ((((w1.setCell ⟨w.heap.size, 0, none⟩ (.int .i64 0)).setCell ⟨w.heap.size, 1, none⟩ (.int .i64 0)).setCell ⟨w.heap.size, 2, none⟩ (.int .i64 0)).setCell ⟨w.heap.size, 3, none⟩ (.int .i64 0)) w.heap.size 28 #[.int .i64 0, .int .i64 0, .int .i64 0, .int .i64 0] := ((((RB1.out.set_ 0 (.int .i64 0)).set_ 1 (.int .i64 0)).set_ 2 (.int .i64 0)).set_ 3 (.int .i64 0))
    obtain ⟨W4, hW⟩ : ∃ W4, ((((w1.setCell ⟨w.heap.size, 0, none⟩ (.int .i64 0)).setCell ⟨w.heap.size, 1, none⟩ (.int .i64 0)).setCell ⟨w.heap.size, 2, none⟩ (.int .i64 0)).setCell ⟨w.heap.size, 3, none⟩ (.int .i64 0)) = W4 := ⟨_, rfl⟩
    rw [hW] at DB R ⊢
    obtain ⟨k0, k1, k2, k3, -⟩ := R.c4
    clear hW R
    refine bodyPost_ret (v := .tuple #[.agg #[.int .i64 0, .int .i64 0, .int .i64 0, .int .i64 0], .bool false]) (by simp [results, Tryd.results15, go_sem, k0, k1, k2, k3]) rfl ?_
    rw [E.out]
    exact ⟨rfl, DB⟩

end Go.Proofs.YtlblnknglplgjaaDoor
