/-
  CONTRACTS: the ride that a text spells, the specification's way.
-/
import Derived.Test.YtlblnknglplgjaaDoorRRideP
import Derived.Test.YtlblnknglplgjaaDoorReadD
import Derived.Test.YtlblnknglplgjaaDoorSplitW
import Derived.Test.YtlblnknglplgjaaDoorRideD
import Derived.Test.YtlblnknglplgjaaDoorRideT
namespace Go.Proofs.YtlblnknglplgjaaDoor
open Go.RowKit

def unitD (u : UInt8) (t : ByteArray) : Int × Bool := resO (unitN u t.data.toList)
theorem last_at {t : ByteArray} (h : 0 < t.size) : t.data.toList.getLast? = some (t[t.size - 1]) := by
  have h1 : t.data.toList.length = t.size := by simp
  rw [List.getLast?_eq_getElem?, List.getElem?_eq_getElem (by omega)]
  congr 1
theorem cut_last {t : ByteArray} (_ : 0 < t.size) : (t.extract 0 (t.size - 1)).data.toList = t.data.toList.dropLast := by
  rw [ByteArray.data_extract, Array.toList_extract, List.extract_eq_take_drop, List.drop_zero, List.dropLast_eq_take]
  have h1 : t.data.toList.length = t.size := by simp
  rw [h1, Nat.sub_zero]

set_option maxHeartbeats 2000000 in
set_option maxRecDepth 100000 in
theorem l03Unit_any (t : ByteArray) (u : UInt8) (w : World) (hs : t.size ≤ 1048576) :
    Calls Tryd.prog 40 #[.string t, .int .u8 u.toNat] w (Ret w (.tuple #[.int .i64 (unitD u t).1, .bool (unitD u t).2])) := by
  rcases Nat.eq_zero_or_pos t.size with h0 | h0
  · have hl : t.data.toList = [] := List.eq_nil_of_length_eq_zero (by simpa using h0)
    have E : Hid (unitD u t = (0, false)) := by show _ = _; unfold unitD unitN; rw [hl]; rfl
    obtain rfl : t = ByteArray.empty := ByteArray.ext (Array.toList_inj.1 (by rw [hl]; rfl))
    clear h0 hl hs
    go_enter Tryd.func40, Tryd.ntmps40
    go_wp2_with fail
    refine bodyPost_ret (v := .tuple #[.int .i64 0, .bool false]) (by simp [results, Tryd.results40, go_sem]) rfl ?_
    rw [E.out]
    exact ⟨rfl, Below.refl _ _⟩
  · obtain ⟨ne1, ne2⟩ := emptyD (s := t) (by omega)
    have hla := last_at h0
    have hcl := cut_last h0
    by_cases hu : t[t.size - 1] = u
    · have hb : ((t[t.size - 1].toNat : Int) == (u.toNat : Int)) = true := by rw [hu]; simp
      have E : Hid (unitD u t = readD (t.extract 0 (t.size - 1))) := by
        show _ = _
        unfold unitD unitN readD
        rw [hla, if_pos (by rw [hu]), hcl]
      have hsz : (t.extract 0 (t.size - 1)).size ≤ 1048576 := by simp; omega
      have HSZ := Lib.hid hsz
      clear hla hcl hu hsz
      go_enter Tryd.func40, Tryd.ntmps40
      go_wp2_with fail
      refine (l01Number_any _ _ HSZ.out).mono ?_
      rintro e w2 ⟨rfl, hb2⟩
      rw [← E.out]
      go_wp2_with fail
      refine bodyPost_ret (v := .tuple #[.int .i64 (unitD u t).1, .bool (unitD u t).2]) (by simp [results, Tryd.results40, go_sem]) rfl ?_
      exact ⟨rfl, hb2⟩
    · have hb : ((t[t.size - 1].toNat : Int) == (u.toNat : Int)) = false := by rw [u8_ne_int]; simp [hu]
      have hb2 : ((t[t.size - 1].toNat : Int) != (u.toNat : Int)) = true := by rw [bne, hb]; rfl
      have E : Hid (unitD u t = (0, false)) := by
        show _ = _
        unfold unitD unitN
        rw [hla, if_neg (by simpa using hu)]
        rfl
      clear hla hcl hu
      go_enter Tryd.func40, Tryd.ntmps40
      go_wp2_with fail
      refine bodyPost_ret (v := .tuple #[.int .i64 0, .bool false]) (by simp [results, Tryd.results40, go_sem]) rfl ?_
      rw [E.out]
      exact ⟨rfl, Below.refl _ _⟩

def r4 : Option R4 → R4
  | some r => r
  | none => (0, 0, 0, 0)
def ride4V (r : R4) : Value := .agg #[.int .i64 r.1, .int .i64 r.2.1, .int .i64 r.2.2.1, .int .i64 r.2.2.2]
/-- The call returns a ride and whether there is one. -/
def MadeRd (w : World) (o : Option R4) (e : Ending) (w' : World) : Prop := e = .returned (.tuple #[ride4V (r4 o), .bool o.isSome]) ∧ Below w.heap.size w w'
theorem splB_spl (s : ByteArray) : splB 32 s = (spl 32 [] s.data.toList).map mkB := rfl
theorem readR_no {s : ByteArray} (h : (splB 32 s).length ≠ 4) : readR s = none := by
  rw [splB_spl, List.length_map] at h
  unfold readR
  split
  · rename_i hp
    rw [hp] at h
    exact absurd rfl h
  · rfl
theorem four_of {s : ByteArray} (h : (splB 32 s).length = 4) : ∃ p0 p1 p2 p3, spl 32 [] s.data.toList = [p0, p1, p2, p3] := by
  rw [splB_spl, List.length_map] at h
  match spl 32 [] s.data.toList, h with
  | [p0, p1, p2, p3], _ => exact ⟨p0, p1, p2, p3, rfl⟩
theorem resO_ok {o : Option Int} {b : Bool} (h : (resO o).2 = b) : (b = true → o = some (resO o).1) ∧ (b = false → o = none) := by
  cases o with
  | none => simp [resO] at h ⊢; exact h
  | some n => simp [resO] at h ⊢; exact h

set_option maxHeartbeats 4000000 in
set_option maxRecDepth 100000 in
theorem specReadRide_any (s : ByteArray) (w : World) (hs : s.size ≤ 1048576) :
    Calls Tryd.prog 14 #[.string s] w (MadeRd w (readR s)) := by
  have HN : (splB 32 s).length ≠ 4 → Hid (readR s = none) := readR_no
  have HY : (splB 32 s).length = 4 → ∃ p0 p1 p2 p3, Hid (splB 32 s = [mkB p0, mkB p1, mkB p2, mkB p3]) ∧ Hid (readR s = keepV (ride4 (unitN 109 p0) (unitN 103 p1) (unitN 112 p2) (unitN 98 p3))) ∧ p0.length ≤ 1048576 ∧ p1.length ≤ 1048576 ∧ p2.length ≤ 1048576 ∧ p3.length ≤ 1048576 := by
    intro h
    obtain ⟨p0, p1, p2, p3, hp⟩ := four_of h
    have hc := congrArg List.length (spl_cat 32 s.data.toList [])
    rw [hp] at hc
    have e0 : s.data.toList.length = s.size := by simp
    simp only [cat, List.length_append, List.length_cons, List.nil_append] at hc
    refine ⟨p0, p1, p2, p3, by show _ = _; rw [splB_spl, hp]; rfl, by show _ = _; unfold readR; rw [hp], by omega, by omega, by omega, by omega⟩
  obtain ⟨l, hl⟩ : ∃ l, splB 32 s = l := ⟨_, rfl⟩
  have HL := Lib.hid hl
  rw [hl] at HN HY
  clear hl
  go_enter Tryd.func14, Tryd.ntmps14
  go_wp2_with fail
  refine (l01Split_any s 32 _ hs).mono ?_
  rintro e w1 ⟨A, c, rfl, O1, hb1⟩
  rw [HL.out] at O1 ⊢
  have D : Below w.heap.size w w1 := Below.trans (by go_grown) (hb1.mono (by simp))
  have RB1 : Hid (Blk w1 w.heap.size 28 #[.int .i64 0, .int .i64 0, .int .i64 0, .int .i64 0]) := bel_blk (Blk.new _ _ _) hb1
  clear hb1
  by_cases h4 : l.length = 4
  · obtain ⟨p0, p1, p2, p3, e1, HE, y0, y1, y2, y3⟩ := HY h4
    obtain rfl := e1.out
    obtain ⟨g, rfl, hgb, hglt, -, hc⟩ := own_at O1 (by simp)
    have key : ∀ u p, ∃ v b, Hid (unitD u (mkB p) = (v, b)) ∧ (b = true → unitN u p = some v) ∧ (b = false → unitN u p = none) := by
      intro u p
      have e2 : unitD u (mkB p) = resO (unitN u p) := rfl
      cases h : unitN u p with
      | none => exact ⟨0, false, by show _ = _; rw [e2, h]; rfl, by simp, by simp⟩
      | some n => exact ⟨n, true, by show _ = _; rw [e2, h]; rfl, by simp, by simp⟩
    obtain ⟨v0, b0, K0, m0⟩ := key 109 p0
    obtain ⟨v1, b1, K1, m1⟩ := key 103 p1
    obtain ⟨v2, b2, K2, m2⟩ := key 112 p2
    obtain ⟨v3, b3, K3, m3⟩ := key 98 p3
    have hv0 : w1.cell? ⟨g, 0, none⟩ = some (.string (mkB p0)) := hc 0 (by simp)
    have hv1 : w1.cell? ⟨g, 1, none⟩ = some (.string (mkB p1)) := hc 1 (by simp)
    have hv2 : w1.cell? ⟨g, 2, none⟩ = some (.string (mkB p2)) := hc 2 (by simp)
    have hv3 : w1.cell? ⟨g, 3, none⟩ = some (.string (mkB p3)) := hc 3 (by simp)
    clear key hc O1 HN HY h4 e1
    go_wp2_with fail
    refine (l03Unit_any (mkB p0) 109 _ (by show p0.toArray.size ≤ _; simp; omega)).mono ?_
    rintro e w2 ⟨rfl, hb⟩
    rw [K0.out]
    have hv1 := bel_cell hb hv1
    have hv2 := bel_cell hb hv2
    have hv3 := bel_cell hb hv3
    have RB2 := hid_blk RB1 hb
    have D := bel_next D hb
    clear hb hv0 RB1
    go_wp2_with fail
    refine (l03Unit_any (mkB p1) 103 _ (by show p1.toArray.size ≤ _; simp; omega)).mono ?_
    rintro e w3 ⟨rfl, hb⟩
    rw [K1.out]
    have hv2 := bel_cell hb hv2
    have hv3 := bel_cell hb hv3
    have RB3 := hid_blk RB2 hb
    have D := bel_next D hb
    clear hb hv1 RB2
    go_wp2_with fail
    refine (l03Unit_any (mkB p2) 112 _ (by show p2.toArray.size ≤ _; simp; omega)).mono ?_
    rintro e w4 ⟨rfl, hb⟩
    rw [K2.out]
    have hv3 := bel_cell hb hv3
    have RB4 := hid_blk RB3 hb
    have D := bel_next D hb
    clear hb hv2 RB3
    go_wp2_with fail
    refine (l03Unit_any (mkB p3) 98 _ (by show p3.toArray.size ≤ _; simp; omega)).mono ?_
    rintro e w5 ⟨rfl, hb⟩
    rw [K3.out]
    have RB5 := hid_blk RB4 hb
    have D5 := bel_next D hb
    clear hb hv3 RB4 D
    obtain ⟨z0, z1, z2, z3, z4, z5, z6, z7⟩ := RB5.out.c4
    have hlt := RB5.out.lt
    have fin : ∀ b, (b0 && (b1 && (b2 && (b3 && vr v0 v1 v2 v3)))) = b → Hid (readR s = if b then some (v0, v1, v2, v3) else none) := by
      intro b hb
      show _ = _
      rw [HE.out]
      cases b0
      · rw [m0.2 rfl] ; subst hb; rfl
      cases b1
      · rw [m0.1 rfl, m1.2 rfl]; subst hb; rfl
      cases b2
      · rw [m0.1 rfl, m1.1 rfl, m2.2 rfl]; subst hb; rfl
      cases b3
      · rw [m0.1 rfl, m1.1 rfl, m2.1 rfl, m3.2 rfl]; subst hb; rfl
      rw [m0.1 rfl, m1.1 rfl, m2.1 rfl, m3.1 rfl]
      subst hb
      rfl
    have FIN := Lib.hid fin
    clear fin m0 m1 m2 m3 HE
    cases b0
    · have E : Hid (readR s = none) := FIN.out false (by cases vr v0 v1 v2 v3 <;> cases b1 <;> cases b2 <;> cases b3 <;> rfl)
      clear FIN
      go_wp2_with fail
      have DB : Below w.heap.size w ((((w5.setCell ⟨w.heap.size, 0, none⟩ (.int .i64 0)).setCell ⟨w.heap.size, 1, none⟩ (.int .i64 0)).setCell ⟨w.heap.size, 2, none⟩ (.int .i64 0)).setCell ⟨w.heap.size, 3, none⟩ (.int .i64 0)) := ((((D5.setCell (Nat.le_refl _) _).setCell (Nat.le_refl _) _).setCell (Nat.le_refl _) _).setCell (Nat.le_refl _) _)
      have R : Blk ((((w5.setCell ⟨w.heap.size, 0, none⟩ (.int .i64 0)).setCell ⟨w.heap.size, 1, none⟩ (.int .i64 0)).setCell ⟨w.heap.size, 2, none⟩ (.int .i64 0)).setCell ⟨w.heap.size, 3, none⟩ (.int .i64 0)) w.heap.size 28 #[.int .i64 0, .int .i64 0, .int .i64 0, .int .i64 0] := ((((RB5.out.set_ 0 (.int .i64 0)).set_ 1 (.int .i64 0)).set_ 2 (.int .i64 0)).set_ 3 (.int .i64 0))
      replace DB := DB.alloc DB.size (.cells #[.int .i64 v0, .int .i64 v1, .int .i64 v2, .int .i64 v3] 28)
      replace R := R.alloc (.cells #[.int .i64 v0, .int .i64 v1, .int .i64 v2, .int .i64 v3] 28)
      obtain ⟨W4, hW⟩ : ∃ W4, (((((w5.setCell ⟨w.heap.size, 0, none⟩ (.int .i64 0)).setCell ⟨w.heap.size, 1, none⟩ (.int .i64 0)).setCell ⟨w.heap.size, 2, none⟩ (.int .i64 0)).setCell ⟨w.heap.size, 3, none⟩ (.int .i64 0)).alloc (.cells #[.int .i64 v0, .int .i64 v1, .int .i64 v2, .int .i64 v3] 28)) = W4 := ⟨_, rfl⟩
      rw [hW] at DB R ⊢
      obtain ⟨k0, k1, k2, k3, -⟩ := R.c4
      clear hW R
      refine bodyPost_ret (v := .tuple #[.agg #[.int .i64 0, .int .i64 0, .int .i64 0, .int .i64 0], .bool false]) (by simp [results, Tryd.results14, go_sem, k0, k1, k2, k3]) rfl ?_
      rw [E.out]
      exact ⟨rfl, DB⟩
    cases b1
    · have E : Hid (readR s = none) := FIN.out false (by cases vr v0 v1 v2 v3 <;> cases b2 <;> cases b3 <;> rfl)
      clear FIN
      go_wp2_with fail
      have DB : Below w.heap.size w ((((w5.setCell ⟨w.heap.size, 0, none⟩ (.int .i64 0)).setCell ⟨w.heap.size, 1, none⟩ (.int .i64 0)).setCell ⟨w.heap.size, 2, none⟩ (.int .i64 0)).setCell ⟨w.heap.size, 3, none⟩ (.int .i64 0)) := ((((D5.setCell (Nat.le_refl _) _).setCell (Nat.le_refl _) _).setCell (Nat.le_refl _) _).setCell (Nat.le_refl _) _)
      have R : Blk ((((w5.setCell ⟨w.heap.size, 0, none⟩ (.int .i64 0)).setCell ⟨w.heap.size, 1, none⟩ (.int .i64 0)).setCell ⟨w.heap.size, 2, none⟩ (.int .i64 0)).setCell ⟨w.heap.size, 3, none⟩ (.int .i64 0)) w.heap.size 28 #[.int .i64 0, .int .i64 0, .int .i64 0, .int .i64 0] := ((((RB5.out.set_ 0 (.int .i64 0)).set_ 1 (.int .i64 0)).set_ 2 (.int .i64 0)).set_ 3 (.int .i64 0))
      replace DB := DB.alloc DB.size (.cells #[.int .i64 v0, .int .i64 v1, .int .i64 v2, .int .i64 v3] 28)
      replace R := R.alloc (.cells #[.int .i64 v0, .int .i64 v1, .int .i64 v2, .int .i64 v3] 28)
      obtain ⟨W4, hW⟩ : ∃ W4, (((((w5.setCell ⟨w.heap.size, 0, none⟩ (.int .i64 0)).setCell ⟨w.heap.size, 1, none⟩ (.int .i64 0)).setCell ⟨w.heap.size, 2, none⟩ (.int .i64 0)).setCell ⟨w.heap.size, 3, none⟩ (.int .i64 0)).alloc (.cells #[.int .i64 v0, .int .i64 v1, .int .i64 v2, .int .i64 v3] 28)) = W4 := ⟨_, rfl⟩
      rw [hW] at DB R ⊢
      obtain ⟨k0, k1, k2, k3, -⟩ := R.c4
      clear hW R
      refine bodyPost_ret (v := .tuple #[.agg #[.int .i64 0, .int .i64 0, .int .i64 0, .int .i64 0], .bool false]) (by simp [results, Tryd.results14, go_sem, k0, k1, k2, k3]) rfl ?_
      rw [E.out]
      exact ⟨rfl, DB⟩
    cases b2
    · have E : Hid (readR s = none) := FIN.out false (by cases vr v0 v1 v2 v3 <;> cases b3 <;> rfl)
      clear FIN
      go_wp2_with fail
      have DB : Below w.heap.size w ((((w5.setCell ⟨w.heap.size, 0, none⟩ (.int .i64 0)).setCell ⟨w.heap.size, 1, none⟩ (.int .i64 0)).setCell ⟨w.heap.size, 2, none⟩ (.int .i64 0)).setCell ⟨w.heap.size, 3, none⟩ (.int .i64 0)) := ((((D5.setCell (Nat.le_refl _) _).setCell (Nat.le_refl _) _).setCell (Nat.le_refl _) _).setCell (Nat.le_refl _) _)
      have R : Blk ((((w5.setCell ⟨w.heap.size, 0, none⟩ (.int .i64 0)).setCell ⟨w.heap.size, 1, none⟩ (.int .i64 0)).setCell ⟨w.heap.size, 2, none⟩ (.int .i64 0)).setCell ⟨w.heap.size, 3, none⟩ (.int .i64 0)) w.heap.size 28 #[.int .i64 0, .int .i64 0, .int .i64 0, .int .i64 0] := ((((RB5.out.set_ 0 (.int .i64 0)).set_ 1 (.int .i64 0)).set_ 2 (.int .i64 0)).set_ 3 (.int .i64 0))
      replace DB := DB.alloc DB.size (.cells #[.int .i64 v0, .int .i64 v1, .int .i64 v2, .int .i64 v3] 28)
      replace R := R.alloc (.cells #[.int .i64 v0, .int .i64 v1, .int .i64 v2, .int .i64 v3] 28)
      obtain ⟨W4, hW⟩ : ∃ W4, (((((w5.setCell ⟨w.heap.size, 0, none⟩ (.int .i64 0)).setCell ⟨w.heap.size, 1, none⟩ (.int .i64 0)).setCell ⟨w.heap.size, 2, none⟩ (.int .i64 0)).setCell ⟨w.heap.size, 3, none⟩ (.int .i64 0)).alloc (.cells #[.int .i64 v0, .int .i64 v1, .int .i64 v2, .int .i64 v3] 28)) = W4 := ⟨_, rfl⟩
      rw [hW] at DB R ⊢
      obtain ⟨k0, k1, k2, k3, -⟩ := R.c4
      clear hW R
      refine bodyPost_ret (v := .tuple #[.agg #[.int .i64 0, .int .i64 0, .int .i64 0, .int .i64 0], .bool false]) (by simp [results, Tryd.results14, go_sem, k0, k1, k2, k3]) rfl ?_
      rw [E.out]
      exact ⟨rfl, DB⟩
    cases b3
    · have E : Hid (readR s = none) := FIN.out false (by cases vr v0 v1 v2 v3 <;> rfl)
      clear FIN
      go_wp2_with fail
      have DB : Below w.heap.size w ((((w5.setCell ⟨w.heap.size, 0, none⟩ (.int .i64 0)).setCell ⟨w.heap.size, 1, none⟩ (.int .i64 0)).setCell ⟨w.heap.size, 2, none⟩ (.int .i64 0)).setCell ⟨w.heap.size, 3, none⟩ (.int .i64 0)) := ((((D5.setCell (Nat.le_refl _) _).setCell (Nat.le_refl _) _).setCell (Nat.le_refl _) _).setCell (Nat.le_refl _) _)
      have R : Blk ((((w5.setCell ⟨w.heap.size, 0, none⟩ (.int .i64 0)).setCell ⟨w.heap.size, 1, none⟩ (.int .i64 0)).setCell ⟨w.heap.size, 2, none⟩ (.int .i64 0)).setCell ⟨w.heap.size, 3, none⟩ (.int .i64 0)) w.heap.size 28 #[.int .i64 0, .int .i64 0, .int .i64 0, .int .i64 0] := ((((RB5.out.set_ 0 (.int .i64 0)).set_ 1 (.int .i64 0)).set_ 2 (.int .i64 0)).set_ 3 (.int .i64 0))
      replace DB := DB.alloc DB.size (.cells #[.int .i64 v0, .int .i64 v1, .int .i64 v2, .int .i64 v3] 28)
      replace R := R.alloc (.cells #[.int .i64 v0, .int .i64 v1, .int .i64 v2, .int .i64 v3] 28)
      obtain ⟨W4, hW⟩ : ∃ W4, (((((w5.setCell ⟨w.heap.size, 0, none⟩ (.int .i64 0)).setCell ⟨w.heap.size, 1, none⟩ (.int .i64 0)).setCell ⟨w.heap.size, 2, none⟩ (.int .i64 0)).setCell ⟨w.heap.size, 3, none⟩ (.int .i64 0)).alloc (.cells #[.int .i64 v0, .int .i64 v1, .int .i64 v2, .int .i64 v3] 28)) = W4 := ⟨_, rfl⟩
      rw [hW] at DB R ⊢
      obtain ⟨k0, k1, k2, k3, -⟩ := R.c4
      clear hW R
      refine bodyPost_ret (v := .tuple #[.agg #[.int .i64 0, .int .i64 0, .int .i64 0, .int .i64 0], .bool false]) (by simp [results, Tryd.results14, go_sem, k0, k1, k2, k3]) rfl ?_
      rw [E.out]
      exact ⟨rfl, DB⟩
    cases hvr : vr v0 v1 v2 v3
    · have E : Hid (readR s = none) := FIN.out false (by rw [hvr]; rfl)
      clear FIN
      go_wp2_with (go_at_call 41; refine (l03Ok_any _ 0 v0 v1 v2 v3 _ ⟨by go_cell, by go_cell, by go_cell, by go_cell⟩).mono ?_; rintro e w6 ⟨rfl, hq⟩; obtain rfl := hq.symm; rw [hvr])
      have DB : Below w.heap.size w ((((w5.setCell ⟨w.heap.size, 0, none⟩ (.int .i64 0)).setCell ⟨w.heap.size, 1, none⟩ (.int .i64 0)).setCell ⟨w.heap.size, 2, none⟩ (.int .i64 0)).setCell ⟨w.heap.size, 3, none⟩ (.int .i64 0)) := ((((D5.setCell (Nat.le_refl _) _).setCell (Nat.le_refl _) _).setCell (Nat.le_refl _) _).setCell (Nat.le_refl _) _)
      have R : Blk ((((w5.setCell ⟨w.heap.size, 0, none⟩ (.int .i64 0)).setCell ⟨w.heap.size, 1, none⟩ (.int .i64 0)).setCell ⟨w.heap.size, 2, none⟩ (.int .i64 0)).setCell ⟨w.heap.size, 3, none⟩ (.int .i64 0)) w.heap.size 28 #[.int .i64 0, .int .i64 0, .int .i64 0, .int .i64 0] := ((((RB5.out.set_ 0 (.int .i64 0)).set_ 1 (.int .i64 0)).set_ 2 (.int .i64 0)).set_ 3 (.int .i64 0))
      replace DB := DB.alloc DB.size (.cells #[.int .i64 v0, .int .i64 v1, .int .i64 v2, .int .i64 v3] 28)
      replace R := R.alloc (.cells #[.int .i64 v0, .int .i64 v1, .int .i64 v2, .int .i64 v3] 28)
      obtain ⟨W4, hW⟩ : ∃ W4, (((((w5.setCell ⟨w.heap.size, 0, none⟩ (.int .i64 0)).setCell ⟨w.heap.size, 1, none⟩ (.int .i64 0)).setCell ⟨w.heap.size, 2, none⟩ (.int .i64 0)).setCell ⟨w.heap.size, 3, none⟩ (.int .i64 0)).alloc (.cells #[.int .i64 v0, .int .i64 v1, .int .i64 v2, .int .i64 v3] 28)) = W4 := ⟨_, rfl⟩
      rw [hW] at DB R ⊢
      obtain ⟨k0, k1, k2, k3, -⟩ := R.c4
      clear hW R
      refine bodyPost_ret (v := .tuple #[.agg #[.int .i64 0, .int .i64 0, .int .i64 0, .int .i64 0], .bool false]) (by simp [results, Tryd.results14, go_sem, k0, k1, k2, k3]) rfl ?_
      rw [E.out]
      exact ⟨rfl, DB⟩
    · have E : Hid (readR s = some (v0, v1, v2, v3)) := FIN.out true (by rw [hvr]; rfl)
      clear FIN
      go_wp2_with (go_at_call 41; refine (l03Ok_any _ 0 v0 v1 v2 v3 _ ⟨by go_cell, by go_cell, by go_cell, by go_cell⟩).mono ?_; rintro e w6 ⟨rfl, hq⟩; obtain rfl := hq.symm; rw [hvr])
      have DB : Below w.heap.size w ((((w5.setCell ⟨w.heap.size, 0, none⟩ (.int .i64 v0)).setCell ⟨w.heap.size, 1, none⟩ (.int .i64 v1)).setCell ⟨w.heap.size, 2, none⟩ (.int .i64 v2)).setCell ⟨w.heap.size, 3, none⟩ (.int .i64 v3)) := ((((D5.setCell (Nat.le_refl _) _).setCell (Nat.le_refl _) _).setCell (Nat.le_refl _) _).setCell (Nat.le_refl _) _)
      have R : Blk ((((w5.setCell ⟨w.heap.size, 0, none⟩ (.int .i64 v0)).setCell ⟨w.heap.size, 1, none⟩ (.int .i64 v1)).setCell ⟨w.heap.size, 2, none⟩ (.int .i64 v2)).setCell ⟨w.heap.size, 3, none⟩ (.int .i64 v3)) w.heap.size 28 #[.int .i64 v0, .int .i64 v1, .int .i64 v2, .int .i64 v3] := ((((RB5.out.set_ 0 (.int .i64 v0)).set_ 1 (.int .i64 v1)).set_ 2 (.int .i64 v2)).set_ 3 (.int .i64 v3))
      replace DB := DB.alloc DB.size (.cells #[.int .i64 v0, .int .i64 v1, .int .i64 v2, .int .i64 v3] 28)
      replace R := R.alloc (.cells #[.int .i64 v0, .int .i64 v1, .int .i64 v2, .int .i64 v3] 28)
      obtain ⟨W4, hW⟩ : ∃ W4, (((((w5.setCell ⟨w.heap.size, 0, none⟩ (.int .i64 v0)).setCell ⟨w.heap.size, 1, none⟩ (.int .i64 v1)).setCell ⟨w.heap.size, 2, none⟩ (.int .i64 v2)).setCell ⟨w.heap.size, 3, none⟩ (.int .i64 v3)).alloc (.cells #[.int .i64 v0, .int .i64 v1, .int .i64 v2, .int .i64 v3] 28)) = W4 := ⟨_, rfl⟩
      rw [hW] at DB R ⊢
      obtain ⟨k0, k1, k2, k3, -⟩ := R.c4
      clear hW R
      refine bodyPost_ret (v := .tuple #[.agg #[.int .i64 v0, .int .i64 v1, .int .i64 v2, .int .i64 v3], .bool true]) (by simp [results, Tryd.results14, go_sem, k0, k1, k2, k3]) rfl ?_
      rw [E.out]
      exact ⟨rfl, DB⟩
  · have E := HN h4
    have h4' : ((l.length : Int) == 4) = false := by rw [beq_eq_false_iff_ne]; omega
    obtain ⟨z0, z1, z2, z3, z4, z5, z6, z7⟩ := RB1.out.c4
    clear HN HY O1
    go_wp2_with fail
    have DB : Below w.heap.size w ((((w1.setCell ⟨w.heap.size, 0, none⟩ (.int .i64 0)).setCell ⟨w.heap.size, 1, none⟩ (.int .i64 0)).setCell ⟨w.heap.size, 2, none⟩ (.int .i64 0)).setCell ⟨w.heap.size, 3, none⟩ (.int .i64 0)) := ((((D.setCell (Nat.le_refl _) _).setCell (Nat.le_refl _) _).setCell (Nat.le_refl _) _).setCell (Nat.le_refl _) _)
    have R : Blk ((((w1.setCell ⟨w.heap.size, 0, none⟩ (.int .i64 0)).setCell ⟨w.heap.size, 1, none⟩ (.int .i64 0)).setCell ⟨w.heap.size, 2, none⟩ (.int .i64 0)).setCell ⟨w.heap.size, 3, none⟩ (.int .i64 0)) w.heap.size 28 #[.int .i64 0, .int .i64 0, .int .i64 0, .int .i64 0] := ((((RB1.out.set_ 0 (.int .i64 0)).set_ 1 (.int .i64 0)).set_ 2 (.int .i64 0)).set_ 3 (.int .i64 0))
    obtain ⟨W4, hW⟩ : ∃ W4, ((((w1.setCell ⟨w.heap.size, 0, none⟩ (.int .i64 0)).setCell ⟨w.heap.size, 1, none⟩ (.int .i64 0)).setCell ⟨w.heap.size, 2, none⟩ (.int .i64 0)).setCell ⟨w.heap.size, 3, none⟩ (.int .i64 0)) = W4 := ⟨_, rfl⟩
    rw [hW] at DB R ⊢
    obtain ⟨k0, k1, k2, k3, -⟩ := R.c4
    clear hW R
    refine bodyPost_ret (v := .tuple #[.agg #[.int .i64 0, .int .i64 0, .int .i64 0, .int .i64 0], .bool false]) (by simp [results, Tryd.results14, go_sem, k0, k1, k2, k3]) rfl ?_
    rw [E.out]
    exact ⟨rfl, DB⟩

end Go.Proofs.YtlblnknglplgjaaDoor
