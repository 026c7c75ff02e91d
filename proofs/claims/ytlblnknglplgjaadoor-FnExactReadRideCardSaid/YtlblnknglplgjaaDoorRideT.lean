/-
  CONTRACTS: the text of a ride.
-/
import Derived.Test.YtlblnknglplgjaaDoorDec
import Derived.Test.YtlblnknglplgjaaDoorRideD
namespace Go.Proofs.YtlblnknglplgjaaDoor
open Go.RowKit

def rideT (L W P B : Int) : ByteArray := decT L ++ ⟨#[109, 32]⟩ ++ decT W ++ ⟨#[103, 32]⟩ ++ decT P ++ ⟨#[112, 32]⟩ ++ decT B ++ ⟨#[98]⟩
/-- The text of a ride, or nothing. -/
def rideTx (L W P B : Int) : ByteArray := if vr L W P B then rideT L W P B else ⟨#[]⟩

set_option maxHeartbeats 2000000 in
theorem l03Text_any (b o : Nat) (L W P B : Int) (w : World) (h : RideAt w b o L W P B) (hv : vr L W P B = true) :
    Calls Tryd.prog 44 #[.pointer (some ⟨b, o, none⟩)] w (Ret w (.string (rideT L W P B))) := by
  obtain ⟨v0, v1, v2, v3, v4, v5, v6, v7⟩ := vr_true hv
  obtain ⟨h0, h1, h2, h3⟩ := h
  have z0 := decT_size L (by omega) (by omega)
  have z1 := decT_size W (by omega) (by omega)
  have z2 := decT_size P (by omega) (by omega)
  have z3 := decT_size B (by omega) (by omega)
  have E : Hid (rideT L W P B = decT L ++ ⟨#[109, 32]⟩ ++ decT W ++ ⟨#[103, 32]⟩ ++ decT P ++ ⟨#[112, 32]⟩ ++ decT B ++ ⟨#[98]⟩) := rfl
  obtain ⟨D0, e0⟩ : ∃ D, decT L = D := ⟨_, rfl⟩
  obtain ⟨D1, e1⟩ : ∃ D, decT W = D := ⟨_, rfl⟩
  obtain ⟨D2, e2⟩ : ∃ D, decT P = D := ⟨_, rfl⟩
  obtain ⟨D3, e3⟩ : ∃ D, decT B = D := ⟨_, rfl⟩
  have H0 := Lib.hid e0
  have H1 := Lib.hid e1
  have H2 := Lib.hid e2
  have H3 := Lib.hid e3
  rw [e0, e1, e2, e3] at E
  rw [e0] at z0
  rw [e1] at z1
  rw [e2] at z2
  rw [e3] at z3
  have k1 : ¬ 9223372036854775807 < D0.size + 2 := by omega
  have k2 : ¬ 9223372036854775807 < D0.size + 2 + D1.size := by omega
  have k3 : ¬ 9223372036854775807 < D0.size + 2 + D1.size + 2 := by omega
  have k4 : ¬ 9223372036854775807 < D0.size + 2 + D1.size + 2 + D2.size := by omega
  have k5 : ¬ 9223372036854775807 < D0.size + 2 + D1.size + 2 + D2.size + 2 := by omega
  have k6 : ¬ 9223372036854775807 < D0.size + 2 + D1.size + 2 + D2.size + 2 + D3.size := by omega
  have k7 : ¬ 9223372036854775807 < D0.size + 2 + D1.size + 2 + D2.size + 2 + D3.size + 1 := by omega
  clear e0 e1 e2 e3 hv
  go_enter Tryd.func44, Tryd.ntmps44
  go_wp2_with fail
  go_region_held3 (fun w' => w'.cell? ⟨b, o, none⟩ = some (.int .i64 L) ∧ w'.cell? ⟨b, o + 1, none⟩ = some (.int .i64 W) ∧ w'.cell? ⟨b, o + 2, none⟩ = some (.int .i64 P) ∧ w'.cell? ⟨b, o + 3, none⟩ = some (.int .i64 B) ∧ Below w.heap.size w w')
    (first
      | (exact ⟨h0, h1, h2, h3, by first | exact Below.refl _ _ | go_grown⟩)
      | (have hS := ‹_ ∧ _ ∧ _ ∧ _ ∧ _›; exact ⟨bel_cell hbR hS.1, bel_cell hbR hS.2.1, bel_cell hbR hS.2.2.1, bel_cell hbR hS.2.2.2.1, bel_next hS.2.2.2.2 hbR⟩))
    (first
      | (go_at_call 37; (with_reducible refine (l01Dec_any L _ (by omega) (by omega)).mono ?_); rintro e w5 ⟨rfl, hbR⟩; rw [H0.out])
      | (go_at_call 37; (with_reducible refine (l01Dec_any W _ (by omega) (by omega)).mono ?_); rintro e w5 ⟨rfl, hbR⟩; rw [H1.out])
      | (go_at_call 37; (with_reducible refine (l01Dec_any P _ (by omega) (by omega)).mono ?_); rintro e w5 ⟨rfl, hbR⟩; rw [H2.out])
      | (go_at_call 37; (with_reducible refine (l01Dec_any B _ (by omega) (by omega)).mono ?_); rintro e w5 ⟨rfl, hbR⟩; rw [H3.out]))
  obtain ⟨-, -, -, -, D⟩ := ‹_ ∧ _ ∧ _ ∧ _ ∧ _›
  go_wp2_with fail
  go_ret
  rw [E.out]
  exact ⟨rfl, D⟩

theorem specRideText_any (L W P B : Int) (w : World) :
    Calls Tryd.prog 17 #[.agg #[.int .i64 L, .int .i64 W, .int .i64 P, .int .i64 B]] w (Ret w (.string (rideTx L W P B))) := by
  cases hv : vr L W P B
  · have E : Hid (rideTx L W P B = ⟨#[]⟩) := by show _ = _; simp [rideTx, hv]
    go_enter Tryd.func17, Tryd.ntmps17
    go_wp2_with (go_at_call 41; refine (l03Ok_any _ 0 L W P B _ ⟨by go_cell, by go_cell, by go_cell, by go_cell⟩).mono ?_; rintro e w' ⟨rfl, rfl⟩; rw [hv])
    go_ret
    rw [E.out]
    exact ⟨rfl, by go_grown⟩
  · have E : Hid (rideTx L W P B = rideT L W P B) := by show _ = _; simp [rideTx, hv]
    have HV := Lib.hid hv
    go_enter Tryd.func17, Tryd.ntmps17
    go_wp2_with (go_at_call 41; refine (l03Ok_any _ 0 L W P B _ ⟨by go_cell, by go_cell, by go_cell, by go_cell⟩).mono ?_; rintro e w' ⟨rfl, rfl⟩; rw [hv])
    refine (l03Text_any _ 0 L W P B _ ⟨by go_cell, by go_cell, by go_cell, by go_cell⟩ HV.out).mono ?_
    rintro e w2 ⟨rfl, hb⟩
    go_wp2_with fail
    go_ret
    rw [E.out]
    exact ⟨rfl, Below.trans (by go_grown) (hb.mono (by simp))⟩

set_option maxHeartbeats 2000000 in
theorem implRideText_any (L W P B : Int) (w : World) (ht : Tab w) :
    Calls Tryd.prog 19 #[.agg #[.int .i64 L, .int .i64 W, .int .i64 P, .int .i64 B]] w (Ret w (.string (rideTx L W P B))) := by
  have HT := Lib.hid ht
  clear ht
  cases hv : vr L W P B
  · have E : Hid (rideTx L W P B = ⟨#[]⟩) := by show _ = _; simp [rideTx, hv]
    go_enter Tryd.func19, Tryd.ntmps19
    go_wp2_with fail
    refine (implValidRide_any L W P B _).mono ?_
    rintro e w1 ⟨rfl, hb⟩
    rw [hv]
    have D : Below w.heap.size w w1 := Below.trans (by go_grown) (hb.mono (by simp))
    clear hb
    go_wp2_with fail
    go_ret
    rw [E.out]
    exact ⟨rfl, D⟩
  · have E0 : Hid (rideTx L W P B = rideT L W P B) := by show _ = _; simp [rideTx, hv]
    obtain ⟨v0, v1, v2, v3, v4, v5, v6, v7⟩ := vr_true hv
    have z0 := decT_size L (by omega) (by omega)
    have z1 := decT_size W (by omega) (by omega)
    have z2 := decT_size P (by omega) (by omega)
    have z3 := decT_size B (by omega) (by omega)
    have E : Hid (rideT L W P B = decT L ++ ⟨#[109, 32]⟩ ++ decT W ++ ⟨#[103, 32]⟩ ++ decT P ++ ⟨#[112, 32]⟩ ++ decT B ++ ⟨#[98]⟩) := rfl
    obtain ⟨D0, e0⟩ : ∃ D, decT L = D := ⟨_, rfl⟩
    obtain ⟨D1, e1⟩ : ∃ D, decT W = D := ⟨_, rfl⟩
    obtain ⟨D2, e2⟩ : ∃ D, decT P = D := ⟨_, rfl⟩
    obtain ⟨D3, e3⟩ : ∃ D, decT B = D := ⟨_, rfl⟩
    have H0 := Lib.hid e0
    have H1 := Lib.hid e1
    have H2 := Lib.hid e2
    have H3 := Lib.hid e3
    rw [e0, e1, e2, e3] at E
    rw [e0] at z0
    rw [e1] at z1
    rw [e2] at z2
    rw [e3] at z3
    have k1 : ¬ 9223372036854775807 < D0.size + 2 := by omega
    have k2 : ¬ 9223372036854775807 < D0.size + 2 + D1.size := by omega
    have k3 : ¬ 9223372036854775807 < D0.size + 2 + D1.size + 2 := by omega
    have k4 : ¬ 9223372036854775807 < D0.size + 2 + D1.size + 2 + D2.size := by omega
    have k5 : ¬ 9223372036854775807 < D0.size + 2 + D1.size + 2 + D2.size + 2 := by omega
    have k6 : ¬ 9223372036854775807 < D0.size + 2 + D1.size + 2 + D2.size + 2 + D3.size := by omega
    have k7 : ¬ 9223372036854775807 < D0.size + 2 + D1.size + 2 + D2.size + 2 + D3.size + 1 := by omega
    clear e0 e1 e2 e3
    go_enter Tryd.func19, Tryd.ntmps19
    go_wp2_with fail
    refine (implValidRide_any L W P B _).mono ?_
    rintro e w1 ⟨rfl, hb⟩
    rw [hv]
    have D : Below w.heap.size w w1 := Below.trans (by go_grown) (hb.mono (by simp))
    have HB : Blk w1 w.heap.size 28 #[.int .i64 L, .int .i64 W, .int .i64 P, .int .i64 B] := bel_blk (Blk.new _ _ _) hb
    have h0 : w1.cell? ⟨w.heap.size, 0, none⟩ = some (.int .i64 L) := by rw [HB.cell]; rfl
    have h1 : w1.cell? ⟨w.heap.size, 1, none⟩ = some (.int .i64 W) := by rw [HB.cell]; rfl
    have h2 : w1.cell? ⟨w.heap.size, 2, none⟩ = some (.int .i64 P) := by rw [HB.cell]; rfl
    have h3 : w1.cell? ⟨w.heap.size, 3, none⟩ = some (.int .i64 B) := by rw [HB.cell]; rfl
    clear hb hv HB
    go_wp2_with fail
    go_region_held3 (fun w' => w'.cell? ⟨w.heap.size, 0, none⟩ = some (.int .i64 L) ∧ w'.cell? ⟨w.heap.size, 1, none⟩ = some (.int .i64 W) ∧ w'.cell? ⟨w.heap.size, 2, none⟩ = some (.int .i64 P) ∧ w'.cell? ⟨w.heap.size, 3, none⟩ = some (.int .i64 B) ∧ Below w.heap.size w w')
      (first
        | (exact ⟨h0, h1, h2, h3, by first | exact D | exact D.drew⟩)
        | (have hS := ‹_ ∧ _ ∧ _ ∧ _ ∧ _›; exact ⟨bel_cell hbR hS.1, bel_cell hbR hS.2.1, bel_cell hbR hS.2.2.1, bel_cell hbR hS.2.2.2.1, bel_next hS.2.2.2.2 hbR⟩))
      (first
        | (go_at_call 13; (with_reducible refine (implDec_any L _ (by omega) (by omega) (by first | exact HT.out.bel D.drew | (have hS := ‹_ ∧ _ ∧ _ ∧ _ ∧ _›; exact HT.out.bel hS.2.2.2.2))).mono ?_); rintro e w5 ⟨rfl, hbR⟩; rw [H0.out])
        | (go_at_call 13; (with_reducible refine (implDec_any W _ (by omega) (by omega) (by first | exact HT.out.bel D.drew | (have hS := ‹_ ∧ _ ∧ _ ∧ _ ∧ _›; exact HT.out.bel hS.2.2.2.2))).mono ?_); rintro e w5 ⟨rfl, hbR⟩; rw [H1.out])
        | (go_at_call 13; (with_reducible refine (implDec_any P _ (by omega) (by omega) (by first | exact HT.out.bel D.drew | (have hS := ‹_ ∧ _ ∧ _ ∧ _ ∧ _›; exact HT.out.bel hS.2.2.2.2))).mono ?_); rintro e w5 ⟨rfl, hbR⟩; rw [H2.out])
        | (go_at_call 13; (with_reducible refine (implDec_any B _ (by omega) (by omega) (by first | exact HT.out.bel D.drew | (have hS := ‹_ ∧ _ ∧ _ ∧ _ ∧ _›; exact HT.out.bel hS.2.2.2.2))).mono ?_); rintro e w5 ⟨rfl, hbR⟩; rw [H3.out]))
    clear D
    obtain ⟨-, -, -, -, D⟩ := ‹_ ∧ _ ∧ _ ∧ _ ∧ _›
    go_wp2_with fail
    go_ret
    rw [E0.out, E.out]
    exact ⟨rfl, D⟩

end Go.Proofs.YtlblnknglplgjaaDoor
