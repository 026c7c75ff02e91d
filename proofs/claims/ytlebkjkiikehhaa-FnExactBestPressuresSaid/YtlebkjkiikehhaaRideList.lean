/-
  CONTRACTS on lists of rides.
-/
import Derived.Test.YtlebkjkiikehhaaRide
import Derived.Test.YtlebkjkiikehhaaPlainL
namespace Go.Proofs.Ytlebkjkiikehhaa
open Go.RowKit

theorem At4.ride {w : World} {b o : Nat} {r : Rd} (h : At4 w b o r) : RideAt w b o r.1 r.2.1 r.2.2.1 r.2.2.2 := ⟨h.c0, h.c1, h.c2, h.c3⟩

set_option maxHeartbeats 1000000 in
theorem l03List_any (A : Option Addr) (n c : Nat) (l : List Rd) (w : World) (h : RidesAt w A l) (hl : n = l.length) (hn0 : n ≤ 1048576) :
    Calls Try.prog 64 #[.slice A n c] w (Ret0 w (.bool (validL l))) := by
  have E : Hid (validL l = (decide (n ≤ 8) && l.all vr4)) := by rw [hl]; rfl
  have H := Lib.hid h
  have HL := Lib.hid hl
  clear h hl
  go_enter Try.func64, Try.ntmps64
  go_wp2
  go_loop [3] (fun u => ∃ (i : Nat), u = .int .i64 i ∧ i ≤ n ∧ Hid (l.all vr4 = (l.drop i).all vr4)) (fun u => n - (intOf u).toNat)
  case atStart => exact ⟨0, rfl, by omega, rfl⟩
  case round =>
    obtain ⟨i, rfl, hin, HA⟩ := hrel
    by_cases hlt : i < n
    · obtain ⟨b, o, rfl, hblt, hc⟩ := H.out (by rw [← HL.out]; omega)
      have hil : i < l.length := by rw [← HL.out]; exact hlt
      have HC := Lib.hid (hc i hil)
      clear hc
      have hd := drop_at hil
      cases hv : vr4 l[i]
      · have HS : Hid (l.all vr4 = false) := by show _ = _; rw [HA.out, hd, List.all_cons, hv]; rfl
        clear hd
        have hv' : vr l[i].1 l[i].2.1 l[i].2.2.1 l[i].2.2.2 = false := hv
        clear hv
        go_wp2_with (go_at_call 98; refine (l03Ok_any _ _ _ _ _ _ _ HC.out.ride).mono ?_; rintro e w' ⟨rfl, rfl⟩)
        go_ret
        exact ⟨ret_bool (by rw [E.out, HS.out]; simp), rfl⟩
      · have HS : Hid (l.all vr4 = (l.drop (i + 1)).all vr4) := by show _ = _; rw [HA.out, hd, List.all_cons, hv]; rfl
        clear hd
        have hv' : vr l[i].1 l[i].2.1 l[i].2.2.1 l[i].2.2.2 = true := hv
        clear hv
        go_wp2_with (go_at_call 98; refine (l03Ok_any _ _ _ _ _ _ _ HC.out.ride).mono ?_; rintro e w' ⟨rfl, rfl⟩)
        go_round
        case rel => exact ⟨i + 1, by go_num, by omega, HS⟩
        case measure => simp [intOf]; omega
    · have HS : Hid (l.all vr4 = true) := by show _ = _; rw [HA.out, List.drop_of_length_le (by rw [← HL.out]; omega)]; rfl
      go_wp2_with fail
      go_ret
      exact ⟨ret_bool (by rw [E.out, HS.out]; simp; omega), rfl⟩

/-- The program's own closure: is a ride not valid? -/
theorem closure_any (L W P B : Int) (w : World) : Calls Try.prog 102 #[.agg #[.int .i64 L, .int .i64 W, .int .i64 P, .int .i64 B]] w (Ret w (.bool (!vr L W P B))) := by
  go_enter Try.func102, Try.ntmps102
  go_wp2_with fail
  refine (implValidRide_any L W P B _).mono ?_
  rintro e w1 ⟨rfl, hb1⟩
  go_wp2_with fail
  go_ret
  exact ⟨rfl, bel_next ((Below.refl _ _).alloc (Nat.le_refl _) _) hb1⟩

/-- The first place at which the closure says yes, or -1. -/
def Found (w : World) (b : Bool) (e : Ending) (w' : World) : Prop := ∃ r : Int, e = .returned (.int .i64 r) ∧ decide (0 ≤ r) = b ∧ Below w.heap.size w w'

set_option maxHeartbeats 1000000 in
theorem IndexFunc_rides (A : Option Addr) (n c : Nat) (l : List Rd) (w : World) (h : RidesAt w A l) (hl : n = l.length) (hn0 : n ≤ 1048576) :
    Calls Try.prog 113 #[.slice A n c, .func (.func 102) #[] #[]] w (Found w (!l.all vr4)) := by
  have H := Lib.hid h
  have HL := Lib.hid hl
  clear h hl
  go_enter Try.func113, Try.ntmps113
  go_wp2
  go_loopw [8] (fun u w' => ∃ (i : Nat), u = .int .i64 i ∧ i ≤ n ∧ Hid (l.all vr4 = (l.drop i).all vr4) ∧ Below w.heap.size w w') (fun u _ => n - (intOf u).toNat)
  case atStart => exact ⟨0, rfl, by omega, rfl, by go_grown⟩
  case round =>
    obtain ⟨i, rfl, hin, HA, hbel⟩ := hrel
    by_cases hlt : i < n
    · obtain ⟨b, o, rfl, hblt, hc⟩ := H.out (by rw [← HL.out]; omega)
      have hil : i < l.length := by rw [← HL.out]; exact hlt
      obtain ⟨c0, c1, c2, c3⟩ := (hc i hil).bel hbel
      clear hc
      have hd := drop_at hil
      cases hv : vr4 l[i]
      · have HS : Hid (l.all vr4 = false) := by show _ = _; rw [HA.out, hd, List.all_cons, hv]; rfl
        clear hd
        have hv' : vr l[i].1 l[i].2.1 l[i].2.2.1 l[i].2.2.2 = false := hv
        clear hv
        go_wp2_with (go_at_call 102; refine (closure_any _ _ _ _ _).mono ?_; rintro e w2 ⟨rfl, hb2⟩)
        go_ret
        exact ⟨_, rfl, by rw [HS.out]; simp, bel_next hbel hb2⟩
      · have HS : Hid (l.all vr4 = (l.drop (i + 1)).all vr4) := by show _ = _; rw [HA.out, hd, List.all_cons, hv]; rfl
        clear hd
        have hv' : vr l[i].1 l[i].2.1 l[i].2.2.1 l[i].2.2.2 = true := hv
        clear hv
        go_wp2_with (go_at_call 102; refine (closure_any _ _ _ _ _).mono ?_; rintro e w2 ⟨rfl, hb2⟩)
        go_roundw
        case rel => exact ⟨i + 1, by go_num, by omega, HS, bel_next hbel hb2⟩
        case measure => simp [intOf]; omega
    · have HS : Hid (l.all vr4 = true) := by show _ = _; rw [HA.out, List.drop_of_length_le (by rw [← HL.out]; omega)]; rfl
      go_wp2_with fail
      go_ret
      exact ⟨-1, rfl, by rw [HS.out]; rfl, hbel⟩

theorem ContainsFunc_rides (A : Option Addr) (n c : Nat) (l : List Rd) (w : World) (h : RidesAt w A l) (hl : n = l.length) (hn0 : n ≤ 1048576) :
    Calls Try.prog 101 #[.slice A n c, .func (.func 102) #[] #[]] w (Ret w (.bool (!l.all vr4))) := by
  have HL := Lib.hid hl
  clear hl
  go_enter Try.func101, Try.ntmps101
  go_wp2_with fail
  refine (IndexFunc_rides A n c l _ h HL.out hn0).mono ?_
  rintro e w1 ⟨r, rfl, hr, hb1⟩
  have HR := Lib.hid hr
  clear hr
  go_wp2_with fail
  go_ret
  exact ⟨ret_bool (by rw [← HR.out]), hb1⟩

theorem validRides_any (A : Option Addr) (n c : Nat) (l : List Rd) (w : World) (h : RidesAt w A l) (hl : n = l.length) (hn0 : n ≤ 1048576) :
    Calls Try.prog 69 #[.slice A n c] w (Ret w (.bool (validL l))) := by
  have E : Hid (validL l = (decide (n ≤ 8) && l.all vr4)) := by rw [hl]; rfl
  have HC := Lib.hid (fun W h' => ContainsFunc_rides A n c l W h' hl hn0)
  clear hl
  by_cases h8 : n ≤ 8
  · have E8 : Hid (validL l = l.all vr4) := by show _ = _; rw [E.out]; simp [h8]
    go_enter Try.func69, Try.ntmps69
    go_wp2_with fail
    refine (HC.out _ h).mono ?_
    rintro e w1 ⟨rfl, hb1⟩
    go_wp2_with fail
    go_ret
    exact ⟨ret_bool (by rw [E8.out]; try simp), hb1⟩
  · have E8 : Hid (validL l = false) := by show _ = _; rw [E.out]; simp [h8]
    go_enter Try.func69, Try.ntmps69
    go_wp2_with fail
    go_ret
    exact ⟨ret_bool E8.out.symm, Below.refl _ _⟩

end Go.Proofs.Ytlebkjkiikehhaa
