/-
  CONTRACTS of some functions on rides.
-/
import Derived.Test.YtlblnknglplgjaaDoorRows
import Derived.Test.YtlblnknglplgjaaDoorBase
import Derived.Test.YtlblnknglplgjaaDoorPlainA
namespace Go.Proofs.YtlblnknglplgjaaDoor
open Go.RowKit

theorem l00In_any (n lo hi : Int) (w : World) : Calls Tryd.prog 65 #[.int .i64 n, .int .i64 lo, .int .i64 hi] w (Ret0 w (.bool (inB n lo hi))) := by
  go_enter Tryd.func65, Tryd.ntmps65
  go_wp2
  all_goals go_ret
  all_goals exact ⟨ret_bool (by simp [inB]; try omega), rfl⟩

theorem within_any (n lo hi : Int) (w : World) : Calls Tryd.prog 68 #[.int .i64 n, .int .i64 lo, .int .i64 hi] w (Ret0 w (.bool (inB n lo hi))) := by
  go_enter Tryd.func68, Tryd.ntmps68
  go_wp2
  all_goals go_ret
  all_goals exact ⟨ret_bool (by simp [inB]; try omega), rfl⟩

/-- The cells of a ride at an address. -/
structure RideAt (w : World) (b o : Nat) (L W P B : Int) : Prop where
  c0 : w.cell? ⟨b, o, none⟩ = some (.int .i64 L)
  c1 : w.cell? ⟨b, o + 1, none⟩ = some (.int .i64 W)
  c2 : w.cell? ⟨b, o + 2, none⟩ = some (.int .i64 P)
  c3 : w.cell? ⟨b, o + 3, none⟩ = some (.int .i64 B)
theorem RideAt.drewN {w : World} {b o : Nat} {L W P B : Int} (h : RideAt w b o L W P B) (n : Nat) : RideAt (w.drewN n) b o L W P B := ⟨h.c0, h.c1, h.c2, h.c3⟩
theorem RideAt.below {w w' : World} {b o k : Nat} {L W P B : Int} (h : RideAt w b o L W P B) (hb : Below k w w') (hk : b < k) : RideAt w' b o L W P B :=
  ⟨(hb.cell (p := ⟨b, o, none⟩) hk).trans h.c0, (hb.cell (p := ⟨b, o + 1, none⟩) hk).trans h.c1, (hb.cell (p := ⟨b, o + 2, none⟩) hk).trans h.c2, (hb.cell (p := ⟨b, o + 3, none⟩) hk).trans h.c3⟩

theorem l03Ok_any (b o : Nat) (L W P B : Int) (w : World) (h : RideAt w b o L W P B) :
    Calls Tryd.prog 41 #[.pointer (some ⟨b, o, none⟩)] w (Ret0 w (.bool (vr L W P B))) := by
  obtain ⟨h0, h1, h2, h3⟩ := h
  go_enter Tryd.func41, Tryd.ntmps41
  go_wp2_with (go_at_call 65; refine (l00In_any _ _ _ _).mono ?_; rintro e w' ⟨rfl, rfl⟩)
  all_goals go_ret
  all_goals exact ⟨ret_bool (by simp [vr, *]), rfl⟩

theorem implValidRide_any (L W P B : Int) (w : World) : Calls Tryd.prog 45 #[.agg #[.int .i64 L, .int .i64 W, .int .i64 P, .int .i64 B]] w (Ret w (.bool (vr L W P B))) := by
  go_enter Tryd.func45, Tryd.ntmps45
  go_wp2_with (go_at_call 68; refine (within_any _ _ _ _).mono ?_; rintro e w' ⟨rfl, rfl⟩)
  all_goals go_ret
  all_goals exact ⟨ret_bool (by simp [vr, *]), by go_grown⟩

theorem toRide_any (L W P B : Int) (w : World) : Calls Tryd.prog 18 #[.agg #[.int .i64 L, .int .i64 W, .int .i64 P, .int .i64 B]] w (Ret w (.agg #[.int .i64 L, .int .i64 W, .int .i64 P, .int .i64 B])) := by
  go_enter Tryd.func18, Tryd.ntmps18
  go_wp2
  exact bodyPost_ret (v := .agg #[.int .i64 L, .int .i64 W, .int .i64 P, .int .i64 B]) (by simp [results, Tryd.results18, go_sem]) rfl ⟨rfl, by go_grown⟩

end Go.Proofs.YtlblnknglplgjaaDoor
