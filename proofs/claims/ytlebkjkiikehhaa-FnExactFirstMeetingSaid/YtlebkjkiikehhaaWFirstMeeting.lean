/-
  THE WALK of the law on FirstMeeting (printed by tools/gen_law.py).
-/
import Derived.Test.YtlebkjkiikehhaaFirst2
import Derived.Test.YtlebkjkiikehhaaIntS
import Derived.Test.YtlebkjkiikehhaaAid
import Derived.Test.YtlebkjkiikehhaaFrameRun
namespace Go.Proofs.Ytlebkjkiikehhaa
open Go.RowKit

set_option maxHeartbeats 4000000 in
theorem walk_FnExactFirstMeeting {w : World} (A0 : Option Addr) (n0 : Nat) (c0 : Nat) (l0 : List Int) (F0 : IntsArg w A0 n0 l0) (A1 : Option Addr) (n1 : Nat) (c1 : Nat) (l1 : List Rn) (F1 : RunsArg w A1 n1 l1) : Calls Try.prog 6 #[.slice A0 n0 c0, .slice A1 n1 c1] w (Ret w (.bool true)) := by
  obtain ⟨hl0, H0, hn0⟩ := F0
  have HL0 := Lib.hid hl0.symm
  clear hl0
  obtain ⟨hl1, H1, hn1⟩ := F1
  have HL1 := Lib.hid hl1.symm
  clear hl1
  rcases Nat.lt_or_ge 1048576 n0 with hs0 | hs0
  · go_enter Try.func6, Try.ntmps6
    go_wp2_with fail
    go_ret
    exact ⟨rfl, by first | exact Below.refl _ _ | go_grown⟩
  go_enter Try.func6, Try.ntmps6
  go_wp2_with fail
  refine (szRunS_any A1 n1 c1 l1 1048576 _ (by omega) (by omega) hn1 H1 HL1.out).mono ?_
  rintro e w1 ⟨rfl, hb⟩
  obtain ⟨z1, Z1⟩ : ∃ z, Hid (szRuns 1048576 l1 = z) := ⟨_, rfl⟩
  rw [Z1.out]
  have B1 := szRuns_ok (by omega) (by omega) Z1.out
  replace H0 := H0.bel hb
  replace H1 := H1.bel hb
  have D := hb
  clear hb
  clear Z1
  rcases Int.lt_or_le z1 0 with hz1 | hz1
  · go_wp2_with fail
    go_ret
    exact ⟨rfl, D⟩
  obtain ⟨hy1, hs1, hp1⟩ := B1 hz1
  clear B1
  go_wp2_with fail
  refine (toInt64S_any A0 n0 c0 l0 _ H0 HL0.out hs0).mono ?_
  rintro e w2 ⟨gs0, rfl, hgs0, Rs0, hb⟩
  have Ps0 := IntsAt.ofBlk Rs0.out
  replace H0 := H0.bel hb
  replace H1 := H1.bel hb
  replace D := bel_next D hb
  clear hb
  clear Rs0 hgs0
  go_wp2_with fail
  refine (toRunS_any A1 n1 c1 l1 _ H1 HL1.out hp1).mono ?_
  rintro e w3 ⟨gs1, rfl, hgs1, Rs1, hb⟩
  have Ps1 := Rs1.runs hp1
  replace H0 := H0.bel hb
  replace H1 := H1.bel hb
  replace Ps0 := Ps0.bel hb
  replace D := bel_next D hb
  clear hb
  clear Rs1 hgs1
  go_wp2_with fail
  refine (specFirst_any _ n0 _ l0 _ n1 _ l1 _ Ps0 HL0.out hs0 Ps1 HL1.out hp1).mono ?_
  rintro e w4 ⟨rfl, hb⟩
  replace H0 := H0.bel hb
  replace H1 := H1.bel hb
  replace Ps0 := Ps0.bel hb
  replace Ps1 := Ps1.bel hb
  replace D := bel_next D hb
  clear hb
  clear Ps0
  clear Ps1
  go_wp2_with fail
  refine (toInt64S_any A0 n0 c0 l0 _ H0 HL0.out hs0).mono ?_
  rintro e w5 ⟨gi0, rfl, hgi0, Ri0, hb⟩
  have Pi0 := IntsAt.ofBlk Ri0.out
  replace H0 := H0.bel hb
  replace H1 := H1.bel hb
  replace D := bel_next D hb
  clear hb
  clear Ri0 hgi0
  go_wp2_with fail
  refine (toRunS_any A1 n1 c1 l1 _ H1 HL1.out hp1).mono ?_
  rintro e w6 ⟨gi1, rfl, hgi1, Ri1, hb⟩
  have Pi1 := Ri1.runs hp1
  replace H0 := H0.bel hb
  replace H1 := H1.bel hb
  replace Pi0 := Pi0.bel hb
  replace D := bel_next D hb
  clear hb
  clear Ri1 hgi1
  go_wp2_with fail
  refine (implFirst_any _ n0 _ l0 _ n1 _ l1 _ Pi0 HL0.out hs0 Pi1 HL1.out hp1).mono ?_
  rintro e w7 ⟨rfl, hb⟩
  replace H0 := H0.bel hb
  replace H1 := H1.bel hb
  replace Pi0 := Pi0.bel hb
  replace Pi1 := Pi1.bel hb
  replace D := bel_next D hb
  clear hb
  go_wp2_with fail
  refine (toInt64S_any A0 n0 c0 l0 _ H0 HL0.out hs0).mono ?_
  rintro e w8 ⟨ge0, rfl, hge0, Re0, hb⟩
  have Pe0 := IntsAt.ofBlk Re0.out
  replace H0 := H0.bel hb
  replace H1 := H1.bel hb
  replace Pi0 := Pi0.bel hb
  replace Pi1 := Pi1.bel hb
  replace D := bel_next D hb
  clear hb
  clear Re0 hge0
  go_wp2_with fail
  refine (eqInt64S_any _ _ n0 n0 n0 l0 _ Pi0 Pe0 HL0.out hs0).mono ?_
  rintro e w9 ⟨rfl, hb⟩
  replace H0 := H0.bel hb
  replace H1 := H1.bel hb
  replace Pi0 := Pi0.bel hb
  replace Pi1 := Pi1.bel hb
  replace Pe0 := Pe0.bel hb
  replace D := bel_next D hb
  clear hb
  clear Pe0
  go_wp2_with fail
  refine (toRunS_any A1 n1 c1 l1 _ H1 HL1.out hp1).mono ?_
  rintro e w10 ⟨ge1, rfl, hge1, Re1, hb⟩
  have Pe1 := Re1.runs hp1
  replace H0 := H0.bel hb
  replace H1 := H1.bel hb
  replace Pi0 := Pi0.bel hb
  replace Pi1 := Pi1.bel hb
  replace D := bel_next D hb
  clear hb
  clear Re1 hge1
  go_wp2_with fail
  refine (eqRunS_any _ _ n1 n1 n1 l1 _ Pi1 Pe1 HL1.out hp1).mono ?_
  rintro e w11 ⟨rfl, hb⟩
  replace H0 := H0.bel hb
  replace H1 := H1.bel hb
  replace Pi0 := Pi0.bel hb
  replace Pi1 := Pi1.bel hb
  replace Pe1 := Pe1.bel hb
  replace D := bel_next D hb
  clear hb
  clear Pe1
  go_wp2_with fail
  go_ret
  exact ⟨rfl, D⟩

end Go.Proofs.Ytlebkjkiikehhaa
