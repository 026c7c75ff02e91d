/-
  THE WALK of the law on WorstRing (printed by tools/gen_law.py).
-/
import Derived.Test.YtfhmmebciikgeaaWorst
import Derived.Test.YtfhmmebciikgeaaAid
import Derived.Test.YtfhmmebciikgeaaStr
namespace Go.Proofs.Ytfhmmebciikgeaa
open Go.RowKit

set_option maxHeartbeats 4000000 in
theorem walk_FnExactWorstRing {w : World} (a0 : Int) (_l0 : -9223372036854775808 ≤ a0) (_u0 : a0 ≤ 9223372036854775807) (A1 : Option Addr) (n1 : Nat) (c1 : Nat) (l1 : List ByteArray) (F1 : StrsArg w A1 n1 l1) : Calls Try.prog 10 #[.int .i64 a0, .slice A1 n1 c1] w (Ret w (.bool true)) := by
  clear _l0 _u0
  obtain ⟨hl1, ⟨H1, zz1⟩, hn1⟩ := F1
  have HL1 := Lib.hid hl1.symm
  clear hl1
  go_enter Try.func10, Try.ntmps10
  go_wp2_with fail
  refine (szStringS_any A1 n1 c1 l1 1048576 _ (by omega) (by omega) hn1 H1 HL1.out zz1).mono ?_
  rintro e w1 ⟨rfl, hb⟩
  obtain ⟨z1, Z1⟩ : ∃ z, Hid (szStrs 1048576 l1 = z) := ⟨_, rfl⟩
  rw [Z1.out]
  have B1 := szStrs_ok (by omega) (by omega) Z1.out
  replace H1 := H1.bel hb
  have D := hb
  clear hb
  clear Z1
  rcases Int.lt_or_le z1 0 with hz1 | hz1
  · go_wp2_with fail
    go_ret
    exact ⟨rfl, D⟩
  obtain ⟨hy1, hs1, hp1⟩ := B1 hz1
  clear B1
  go_wp2_with fail
  refine (toStringS_any A1 n1 c1 l1 _ H1 HL1.out hp1).mono ?_
  rintro e w2 ⟨gs1, rfl, hgs1, Rs1, hb⟩
  have Ps1 := StrsAt.ofBlk Rs1.out
  replace H1 := H1.bel hb
  replace D := bel_next D hb
  clear hb
  clear Rs1 hgs1
  go_wp2_with fail
  refine (specWorst_any a0 _ n1 _ l1 _ Ps1 HL1.out hp1).mono ?_
  rintro e w3 ⟨rfl, hb⟩
  replace H1 := H1.bel hb
  replace Ps1 := Ps1.bel hb
  replace D := bel_next D hb
  clear hb
  clear Ps1
  go_wp2_with fail
  refine (toStringS_any A1 n1 c1 l1 _ H1 HL1.out hp1).mono ?_
  rintro e w4 ⟨gi1, rfl, hgi1, Ri1, hb⟩
  have Pi1 := StrsAt.ofBlk Ri1.out
  replace H1 := H1.bel hb
  replace D := bel_next D hb
  clear hb
  clear Ri1 hgi1
  go_wp2_with fail
  refine (implWorst_any a0 _ n1 _ l1 _ Pi1 HL1.out hp1).mono ?_
  rintro e w5 ⟨rfl, hb⟩
  replace H1 := H1.bel hb
  replace Pi1 := Pi1.bel hb
  replace D := bel_next D hb
  clear hb
  go_wp2_with fail
  refine (toStringS_any A1 n1 c1 l1 _ H1 HL1.out hp1).mono ?_
  rintro e w6 ⟨ge1, rfl, hge1, Re1, hb⟩
  have Pe1 := StrsAt.ofBlk Re1.out
  replace H1 := H1.bel hb
  replace Pi1 := Pi1.bel hb
  replace D := bel_next D hb
  clear hb
  clear Re1 hge1
  go_wp2_with fail
  refine (eqStringS_any _ _ n1 n1 n1 l1 _ Pi1 Pe1 HL1.out hp1).mono ?_
  rintro e w7 ⟨rfl, hb⟩
  replace H1 := H1.bel hb
  replace Pi1 := Pi1.bel hb
  replace Pe1 := Pe1.bel hb
  replace D := bel_next D hb
  clear hb
  clear Pe1
  go_wp2_with fail
  go_ret
  exact ⟨rfl, D⟩

end Go.Proofs.Ytfhmmebciikgeaa
