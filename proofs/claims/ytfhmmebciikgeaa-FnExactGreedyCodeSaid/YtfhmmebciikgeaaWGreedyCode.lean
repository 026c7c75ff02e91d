/-
  THE WALK of the law on GreedyCode (printed by tools/gen_law.py).
-/
import Derived.Test.YtfhmmebciikgeaaFar
import Derived.Test.YtfhmmebciikgeaaMark
import Derived.Test.YtfhmmebciikgeaaAid
import Derived.Test.YtfhmmebciikgeaaFrame
namespace Go.Proofs.Ytfhmmebciikgeaa
open Go.RowKit

set_option maxHeartbeats 4000000 in
theorem walk_FnExactGreedyCode {w : World} (a0 : Int) (_l0 : -9223372036854775808 ≤ a0) (_u0 : a0 ≤ 9223372036854775807) (a1 : Int) (_l1 : -9223372036854775808 ≤ a1) (_u1 : a1 ≤ 9223372036854775807) (a2 : Int) (_l2 : -9223372036854775808 ≤ a2) (_u2 : a2 ≤ 9223372036854775807) : Calls Try.prog 9 #[.int .i64 a0, .int .i64 a1, .int .i64 a2] w (Ret w (.bool true)) := by
  clear _l0 _u0
  clear _l1 _u1
  clear _l2 _u2
  obtain ⟨xs, HX⟩ : ∃ xs, Hid ((greedyR a0 a1 a2).1 = xs) := ⟨_, rfl⟩
  obtain ⟨rk, HK⟩ : ∃ rk, Hid ((greedyR a0 a1 a2).2 = rk) := ⟨_, rfl⟩
  go_enter Try.func9, Try.ntmps9
  go_wp2_with fail
  refine (specGreedy_any a0 a1 a2 _).mono ?_
  rw [HX.out, HK.out]
  rintro e w1 ⟨A6, c6, rfl, O6, hb⟩
  obtain ⟨I6, -, W6, U6⟩ := own_givesS O6
  clear O6
  have q1 := hb.size
  have D := hb
  clear hb
  go_wp2_with fail
  refine (implGreedy_any a0 a1 a2 _).mono ?_
  rw [HX.out, HK.out]
  rintro e w2 ⟨A9, c9, rfl, O9, hb⟩
  obtain ⟨I9, -, W9, U9⟩ := own_givesS O9
  clear O9
  have q2 := hb.size
  replace I6 := I6.bel hb
  replace W6 := W6.bel hb
  replace D := bel_next D hb
  clear hb
  have hr : SmallS xs := by rw [← HX.out]; exact greedyR_small _ _ _
  have hrl : xs.length ≤ 1048576 := hr.1
  go_wp2_with fail
  refine (eqStringS_any A9 A6 xs.length c9 c6 xs _ I9 I6 rfl hr).mono ?_
  rintro e w3 ⟨rfl, hb⟩
  have q3 := hb.size
  replace I6 := I6.bel hb
  replace W6 := W6.bel hb
  replace I9 := I9.bel hb
  replace W9 := W9.bel hb
  replace D := bel_next D hb
  clear hb
  go_wp2_with fail
  refine (markStringS1_any A9 xs.length c9 _ W9 (by omega)).mono ?_
  rintro e w4 ⟨rfl, M9, hb⟩
  have hbut := hb
  have q4 := hbut.size
  clear hb
  replace I6 := I6.but hbut (by intro h0 p q hp hq; have yp := U6 p hp; have yq := U9 q hq; (try simp only); omega)
  replace W6 := W6.but hbut (by intro h0 p q hp hq; have yp := U6 p hp; have yq := U9 q hq; (try simp only); omega)
  replace D := hbut.below D (by intro q hq; have yq := U9 q hq; (try simp only); omega)
  clear hbut
  clear I9 W9
  go_wp2_with fail
  refine (heldStringS1_any A9 xs.length c9 _ M9 (by omega)).mono ?_
  rintro e w5 ⟨rfl, hb⟩
  have q5 := hb.size
  replace I6 := I6.bel hb
  replace W6 := W6.bel hb
  replace M9 := M9.bel hb
  replace D := bel_next D hb
  clear hb
  go_wp2_with fail
  refine (implGreedy_any a0 a1 a2 _).mono ?_
  rw [HX.out, HK.out]
  rintro e w6 ⟨A4, c4, rfl, O4, hb⟩
  obtain ⟨I4, -, W4, U4⟩ := own_givesS O4
  clear O4
  have q6 := hb.size
  replace I6 := I6.bel hb
  replace W6 := W6.bel hb
  replace M9 := M9.bel hb
  replace D := bel_next D hb
  clear hb
  go_wp2_with fail
  refine (eqStringS_any A4 A6 xs.length c4 c6 xs _ I4 I6 rfl hr).mono ?_
  rintro e w7 ⟨rfl, hb⟩
  have q7 := hb.size
  replace I6 := I6.bel hb
  replace W6 := W6.bel hb
  replace M9 := M9.bel hb
  replace I4 := I4.bel hb
  replace W4 := W4.bel hb
  replace D := bel_next D hb
  clear hb
  go_wp2_with fail
  refine (heldStringS1_any A9 xs.length c9 _ M9 (by omega)).mono ?_
  rintro e w8 ⟨rfl, hb⟩
  have q8 := hb.size
  replace I6 := I6.bel hb
  replace W6 := W6.bel hb
  replace M9 := M9.bel hb
  replace I4 := I4.bel hb
  replace W4 := W4.bel hb
  replace D := bel_next D hb
  clear hb
  go_wp2_with fail
  go_ret
  exact ⟨rfl, D⟩

end Go.Proofs.Ytfhmmebciikgeaa
