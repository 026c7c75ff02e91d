/-
  THE WALK of the law on SplitWords.
-/
import Derived.Test.YtlblnknglplgjaaDoorSplitW
import Derived.Test.YtlblnknglplgjaaDoorMarkS2
import Derived.Stop.LaidErr
namespace Go.Proofs.YtlblnknglplgjaaDoor
open Go.RowKit

theorem spl_full (c : UInt8) : ∀ (l acc : List UInt8), ((spl c acc l).filter fun x => !x.isEmpty).length ≤ acc.length + l.length
  | [], acc => by
    rw [spl]
    cases acc <;> simp
  | b :: r, acc => by
    rw [spl]
    split
    · have := spl_full c r []
      rw [List.filter_cons]
      cases acc with
      | nil => simp at this ⊢; omega
      | cons a q => simp at this ⊢; omega
    · have := spl_full c r (acc ++ [b])
      simp at this ⊢
      omega
theorem spl_part (c : UInt8) : ∀ (l acc : List UInt8), ∀ x ∈ spl c acc l, x.length ≤ acc.length + l.length
  | [], acc, x, h => by
    rw [spl, List.mem_singleton] at h
    subst h
    omega
  | b :: r, acc, x, h => by
    rw [spl] at h
    split at h
    · rcases List.mem_cons.1 h with rfl | h
      · omega
      · have := spl_part c r [] x h
        simp at this ⊢
        omega
    · have := spl_part c r (acc ++ [b]) x h
      simp at this ⊢
      omega
theorem words_small {s : ByteArray} (hs : s.size ≤ 1048576) : SmallS (words s) := by
  have e0 : s.data.toList.length = s.size := by simp
  constructor
  · have h1 := spl_full 32 s.data.toList []
    have h2 : (words s).length = ((spl 32 [] s.data.toList).filter fun x => !x.isEmpty).length := by
      unfold words splB
      rw [List.filter_map, List.length_map]
      congr 2
      funext x
      simp only [Function.comp, noT, mkB]
      cases x <;> rfl
    rw [h2]
    simp only [List.length_nil] at h1
    omega
  · intro k hk
    have h1 : (words s)[k] ∈ splB 32 s := (List.mem_filter.1 (List.getElem_mem hk)).1
    obtain ⟨x, hx, e1⟩ := List.mem_map.1 h1
    have h2 := spl_part 32 _ _ x hx
    rw [← e1]
    show x.toArray.size ≤ _
    simp only [List.length_nil] at h2
    simp
    omega
theorem MaxLen.bel {w w' : World} (h : ∃ m, w.cell? ⟨3, 0, none⟩ = some (.int .i64 m)) (hb : Below w.heap.size w w') : ∃ m, w'.cell? ⟨3, 0, none⟩ = some (.int .i64 m) := by
  obtain ⟨m, hm⟩ := h
  exact ⟨m, bel_cell hb hm⟩

set_option maxHeartbeats 4000000 in
theorem walk_FnExactSplitWords {w : World} (_ : laidMet Tryd.prog Rows.fnExactSplitWordsRow.laid w) (hm : ∃ m, w.cell? ⟨3, 0, none⟩ = some (.int .i64 m)) (s : ByteArray) (_ : s.size ≤ 9223372036854775807) :
    Calls Tryd.prog 7 #[.string s] w (Ret w (.bool true)) := by
  have HM := Lib.hid hm
  clear hm
  by_cases hs : 1048576 < s.size
  · go_enter Tryd.func7, Tryd.ntmps7
    go_wp2_with fail
    go_ret
    exact ⟨rfl, Below.refl _ _⟩
  have hs' : s.size ≤ 1048576 := by omega
  obtain ⟨xs, HX⟩ : ∃ xs, Hid (words s = xs) := ⟨_, rfl⟩
  go_enter Tryd.func7, Tryd.ntmps7
  go_wp2_with fail
  refine (specSplitWords_any s _ hs').mono ?_
  rw [HX.out]
  rintro e w1 ⟨A6, c6, rfl, O6, hb⟩
  obtain ⟨I6, -, W6, U6⟩ := own_givesS O6
  clear O6
  have q1 := hb.size
  have D := hb
  clear hb
  go_wp2_with fail
  refine (implSplitWords_any s _ hs' (MaxLen.bel HM.out D)).mono ?_
  rw [HX.out]
  rintro e w2 ⟨A9, c9, rfl, O9, hb⟩
  obtain ⟨I9, -, W9, U9⟩ := own_givesS O9
  clear O9
  have q2 := hb.size
  replace I6 := I6.bel hb
  replace W6 := W6.bel hb
  replace D := bel_next D hb
  clear hb
  have hr : SmallS xs := by rw [← HX.out]; exact words_small hs'
  have hrl : xs.length ≤ 1048576 := hr.1
  go_wp2_with fail
  refine (eqStringS_any A9 A6 xs.length c9 c6 xs _ I9 I6 rfl hr).mono ?_
  rintro e w3 ⟨rfl, hb⟩
  have q3 := hb.size
  replace I6 := I6.bel hb
  replace W6 := W6.bel hb
  replace I9 := I9.bel hb
  replace W9 := W9.bel hb
  replace D := bel_next D hb
  clear hb
  go_wp2_with fail
  refine (markStringS1_any A9 xs.length c9 _ W9 (by omega)).mono ?_
  rintro e w4 ⟨rfl, M9, hb⟩
  have hbut := hb
  have q4 := hbut.size
  clear hb
  replace I6 := I6.but hbut (by intro h0 p q hp hq; have yp := U6 p hp; have yq := U9 q hq; (try simp only); omega)
  replace W6 := W6.but hbut (by intro h0 p q hp hq; have yp := U6 p hp; have yq := U9 q hq; (try simp only); omega)
  replace D := hbut.below D (by intro q hq; have yq := U9 q hq; (try simp only); omega)
  clear hbut
  clear I9 W9
  go_wp2_with fail
  refine (heldStringS1_any A9 xs.length c9 _ M9 (by omega)).mono ?_
  rintro e w5 ⟨rfl, hb⟩
  have q5 := hb.size
  replace I6 := I6.bel hb
  replace W6 := W6.bel hb
  replace M9 := M9.bel hb
  replace D := bel_next D hb
  clear hb
  go_wp2_with fail
  refine (implSplitWords_any s _ hs' (MaxLen.bel HM.out D)).mono ?_
  rw [HX.out]
  rintro e w6 ⟨A4, c4, rfl, O4, hb⟩
  obtain ⟨I4, -, W4, U4⟩ := own_givesS O4
  clear O4
  have q6 := hb.size
  replace I6 := I6.bel hb
  replace W6 := W6.bel hb
  replace M9 := M9.bel hb
  replace D := bel_next D hb
  clear hb
  go_wp2_with fail
  refine (eqStringS_any A4 A6 xs.length c4 c6 xs _ I4 I6 rfl hr).mono ?_
  rintro e w7 ⟨rfl, hb⟩
  have q7 := hb.size
  replace I6 := I6.bel hb
  replace W6 := W6.bel hb
  replace M9 := M9.bel hb
  replace I4 := I4.bel hb
  replace W4 := W4.bel hb
  replace D := bel_next D hb
  clear hb
  go_wp2_with fail
  refine (heldStringS1_any A9 xs.length c9 _ M9 (by omega)).mono ?_
  rintro e w8 ⟨rfl, hb⟩
  replace D := bel_next D hb
  clear hb
  go_wp2_with fail
  go_ret
  exact ⟨rfl, D⟩

end Go.Proofs.YtlblnknglplgjaaDoor
