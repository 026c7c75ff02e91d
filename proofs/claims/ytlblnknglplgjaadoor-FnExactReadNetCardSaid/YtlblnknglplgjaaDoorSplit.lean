/-
  CONTRACTS: a text cut at each instance of one byte.
-/
import Derived.Test.YtlblnknglplgjaaDoorSplitP
import Derived.Test.YtlblnknglplgjaaDoorStrR
import Derived.Laws.AppendOwn
namespace Go.Proofs.YtlblnknglplgjaaDoor
open Go.RowKit

theorem own_emptyR (w : World) {base : Nat} (hb : base ≤ w.heap.size) : (w.alloc (.cells #[] 9)).ownsRow base 9 1 (.slice (some ⟨w.heap.size, 0, none⟩) 0 0) 0 (([] : List ByteArray).map Value.string) :=
  World.ownsRow_made w #[] 0 hb (by unfold maxLen; omega) (by simp)
theorem u8_ne_int {a b : UInt8} : ((a.toNat : Int) == (b.toNat : Int)) = decide (a = b) := by
  by_cases h : a = b
  · subst h; simp
  · have h2 : ¬ a.toNat = b.toNat := fun e => h (UInt8.toNat_inj.1 e)
    simp [h]
    omega

set_option maxHeartbeats 4000000 in
set_option maxRecDepth 100000 in
theorem l01Split_any (s : ByteArray) (c : UInt8) (w : World) (hs : s.size ≤ 1048576) :
    Calls Tryd.prog 39 #[.string s, .int .u8 c.toNat] w (MadeSR w 9 (splB c s)) := by
  obtain ⟨i0, hi, hz0, hz1, hz2⟩ := info_parts info_strR
  have HI := Lib.hid (And.intro hi (And.intro hz0 (And.intro hz1 hz2)))
  have HE : Hid (([] : List ByteArray) ++ (spl c ((s.data.toList.drop 0).take (0 - 0)) (s.data.toList.drop 0)).map mkB = splB c s) := rfl
  obtain ⟨F, hF⟩ : ∃ F, splB c s = F := ⟨_, rfl⟩
  rw [hF] at HE ⊢
  clear hF hi hz0 hz1 hz2
  go_enter Tryd.func39, Tryd.ntmps39
  go_wp2_with fail
  go_loopw [5, 6, 7] (fun v x u w' => ∃ (k i : Nat) (ys : List ByteArray), u = .int .i64 i ∧ x = .int .i64 k ∧ i ≤ s.size ∧ k ≤ i ∧ ys.length ≤ i ∧ w'.ownsRow w.heap.size 9 1 v ys.length (ys.map Value.string) ∧ Hid (ys ++ (spl c ((s.data.toList.drop k).take (i - k)) (s.data.toList.drop i)).map mkB = F) ∧ Below w.heap.size w w') (fun _ _ u _ => s.size - (intOf u).toNat)
  case atStart => exact ⟨0, 0, [], rfl, rfl, by omega, by omega, by simp, own_emptyR _ (Nat.le_refl _), HE, by go_grown⟩
  case round =>
    clear HE
    obtain ⟨k, i, ys, rfl, rfl, hin, hki, hyl, hown, HF, hbel⟩ := hrel
    have HO := Lib.hid hown
    have hsw := hbel.size
    obtain ⟨A2, c2, rfl⟩ := own_form hown
    by_cases hlt : i < s.size
    · have hil : i < s.data.toList.length := by simpa using hlt
      have hst := spl_at (c := c) (acc := (s.data.toList.drop k).take (i - k)) hil
      have hpn := part_next hki hil
      have hgi : s.data.toList[i] = s[i] := rfl
      rw [hgi] at hst hpn
      by_cases hc : s[i] = c
      · have hb : ((s[i].toNat : Int) == (c.toNat : Int)) = true := by rw [hc]; simp
        have HF2 : Hid ((ys ++ [s.extract k i]) ++ (spl c ((s.data.toList.drop (i + 1)).take (i + 1 - (i + 1))) (s.data.toList.drop (i + 1))).map mkB = F) := by
          show _ = _
          rw [← HF.out, hst, if_pos hc, List.map_cons, part_data, Nat.sub_self, List.take_zero]
          simp
        clear hst hpn hgi hown hc HF
        go_wp2_with (at_builtin; refine wpList_append_own _ rfl _ _ 36 rfl w.heap.size 9 i0 (.string ByteArray.empty) 1 16 Tryd.underlying36 HI.out.1 HI.out.2.1 HI.out.2.2.1 HI.out.2.2.2 rfl (by decide) _ _ _ rfl (HO.out.alloc _) ⟨wr.heap.size, 0, none⟩ 1 1 [.string (s.extract k i)] rfl rfl ?c1 ?c2 ?c3 ?c4 ?c5 ?_)
        try
          case c1 =>
            intro j u hu
            cases j with
            | zero => simp at hu; subst hu; simp [Addr.add]
            | succ j => simp at hu
        try case c2 => intro u hu; simp at hu; subst hu; rfl
        try case c3 => unfold maxLen; omega
        try case c4 => omega
        try case c5 => first | (simp; omega) | omega
        intro v' w4 hown1 hgrow _
        have hown2 : w4.ownsRow w.heap.size 9 1 v' (ys ++ [s.extract k i]).length ((ys ++ [s.extract k i]).map Value.string) := by
          rw [List.map_append, List.length_append]
          exact hown1
        have HO4 := Lib.hid hown2
        have hb4 : Below w.heap.size w w4 := Below.grown (show Below w.heap.size w _ from hbel.alloc hbel.size _) hgrow (by simp; omega) (fun k hk => by have := (HO.out.lt k hk).1; omega)
        have HY4 : Hid ((ys ++ [s.extract k i]).length ≤ i + 1) := by show _ ≤ _; rw [List.length_append, List.length_singleton]; omega
        clear hown1 hown2 hgrow hyl
        go_wp2_with fail
        go_roundw
        case rel => exact ⟨i + 1, i + 1, ys ++ [s.extract k i], by go_num, by go_num, by omega, by omega, HY4.out, HO4.out, HF2, hb4⟩
        case measure => simp [intOf]; omega
      · have hb : ((s[i].toNat : Int) == (c.toNat : Int)) = false := by rw [u8_ne_int]; simp [hc]
        have HF2 : Hid (ys ++ (spl c ((s.data.toList.drop k).take (i + 1 - k)) (s.data.toList.drop (i + 1))).map mkB = F) := by
          show _ = _
          rw [← HF.out, hst, if_neg hc, hpn]
        clear hst hpn hgi hown hc HF
        go_wp2_with fail
        go_roundw
        case rel => exact ⟨k, i + 1, ys, by go_num, rfl, by omega, by omega, by omega, HO.out, HF2, hbel⟩
        case measure => simp [intOf]; omega
    · have hie : i = s.size := by omega
      have HR : Hid (F = ys ++ [s.extract k s.size]) := by
        show _ = _
        have hdl : s.data.toList.drop i = [] := List.drop_of_length_le (by rw [hie]; simp)
        rw [← HF.out, hdl, spl, List.map_singleton, part_data, hie]
      clear hown HF
      go_wp2_with (at_builtin; refine wpList_append_own _ rfl _ _ 36 rfl w.heap.size 9 i0 (.string ByteArray.empty) 1 16 Tryd.underlying36 HI.out.1 HI.out.2.1 HI.out.2.2.1 HI.out.2.2.2 rfl (by decide) _ _ _ rfl (HO.out.alloc _) ⟨wr.heap.size, 0, none⟩ 1 1 [.string (s.extract k s.size)] rfl rfl ?c1 ?c2 ?c3 ?c4 ?c5 ?_)
      try
        case c1 =>
          intro j u hu
          cases j with
          | zero => simp at hu; subst hu; simp [Addr.add]
          | succ j => simp at hu
      try case c2 => intro u hu; simp at hu; subst hu; rfl
      try case c3 => unfold maxLen; omega
      try case c4 => omega
      try case c5 => first | (simp; omega) | omega
      intro v' w4 hown1 hgrow _
      have hown2 : w4.ownsRow w.heap.size 9 1 v' (ys ++ [s.extract k s.size]).length ((ys ++ [s.extract k s.size]).map Value.string) := by
        rw [List.map_append, List.length_append]
        exact hown1
      obtain ⟨A4, c4, rfl⟩ := own_form hown2
      have HO4 := Lib.hid hown2
      have hb4 : Below w.heap.size w w4 := Below.grown (show Below w.heap.size w _ from hbel.alloc hbel.size _) hgrow (by simp; omega) (fun k hk => by have := (HO.out.lt k hk).1; omega)
      clear hown1 hown2 hgrow
      go_wp2_with fail
      go_ret
      rw [HR.out]
      exact ⟨A4, c4, rfl, HO4.out, hb4⟩

end Go.Proofs.YtlblnknglplgjaaDoor
