/-
  THE WALK of the law on ReadDecimal.
-/
import Derived.Test.YtlblnknglplgjaaDoorReadD
import Derived.Test.YtlblnknglplgjaaDoorReadI
import Derived.Test.YtlblnknglplgjaaDoorTab
namespace Go.Proofs.YtlblnknglplgjaaDoor
open Go.RowKit

theorem gESType : (Tryd.prog.globals[0]?).map (·.type) = some 56 := by kernel_rfl
theorem gERType : (Tryd.prog.globals[1]?).map (·.type) = some 56 := by kernel_rfl
theorem starErr : "*" ++ "errors.errorString" = "*errors.errorString" := by decide
theorem rowErr (u : TypeId) (h : Tryd.prog.typeName? 3 u = some "*errors.errorString") : u = 141 :=
  typeName_ptr_named (nm := "errors.errorString") (by rw [starErr]; kernel_rfl) (by kernel_rfl) (by decide) u (by rw [starErr]; exact h)
theorem errs_of {r : List (String × DataW Unit)} {w : World} (h : laidMet Tryd.prog (("strconv.ErrRange", Rows.laid_strconv_ErrRange) :: ("strconv.ErrSyntax", Rows.laid_strconv_ErrSyntax) :: r) w) : Errs w := by
  obtain ⟨a0, s0, hv0, -, -, -⟩ := laid_sentinel h gER gERType Tryd.underlying56 rowErr Tryd.underlying141 Tryd.underlying143 rfl rfl Tryd.underlying9 (by kernel_rfl) (by kernel_rfl)
  obtain ⟨a1, s1, hv1, -, -, -⟩ := laid_sentinel h.tail gES gESType Tryd.underlying56 rowErr Tryd.underlying141 Tryd.underlying143 rfl rfl Tryd.underlying9 (by kernel_rfl) (by kernel_rfl)
  exact ⟨⟨_, _, hv1⟩, ⟨_, _, hv0⟩⟩
theorem specReadDecimal_any (s : ByteArray) (w : World) (hs : s.size ≤ 1048576) :
    Calls Tryd.prog 10 #[.string s] w (Ret w (.tuple #[.int .i64 (readD s).1, .bool (readD s).2])) := by
  go_enter Tryd.func10, Tryd.ntmps10
  go_wp2_with fail
  refine (l01Number_any s _ hs).mono ?_
  rintro e w1 ⟨rfl, hb⟩
  go_wp2_with fail
  refine bodyPost_ret (v := .tuple #[.int .i64 (readD s).1, .bool (readD s).2]) (by simp [results, Tryd.results10, go_sem]) rfl ?_
  exact ⟨rfl, hb⟩

set_option maxHeartbeats 1000000 in
theorem walk_FnExactReadDecimal {w : World} (hL : laidMet Tryd.prog Rows.fnExactReadDecimalRow.laid w) (s : ByteArray) (_ : s.size ≤ 9223372036854775807) :
    Calls Tryd.prog 3 #[.string s] w (Ret w (.bool true)) := by
  have HT := Lib.hid (tab_of hL.tail.tail)
  have HE := Lib.hid (errs_of hL.tail.tail.tail)
  clear hL
  by_cases hs : 1048576 < s.size
  · go_enter Tryd.func3, Tryd.ntmps3
    go_wp2_with fail
    go_ret
    exact ⟨rfl, Below.refl _ _⟩
  · go_enter Tryd.func3, Tryd.ntmps3
    go_wp2_with fail
    refine (specReadDecimal_any s _ (by omega)).mono ?_
    rintro e w1 ⟨rfl, hb1⟩
    have HT1 := Lib.hid (HT.out.bel hb1)
    have HE1 := Lib.hid (HE.out.bel hb1)
    obtain ⟨v, hv⟩ : ∃ v, (readD s).1 = v := ⟨_, rfl⟩
    obtain ⟨b, hbq⟩ : ∃ b, (readD s).2 = b := ⟨_, rfl⟩
    have HV := Lib.hid hv
    have HB := Lib.hid hbq
    rw [hv, hbq]
    clear hv hbq
    go_wp2_with fail
    refine (implReadDecimal_any s _ (by omega) HT1.out HE1.out).mono ?_
    rintro e w2 ⟨rfl, hb2⟩
    rw [HV.out, HB.out]
    cases b
    all_goals
      go_wp2_with fail
      go_ret
      exact ⟨rfl, bel_next hb1 hb2⟩

end Go.Proofs.YtlblnknglplgjaaDoor
