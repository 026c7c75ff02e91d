/-
  WHAT THE WALK OF A LAW IS TOLD OF EACH ARGUMENT, out of the argument's reading. No program in sight.
-/
import Derived.Test.YtnipibccbegfoaaBase
import Derived.ProofKit
import Derived.OpenShut
import Derived.ShutString
import Derived.ChangeOld
import Derived.Lib.SmallJoins
namespace Go.Proofs.Ytnipibccbegfoaa
open Go.ChangeShapes Go.WideShapes Go.ChangeAt Go.RowKit Go.Joins Go.Deep
open Go.ChangeMaps (open_string shut_string)

section
variable {H : Type} {enc : TypeId × Value → H} {P : Program} {w : World} {base : Nat} {spare : Nat → Bool} {held : Bool} {r : Reach} {b0 : Nat} {t e : TypeId} {v : Value} {d : DataW H} {p : List MemPlace}
def IsInt (v : Value) : Prop := ∃ n : Int, v = .int .i64 n ∧ -9223372036854775808 ≤ n ∧ n ≤ 9223372036854775807
theorem i64_bd {n : Int} (h : (Lit.int .i64 n).wf = true) : -9223372036854775808 ≤ n ∧ n ≤ 9223372036854775807 := by
  simp [Lit.wf, IntKind.min, IntKind.max, IntKind.signed, IntKind.bits] at h
  omega
theorem isInt (ht : P.underlying t = some (.int .i64)) (hv : Value.okWide P w r b0 t v) (h : DataW.Trod enc P w base spare held t v d p) : IsInt v := by
  obtain ⟨n, rfl, _, _, wn⟩ := open_int ht hv h
  exact ⟨n, rfl, i64_bd wn⟩
def IsInt4 (v : Value) : Prop := ∃ L W P B : Int, v = .agg #[.int .i64 L, .int .i64 W, .int .i64 P, .int .i64 B]
theorem field_int {f : Field} {y : DataW H × List MemPlace} {n : Nat} (ht : P.underlying f.type = some (.int .i64)) (h : DataW.trod enc P w base spare held n f.type [v] = some y) : ∃ a : Int, v = .int .i64 a := by
  obtain ⟨a, e0, _, _⟩ := DataW.trod_int ht h
  exact ⟨a, by simpa using e0⟩
theorem isInt4 {f0 f1 f2 f3 : Field} (hs : P.underlying t = some (.struct #[f0, f1, f2, f3])) (hone : oneCellFields P #[f0, f1, f2, f3] = true) (hC : P.cellsOf t = 4)
    (i0 : P.underlying f0.type = some (.int .i64)) (i1 : P.underlying f1.type = some (.int .i64)) (i2 : P.underlying f2.type = some (.int .i64)) (i3 : P.underlying f3.type = some (.int .i64))
    (hv : Value.okWide P w r b0 t v) (h : DataW.Trod enc P w base spare held t v d p) : IsInt4 v := by
  obtain ⟨v0, v1, v2, v3, y0, y1, y2, y3, n, rfl, _, _, g0, g1, g2, g3⟩ := open_agg4 hs hone hC hv h
  obtain ⟨a, rfl⟩ := field_int i0 g0
  obtain ⟨b, rfl⟩ := field_int i1 g1
  obtain ⟨c, rfl⟩ := field_int i2 g2
  obtain ⟨d, rfl⟩ := field_int i3 g3
  exact ⟨a, b, c, d, rfl⟩
theorem isString (ht : P.underlying t = some .string) (hv : Value.okWide P w r b0 t v) (h : DataW.Trod enc P w base spare held t v d p) : ∃ s : ByteArray, v = .string s ∧ s.size ≤ 9223372036854775807 := by
  obtain ⟨s, rfl, _, _, ws⟩ := open_string ht hv h
  exact ⟨s, rfl, by unfold maxLen at ws; omega⟩

end

end Go.Proofs.Ytnipibccbegfoaa
