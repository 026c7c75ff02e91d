/-
  No cell of these rows narrows 'for every input' (looked for: loops, veiled, ifaces, maps, wideKeys, modest, calm, conditions, laid).
  DERIVED. THE GIVEN ROWS OF THIS SEAT. 12 by the template 'for every input the law returns true; each argument reads behind the call as it read before'; 0 by the template 'total and deterministic' (their statements: YtnipibccbegfoaaTotals.lean).
  GIVEN WITH THE SEED: the statements are not yours to turn. If you find one false, say at which input.
  Laid BY PROGRAM, IN A SANDBOX (cutbox-rows.mjs): the forced cells as the released guide's own fill.sh prints them over the translation 0e54a9a7d55dc7f7… (all of the seat's roots in one cut). By AI agents, Wed Nov 11 2026. No macro, syntax, notation, axiom, sorry.
-/
import Derived.Test.YtnipibccbegfoaaChecked
import GoSem.Claim
import GoSem.ClaimJoined
import GoSem.ClaimMapViews
import Derived.JoinedTies
import Derived.KernelRfl
namespace Go.Proofs.Ytnipibccbegfoaa
/- THE CELL 'sum', in the pinned program and in every row, IS THE sha256 OF THE DUMP (.gsa) THAT YtnipibccbegfoaaProg.lean LOADS. Nothing in Lean hashes anything: it is a label: what it is worth is what the hold of that sum in a sandbox is worth. -/
noncomputable def Try.pinned : Pinned := { name := "ytnipibccbegfoaa", sum := "0e54a9a7d55dc7f7953ab20920f1935f344744552b28f772c6bbcd88c264ba1f", checked := Try.checked }
namespace Rows
def none {H : Type} : Left H := { results := [], args := [] }

/-- 'laws.FnExactConstants': WHATEVER THE INPUT: true; the input reads as it did. -/
def fnExactConstantsSpec : ChangeSpec := { name := "fnExactConstants", fn := fun _ => fun
  | [] => { results := [.lit (.bool true)], args := [] }
  | _ => none }
def fnExactConstantsRow : OpenClaim := { program := "ytnipibccbegfoaa", sum := "0e54a9a7d55dc7f7953ab20920f1935f344744552b28f772c6bbcd88c264ba1f", func := "loop.example/g01046/laws.FnExactConstants", spec := "fnExactConstants", apart := false }
def FnExactConstantsSaid : Prop := fnExactConstantsRow.holds Try.pinned (OpenSpec.ofChange fnExactConstantsSpec)

/-- ITS FALSE NEIGHBOUR: 'it returns false'. Refute it at one input. -/
def fnExactConstantsWrong : ChangeSpec := { name := "fnExactConstants", fn := fun _ => fun
  | [] => { results := [.lit (.bool false)], args := [] }
  | _ => none }
def FnExactConstantsWrongFalsely : Prop := fnExactConstantsRow.holds Try.pinned (OpenSpec.ofChange fnExactConstantsWrong)

/-- 'laws.FnExactValidRide': WHATEVER THE INPUT: true; the input reads as it did. -/
def fnExactValidRideSpec : ChangeSpec := { name := "fnExactValidRide", fn := fun _ => fun
  | [d] => { results := [.lit (.bool true)], args := [d] }
  | _ => none }
def fnExactValidRideRow : OpenClaim := { program := "ytnipibccbegfoaa", sum := "0e54a9a7d55dc7f7953ab20920f1935f344744552b28f772c6bbcd88c264ba1f", func := "loop.example/g01046/laws.FnExactValidRide", spec := "fnExactValidRide", apart := false }
def FnExactValidRideSaid : Prop := fnExactValidRideRow.holds Try.pinned (OpenSpec.ofChange fnExactValidRideSpec)

/-- ITS FALSE NEIGHBOUR: 'it returns false'. Refute it at one input. -/
def fnExactValidRideWrong : ChangeSpec := { name := "fnExactValidRide", fn := fun _ => fun
  | [d] => { results := [.lit (.bool false)], args := [d] }
  | _ => none }
def FnExactValidRideWrongFalsely : Prop := fnExactValidRideRow.holds Try.pinned (OpenSpec.ofChange fnExactValidRideWrong)

/-- 'laws.FnExactIsName': WHATEVER THE INPUT: true; the input reads as it did. -/
def fnExactIsNameSpec : ChangeSpec := { name := "fnExactIsName", fn := fun _ => fun
  | [d] => { results := [.lit (.bool true)], args := [d] }
  | _ => none }
def fnExactIsNameRow : OpenClaim := { program := "ytnipibccbegfoaa", sum := "0e54a9a7d55dc7f7953ab20920f1935f344744552b28f772c6bbcd88c264ba1f", func := "loop.example/g01046/laws.FnExactIsName", spec := "fnExactIsName", apart := false }
def FnExactIsNameSaid : Prop := fnExactIsNameRow.holds Try.pinned (OpenSpec.ofChange fnExactIsNameSpec)

/-- ITS FALSE NEIGHBOUR: 'it returns false'. Refute it at one input. -/
def fnExactIsNameWrong : ChangeSpec := { name := "fnExactIsName", fn := fun _ => fun
  | [d] => { results := [.lit (.bool false)], args := [d] }
  | _ => none }
def FnExactIsNameWrongFalsely : Prop := fnExactIsNameRow.holds Try.pinned (OpenSpec.ofChange fnExactIsNameWrong)

/-- 'laws.FnExactTicksOfRide': WHATEVER THE INPUT: true; the input reads as it did. -/
def fnExactTicksOfRideSpec : ChangeSpec := { name := "fnExactTicksOfRide", fn := fun _ => fun
  | [d] => { results := [.lit (.bool true)], args := [d] }
  | _ => none }
def fnExactTicksOfRideRow : OpenClaim := { program := "ytnipibccbegfoaa", sum := "0e54a9a7d55dc7f7953ab20920f1935f344744552b28f772c6bbcd88c264ba1f", func := "loop.example/g01046/laws.FnExactTicksOfRide", spec := "fnExactTicksOfRide", apart := false }
def FnExactTicksOfRideSaid : Prop := fnExactTicksOfRideRow.holds Try.pinned (OpenSpec.ofChange fnExactTicksOfRideSpec)

/-- ITS FALSE NEIGHBOUR: 'it returns false'. Refute it at one input. -/
def fnExactTicksOfRideWrong : ChangeSpec := { name := "fnExactTicksOfRide", fn := fun _ => fun
  | [d] => { results := [.lit (.bool false)], args := [d] }
  | _ => none }
def FnExactTicksOfRideWrongFalsely : Prop := fnExactTicksOfRideRow.holds Try.pinned (OpenSpec.ofChange fnExactTicksOfRideWrong)

/-- 'laws.FnExactCatchUp': WHATEVER THE INPUT: true; the input reads as it did. -/
def fnExactCatchUpSpec : ChangeSpec := { name := "fnExactCatchUp", fn := fun _ => fun
  | [d1, d2, d3] => { results := [.lit (.bool true)], args := [d1, d2, d3] }
  | _ => none }
def fnExactCatchUpRow : OpenClaim := { program := "ytnipibccbegfoaa", sum := "0e54a9a7d55dc7f7953ab20920f1935f344744552b28f772c6bbcd88c264ba1f", func := "loop.example/g01046/laws.FnExactCatchUp", spec := "fnExactCatchUp", apart := false }
def FnExactCatchUpSaid : Prop := fnExactCatchUpRow.holds Try.pinned (OpenSpec.ofChange fnExactCatchUpSpec)

/-- ITS FALSE NEIGHBOUR: 'it returns false'. Refute it at one input. -/
def fnExactCatchUpWrong : ChangeSpec := { name := "fnExactCatchUp", fn := fun _ => fun
  | [d1, d2, d3] => { results := [.lit (.bool false)], args := [d1, d2, d3] }
  | _ => none }
def FnExactCatchUpWrongFalsely : Prop := fnExactCatchUpRow.holds Try.pinned (OpenSpec.ofChange fnExactCatchUpWrong)

/-- 'laws.FnExactHeaviestFor': WHATEVER THE INPUT: true; the input reads as it did. -/
def fnExactHeaviestForSpec : ChangeSpec := { name := "fnExactHeaviestFor", fn := fun _ => fun
  | [d1, d2] => { results := [.lit (.bool true)], args := [d1, d2] }
  | _ => none }
def fnExactHeaviestForRow : OpenClaim := { program := "ytnipibccbegfoaa", sum := "0e54a9a7d55dc7f7953ab20920f1935f344744552b28f772c6bbcd88c264ba1f", func := "loop.example/g01046/laws.FnExactHeaviestFor", spec := "fnExactHeaviestFor", apart := false }
def FnExactHeaviestForSaid : Prop := fnExactHeaviestForRow.holds Try.pinned (OpenSpec.ofChange fnExactHeaviestForSpec)

/-- ITS FALSE NEIGHBOUR: 'it returns false'. Refute it at one input. -/
def fnExactHeaviestForWrong : ChangeSpec := { name := "fnExactHeaviestFor", fn := fun _ => fun
  | [d1, d2] => { results := [.lit (.bool false)], args := [d1, d2] }
  | _ => none }
def FnExactHeaviestForWrongFalsely : Prop := fnExactHeaviestForRow.holds Try.pinned (OpenSpec.ofChange fnExactHeaviestForWrong)

/-- 'laws.FnExactPressureFor': WHATEVER THE INPUT: true; the input reads as it did. -/
def fnExactPressureForSpec : ChangeSpec := { name := "fnExactPressureFor", fn := fun _ => fun
  | [d1, d2] => { results := [.lit (.bool true)], args := [d1, d2] }
  | _ => none }
def fnExactPressureForRow : OpenClaim := { program := "ytnipibccbegfoaa", sum := "0e54a9a7d55dc7f7953ab20920f1935f344744552b28f772c6bbcd88c264ba1f", func := "loop.example/g01046/laws.FnExactPressureFor", spec := "fnExactPressureFor", apart := false }
def FnExactPressureForSaid : Prop := fnExactPressureForRow.holds Try.pinned (OpenSpec.ofChange fnExactPressureForSpec)

/-- ITS FALSE NEIGHBOUR: 'it returns false'. Refute it at one input. -/
def fnExactPressureForWrong : ChangeSpec := { name := "fnExactPressureFor", fn := fun _ => fun
  | [d1, d2] => { results := [.lit (.bool false)], args := [d1, d2] }
  | _ => none }
def FnExactPressureForWrongFalsely : Prop := fnExactPressureForRow.holds Try.pinned (OpenSpec.ofChange fnExactPressureForWrong)

/-- 'laws.FnExactSpeedOf': WHATEVER THE INPUT: true; the input reads as it did. -/
def fnExactSpeedOfSpec : ChangeSpec := { name := "fnExactSpeedOf", fn := fun _ => fun
  | [d] => { results := [.lit (.bool true)], args := [d] }
  | _ => none }
def fnExactSpeedOfRow : OpenClaim := { program := "ytnipibccbegfoaa", sum := "0e54a9a7d55dc7f7953ab20920f1935f344744552b28f772c6bbcd88c264ba1f", func := "loop.example/g01046/laws.FnExactSpeedOf", spec := "fnExactSpeedOf", apart := false }
def FnExactSpeedOfSaid : Prop := fnExactSpeedOfRow.holds Try.pinned (OpenSpec.ofChange fnExactSpeedOfSpec)

/-- ITS FALSE NEIGHBOUR: 'it returns false'. Refute it at one input. -/
def fnExactSpeedOfWrong : ChangeSpec := { name := "fnExactSpeedOf", fn := fun _ => fun
  | [d] => { results := [.lit (.bool false)], args := [d] }
  | _ => none }
def FnExactSpeedOfWrongFalsely : Prop := fnExactSpeedOfRow.holds Try.pinned (OpenSpec.ofChange fnExactSpeedOfWrong)

/-- 'laws.FnExactTicksOfWay': WHATEVER THE INPUT: true; the input reads as it did. -/
def fnExactTicksOfWaySpec : ChangeSpec := { name := "fnExactTicksOfWay", fn := fun _ => fun
  | [d] => { results := [.lit (.bool true)], args := [d] }
  | _ => none }
def fnExactTicksOfWayRow : OpenClaim := { program := "ytnipibccbegfoaa", sum := "0e54a9a7d55dc7f7953ab20920f1935f344744552b28f772c6bbcd88c264ba1f", func := "loop.example/g01046/laws.FnExactTicksOfWay", spec := "fnExactTicksOfWay", unfollowed := true, recurses := true, apart := false }
def FnExactTicksOfWaySaid : Prop := fnExactTicksOfWayRow.holds Try.pinned (OpenSpec.ofChange fnExactTicksOfWaySpec)

/-- ITS FALSE NEIGHBOUR: 'it returns false'. Refute it at one input. -/
def fnExactTicksOfWayWrong : ChangeSpec := { name := "fnExactTicksOfWay", fn := fun _ => fun
  | [d] => { results := [.lit (.bool false)], args := [d] }
  | _ => none }
def FnExactTicksOfWayWrongFalsely : Prop := fnExactTicksOfWayRow.holds Try.pinned (OpenSpec.ofChange fnExactTicksOfWayWrong)

/-- 'laws.FnExactSlowestRide': WHATEVER THE INPUT: true; the input reads as it did. -/
def fnExactSlowestRideSpec : ChangeSpec := { name := "fnExactSlowestRide", fn := fun _ => fun
  | [d] => { results := [.lit (.bool true)], args := [d] }
  | _ => none }
def fnExactSlowestRideRow : OpenClaim := { program := "ytnipibccbegfoaa", sum := "0e54a9a7d55dc7f7953ab20920f1935f344744552b28f772c6bbcd88c264ba1f", func := "loop.example/g01046/laws.FnExactSlowestRide", spec := "fnExactSlowestRide", unfollowed := true, recurses := true, apart := false }
def FnExactSlowestRideSaid : Prop := fnExactSlowestRideRow.holds Try.pinned (OpenSpec.ofChange fnExactSlowestRideSpec)

/-- ITS FALSE NEIGHBOUR: 'it returns false'. Refute it at one input. -/
def fnExactSlowestRideWrong : ChangeSpec := { name := "fnExactSlowestRide", fn := fun _ => fun
  | [d] => { results := [.lit (.bool false)], args := [d] }
  | _ => none }
def FnExactSlowestRideWrongFalsely : Prop := fnExactSlowestRideRow.holds Try.pinned (OpenSpec.ofChange fnExactSlowestRideWrong)

/-- 'laws.FnExactPlaceAfter': WHATEVER THE INPUT: true; the input reads as it did. -/
def fnExactPlaceAfterSpec : ChangeSpec := { name := "fnExactPlaceAfter", fn := fun _ => fun
  | [d1, d2] => { results := [.lit (.bool true)], args := [d1, d2] }
  | _ => none }
def fnExactPlaceAfterRow : OpenClaim := { program := "ytnipibccbegfoaa", sum := "0e54a9a7d55dc7f7953ab20920f1935f344744552b28f772c6bbcd88c264ba1f", func := "loop.example/g01046/laws.FnExactPlaceAfter", spec := "fnExactPlaceAfter", unfollowed := true, recurses := true, apart := false }
def FnExactPlaceAfterSaid : Prop := fnExactPlaceAfterRow.holds Try.pinned (OpenSpec.ofChange fnExactPlaceAfterSpec)

/-- ITS FALSE NEIGHBOUR: 'it returns false'. Refute it at one input. -/
def fnExactPlaceAfterWrong : ChangeSpec := { name := "fnExactPlaceAfter", fn := fun _ => fun
  | [d1, d2] => { results := [.lit (.bool false)], args := [d1, d2] }
  | _ => none }
def FnExactPlaceAfterWrongFalsely : Prop := fnExactPlaceAfterRow.holds Try.pinned (OpenSpec.ofChange fnExactPlaceAfterWrong)

/-- 'laws.FnExactBestPressures': WHATEVER THE INPUT: true; the input reads as it did. -/
def fnExactBestPressuresSpec : ChangeSpec := { name := "fnExactBestPressures", fn := fun _ => fun
  | [d1, d2] => { results := [.lit (.bool true)], args := [d1, d2] }
  | _ => none }
def fnExactBestPressuresRow : OpenClaim := { program := "ytnipibccbegfoaa", sum := "0e54a9a7d55dc7f7953ab20920f1935f344744552b28f772c6bbcd88c264ba1f", func := "loop.example/g01046/laws.FnExactBestPressures", spec := "fnExactBestPressures", unfollowed := true, recurses := true, apart := false }
def FnExactBestPressuresSaid : Prop := fnExactBestPressuresRow.holds Try.pinned (OpenSpec.ofChange fnExactBestPressuresSpec)

/-- ITS FALSE NEIGHBOUR: 'it returns false'. Refute it at one input. -/
def fnExactBestPressuresWrong : ChangeSpec := { name := "fnExactBestPressures", fn := fun _ => fun
  | [d1, d2] => { results := [.lit (.bool false)], args := [d1, d2] }
  | _ => none }
def FnExactBestPressuresWrongFalsely : Prop := fnExactBestPressuresRow.holds Try.pinned (OpenSpec.ofChange fnExactBestPressuresWrong)

/- THE SECOND FORM. 'bulk': how many values and letters a reading holds, each counted each time it is reached (what is shared counts as often as it is met; a slice's spare places count too). A statement '..UptoSaid' is the law's where the arguments, and the package variables that the reading takes, are together of bulk at most 1048576: NARROWER than '..Said'. Prove '..Said' where nothing that the law and all that it calls make is longer than what came in: it says more and counts as full. Else prove '..UptoSaid'. A law counts once. -/
mutual
def uptoBulk {H : Type} : DataW H → Nat
  | .lit (.string bytes) => bytes.length + 1
  | .lit _ => 1
  | .nil => 1
  | .ptr d => uptoBulk d + 1
  | .slice elems spare => uptoBulkAll elems + uptoBulkAll spare + 1
  | .agg parts => uptoBulkAll parts + 1
  | .iface _ d => uptoBulk d + 1
  | .map entries => uptoBulkEntries entries + 1
  | .held _ => 1
def uptoBulkAll {H : Type} : List (DataW H) → Nat
  | [] => 0
  | d :: r => uptoBulk d + uptoBulkAll r
def uptoBulkEntries {H : Type} : List (Lit × DataW H) → Nat
  | [] => 0
  | x :: r => uptoBulkEntry x + uptoBulkEntries r
def uptoBulkEntry {H : Type} : Lit × DataW H → Nat
  | (.string bytes, d) => bytes.length + uptoBulk d + 1
  | (_, d) => uptoBulk d + 1
 end
def uptoSmall : (H : Type) → List (DataW H) → Bool := fun _ ds => decide (uptoBulkAll ds ≤ 1048576)
def OpenSpec.upto (s : _root_.Go.ChangeSpec) : _root_.Go.OpenSpec := { _root_.Go.OpenSpec.ofChange s with cond := some uptoSmall }

/-- 'laws.FnExactConstants', WHERE WHAT IT READS IS OF BULK AT MOST 1048576: true; the input reads as it did. -/
def fnExactConstantsUptoRow : OpenClaim := { program := "ytnipibccbegfoaa", sum := "0e54a9a7d55dc7f7953ab20920f1935f344744552b28f772c6bbcd88c264ba1f", func := "loop.example/g01046/laws.FnExactConstants", spec := "fnExactConstants", apart := false, narrowed := true }
def FnExactConstantsUptoSaid : Prop := fnExactConstantsUptoRow.holds Try.pinned (OpenSpec.upto fnExactConstantsSpec)

/-- 'laws.FnExactValidRide', WHERE WHAT IT READS IS OF BULK AT MOST 1048576: true; the input reads as it did. -/
def fnExactValidRideUptoRow : OpenClaim := { program := "ytnipibccbegfoaa", sum := "0e54a9a7d55dc7f7953ab20920f1935f344744552b28f772c6bbcd88c264ba1f", func := "loop.example/g01046/laws.FnExactValidRide", spec := "fnExactValidRide", apart := false, narrowed := true }
def FnExactValidRideUptoSaid : Prop := fnExactValidRideUptoRow.holds Try.pinned (OpenSpec.upto fnExactValidRideSpec)

/-- 'laws.FnExactIsName', WHERE WHAT IT READS IS OF BULK AT MOST 1048576: true; the input reads as it did. -/
def fnExactIsNameUptoRow : OpenClaim := { program := "ytnipibccbegfoaa", sum := "0e54a9a7d55dc7f7953ab20920f1935f344744552b28f772c6bbcd88c264ba1f", func := "loop.example/g01046/laws.FnExactIsName", spec := "fnExactIsName", apart := false, narrowed := true }
def FnExactIsNameUptoSaid : Prop := fnExactIsNameUptoRow.holds Try.pinned (OpenSpec.upto fnExactIsNameSpec)

/-- 'laws.FnExactTicksOfRide', WHERE WHAT IT READS IS OF BULK AT MOST 1048576: true; the input reads as it did. -/
def fnExactTicksOfRideUptoRow : OpenClaim := { program := "ytnipibccbegfoaa", sum := "0e54a9a7d55dc7f7953ab20920f1935f344744552b28f772c6bbcd88c264ba1f", func := "loop.example/g01046/laws.FnExactTicksOfRide", spec := "fnExactTicksOfRide", apart := false, narrowed := true }
def FnExactTicksOfRideUptoSaid : Prop := fnExactTicksOfRideUptoRow.holds Try.pinned (OpenSpec.upto fnExactTicksOfRideSpec)

/-- 'laws.FnExactCatchUp', WHERE WHAT IT READS IS OF BULK AT MOST 1048576: true; the input reads as it did. -/
def fnExactCatchUpUptoRow : OpenClaim := { program := "ytnipibccbegfoaa", sum := "0e54a9a7d55dc7f7953ab20920f1935f344744552b28f772c6bbcd88c264ba1f", func := "loop.example/g01046/laws.FnExactCatchUp", spec := "fnExactCatchUp", apart := false, narrowed := true }
def FnExactCatchUpUptoSaid : Prop := fnExactCatchUpUptoRow.holds Try.pinned (OpenSpec.upto fnExactCatchUpSpec)

/-- 'laws.FnExactHeaviestFor', WHERE WHAT IT READS IS OF BULK AT MOST 1048576: true; the input reads as it did. -/
def fnExactHeaviestForUptoRow : OpenClaim := { program := "ytnipibccbegfoaa", sum := "0e54a9a7d55dc7f7953ab20920f1935f344744552b28f772c6bbcd88c264ba1f", func := "loop.example/g01046/laws.FnExactHeaviestFor", spec := "fnExactHeaviestFor", apart := false, narrowed := true }
def FnExactHeaviestForUptoSaid : Prop := fnExactHeaviestForUptoRow.holds Try.pinned (OpenSpec.upto fnExactHeaviestForSpec)

/-- 'laws.FnExactPressureFor', WHERE WHAT IT READS IS OF BULK AT MOST 1048576: true; the input reads as it did. -/
def fnExactPressureForUptoRow : OpenClaim := { program := "ytnipibccbegfoaa", sum := "0e54a9a7d55dc7f7953ab20920f1935f344744552b28f772c6bbcd88c264ba1f", func := "loop.example/g01046/laws.FnExactPressureFor", spec := "fnExactPressureFor", apart := false, narrowed := true }
def FnExactPressureForUptoSaid : Prop := fnExactPressureForUptoRow.holds Try.pinned (OpenSpec.upto fnExactPressureForSpec)

/-- 'laws.FnExactSpeedOf', WHERE WHAT IT READS IS OF BULK AT MOST 1048576: true; the input reads as it did. -/
def fnExactSpeedOfUptoRow : OpenClaim := { program := "ytnipibccbegfoaa", sum := "0e54a9a7d55dc7f7953ab20920f1935f344744552b28f772c6bbcd88c264ba1f", func := "loop.example/g01046/laws.FnExactSpeedOf", spec := "fnExactSpeedOf", apart := false, narrowed := true }
def FnExactSpeedOfUptoSaid : Prop := fnExactSpeedOfUptoRow.holds Try.pinned (OpenSpec.upto fnExactSpeedOfSpec)

/-- 'laws.FnExactTicksOfWay', WHERE WHAT IT READS IS OF BULK AT MOST 1048576: true; the input reads as it did. -/
def fnExactTicksOfWayUptoRow : OpenClaim := { program := "ytnipibccbegfoaa", sum := "0e54a9a7d55dc7f7953ab20920f1935f344744552b28f772c6bbcd88c264ba1f", func := "loop.example/g01046/laws.FnExactTicksOfWay", spec := "fnExactTicksOfWay", unfollowed := true, recurses := true, apart := false, narrowed := true }
def FnExactTicksOfWayUptoSaid : Prop := fnExactTicksOfWayUptoRow.holds Try.pinned (OpenSpec.upto fnExactTicksOfWaySpec)

/-- 'laws.FnExactSlowestRide', WHERE WHAT IT READS IS OF BULK AT MOST 1048576: true; the input reads as it did. -/
def fnExactSlowestRideUptoRow : OpenClaim := { program := "ytnipibccbegfoaa", sum := "0e54a9a7d55dc7f7953ab20920f1935f344744552b28f772c6bbcd88c264ba1f", func := "loop.example/g01046/laws.FnExactSlowestRide", spec := "fnExactSlowestRide", unfollowed := true, recurses := true, apart := false, narrowed := true }
def FnExactSlowestRideUptoSaid : Prop := fnExactSlowestRideUptoRow.holds Try.pinned (OpenSpec.upto fnExactSlowestRideSpec)

/-- 'laws.FnExactPlaceAfter', WHERE WHAT IT READS IS OF BULK AT MOST 1048576: true; the input reads as it did. -/
def fnExactPlaceAfterUptoRow : OpenClaim := { program := "ytnipibccbegfoaa", sum := "0e54a9a7d55dc7f7953ab20920f1935f344744552b28f772c6bbcd88c264ba1f", func := "loop.example/g01046/laws.FnExactPlaceAfter", spec := "fnExactPlaceAfter", unfollowed := true, recurses := true, apart := false, narrowed := true }
def FnExactPlaceAfterUptoSaid : Prop := fnExactPlaceAfterUptoRow.holds Try.pinned (OpenSpec.upto fnExactPlaceAfterSpec)

/-- 'laws.FnExactBestPressures', WHERE WHAT IT READS IS OF BULK AT MOST 1048576: true; the input reads as it did. -/
def fnExactBestPressuresUptoRow : OpenClaim := { program := "ytnipibccbegfoaa", sum := "0e54a9a7d55dc7f7953ab20920f1935f344744552b28f772c6bbcd88c264ba1f", func := "loop.example/g01046/laws.FnExactBestPressures", spec := "fnExactBestPressures", unfollowed := true, recurses := true, apart := false, narrowed := true }
def FnExactBestPressuresUptoSaid : Prop := fnExactBestPressuresUptoRow.holds Try.pinned (OpenSpec.upto fnExactBestPressuresSpec)

end Rows
end Go.Proofs.Ytnipibccbegfoaa
