/-
  No cell of these rows narrows 'for every input' (looked for: loops, veiled, ifaces, maps, wideKeys, modest, calm, conditions, laid).
  DERIVED. THE GIVEN ROWS OF THIS SEAT. 9 by the template 'for every input the law returns true; each argument reads behind the call as it read before'; 0 by the template 'total and deterministic' (their statements: YthkfdpicacaphaaTotals.lean).
  GIVEN WITH THE SEED: the statements are not yours to turn. If you find one false, say at which input.
  Laid BY PROGRAM, IN A SANDBOX (cutbox-rows.mjs): the forced cells as the released guide's own fill.sh prints them over the translation b6773d3a25a92e27… (all of the seat's roots in one cut). By AI agents, Wed Nov 11 2026. No macro, syntax, notation, axiom, sorry.
-/
import Derived.Test.YthkfdpicacaphaaChecked
import GoSem.Claim
import GoSem.ClaimJoined
import GoSem.ClaimMapViews
import Derived.JoinedTies
import Derived.KernelRfl
namespace Go.Proofs.Ythkfdpicacaphaa
/- THE CELL 'sum', in the pinned program and in every row, IS THE sha256 OF THE DUMP (.gsa) THAT YthkfdpicacaphaaProg.lean LOADS. Nothing in Lean hashes anything: it is a label: what it is worth is what the hold of that sum in a sandbox is worth. -/
noncomputable def Try.pinned : Pinned := { name := "ythkfdpicacaphaa", sum := "b6773d3a25a92e276a0ca4302fcf8dee933077b9f158b406a104fd481c550344", checked := Try.checked }
namespace Rows
def none {H : Type} : Left H := { results := [], args := [] }

/-- 'laws.FnExactValidSetting': WHATEVER THE INPUT: true; the input reads as it did. -/
def fnExactValidSettingSpec : ChangeSpec := { name := "fnExactValidSetting", fn := fun _ => fun
  | [d1, d2] => { results := [.lit (.bool true)], args := [d1, d2] }
  | _ => none }
def fnExactValidSettingRow : OpenClaim := { program := "ythkfdpicacaphaa", sum := "b6773d3a25a92e276a0ca4302fcf8dee933077b9f158b406a104fd481c550344", func := "loop.example/g01046/laws.FnExactValidSetting", spec := "fnExactValidSetting", unfollowed := true, recurses := true, apart := false }
def FnExactValidSettingSaid : Prop := fnExactValidSettingRow.holds Try.pinned (OpenSpec.ofChange fnExactValidSettingSpec)

/-- ITS FALSE NEIGHBOUR: 'it returns false'. Refute it at one input. -/
def fnExactValidSettingWrong : ChangeSpec := { name := "fnExactValidSetting", fn := fun _ => fun
  | [d1, d2] => { results := [.lit (.bool false)], args := [d1, d2] }
  | _ => none }
def FnExactValidSettingWrongFalsely : Prop := fnExactValidSettingRow.holds Try.pinned (OpenSpec.ofChange fnExactValidSettingWrong)

/-- 'laws.FnExactEndOf': WHATEVER THE INPUT: true; the input reads as it did. -/
def fnExactEndOfSpec : ChangeSpec := { name := "fnExactEndOf", fn := fun _ => fun
  | [d1, d2, d3] => { results := [.lit (.bool true)], args := [d1, d2, d3] }
  | _ => none }
def fnExactEndOfRow : OpenClaim := { program := "ythkfdpicacaphaa", sum := "b6773d3a25a92e276a0ca4302fcf8dee933077b9f158b406a104fd481c550344", func := "loop.example/g01046/laws.FnExactEndOf", spec := "fnExactEndOf", unfollowed := true, recurses := true, apart := false }
def FnExactEndOfSaid : Prop := fnExactEndOfRow.holds Try.pinned (OpenSpec.ofChange fnExactEndOfSpec)

/-- ITS FALSE NEIGHBOUR: 'it returns false'. Refute it at one input. -/
def fnExactEndOfWrong : ChangeSpec := { name := "fnExactEndOf", fn := fun _ => fun
  | [d1, d2, d3] => { results := [.lit (.bool false)], args := [d1, d2, d3] }
  | _ => none }
def FnExactEndOfWrongFalsely : Prop := fnExactEndOfRow.holds Try.pinned (OpenSpec.ofChange fnExactEndOfWrong)

/-- 'laws.FnExactCircleStations': WHATEVER THE INPUT: true; the input reads as it did. -/
def fnExactCircleStationsSpec : ChangeSpec := { name := "fnExactCircleStations", fn := fun _ => fun
  | [d1, d2] => { results := [.lit (.bool true)], args := [d1, d2] }
  | _ => none }
def fnExactCircleStationsRow : OpenClaim := { program := "ythkfdpicacaphaa", sum := "b6773d3a25a92e276a0ca4302fcf8dee933077b9f158b406a104fd481c550344", func := "loop.example/g01046/laws.FnExactCircleStations", spec := "fnExactCircleStations", unfollowed := true, recurses := true, apart := false }
def FnExactCircleStationsSaid : Prop := fnExactCircleStationsRow.holds Try.pinned (OpenSpec.ofChange fnExactCircleStationsSpec)

/-- ITS FALSE NEIGHBOUR: 'it returns false'. Refute it at one input. -/
def fnExactCircleStationsWrong : ChangeSpec := { name := "fnExactCircleStations", fn := fun _ => fun
  | [d1, d2] => { results := [.lit (.bool false)], args := [d1, d2] }
  | _ => none }
def FnExactCircleStationsWrongFalsely : Prop := fnExactCircleStationsRow.holds Try.pinned (OpenSpec.ofChange fnExactCircleStationsWrong)

/-- 'laws.FnExactRouteOf': WHATEVER THE INPUT: true; the input reads as it did. -/
def fnExactRouteOfSpec : ChangeSpec := { name := "fnExactRouteOf", fn := fun _ => fun
  | [d1, d2, d3, d4] => { results := [.lit (.bool true)], args := [d1, d2, d3, d4] }
  | _ => none }
def fnExactRouteOfRow : OpenClaim := { program := "ythkfdpicacaphaa", sum := "b6773d3a25a92e276a0ca4302fcf8dee933077b9f158b406a104fd481c550344", func := "loop.example/g01046/laws.FnExactRouteOf", spec := "fnExactRouteOf", unfollowed := true, recurses := true, apart := false }
def FnExactRouteOfSaid : Prop := fnExactRouteOfRow.holds Try.pinned (OpenSpec.ofChange fnExactRouteOfSpec)

/-- ITS FALSE NEIGHBOUR: 'it returns false'. Refute it at one input. -/
def fnExactRouteOfWrong : ChangeSpec := { name := "fnExactRouteOf", fn := fun _ => fun
  | [d1, d2, d3, d4] => { results := [.lit (.bool false)], args := [d1, d2, d3, d4] }
  | _ => none }
def FnExactRouteOfWrongFalsely : Prop := fnExactRouteOfRow.holds Try.pinned (OpenSpec.ofChange fnExactRouteOfWrong)

/-- 'laws.FnExactFirstClash': WHATEVER THE INPUT: true; the input reads as it did. -/
def fnExactFirstClashSpec : ChangeSpec := { name := "fnExactFirstClash", fn := fun _ => fun
  | [d1, d2, d3] => { results := [.lit (.bool true)], args := [d1, d2, d3] }
  | _ => none }
def fnExactFirstClashRow : OpenClaim := { program := "ythkfdpicacaphaa", sum := "b6773d3a25a92e276a0ca4302fcf8dee933077b9f158b406a104fd481c550344", func := "loop.example/g01046/laws.FnExactFirstClash", spec := "fnExactFirstClash", unfollowed := true, recurses := true, apart := false }
def FnExactFirstClashSaid : Prop := fnExactFirstClashRow.holds Try.pinned (OpenSpec.ofChange fnExactFirstClashSpec)

/-- ITS FALSE NEIGHBOUR: 'it returns false'. Refute it at one input. -/
def fnExactFirstClashWrong : ChangeSpec := { name := "fnExactFirstClash", fn := fun _ => fun
  | [d1, d2, d3] => { results := [.lit (.bool false)], args := [d1, d2, d3] }
  | _ => none }
def FnExactFirstClashWrongFalsely : Prop := fnExactFirstClashRow.holds Try.pinned (OpenSpec.ofChange fnExactFirstClashWrong)

/-- 'laws.FnExactWaysFit': WHATEVER THE INPUT: true; the input reads as it did. -/
def fnExactWaysFitSpec : ChangeSpec := { name := "fnExactWaysFit", fn := fun _ => fun
  | [d1, d2] => { results := [.lit (.bool true)], args := [d1, d2] }
  | _ => none }
def fnExactWaysFitRow : OpenClaim := { program := "ythkfdpicacaphaa", sum := "b6773d3a25a92e276a0ca4302fcf8dee933077b9f158b406a104fd481c550344", func := "loop.example/g01046/laws.FnExactWaysFit", spec := "fnExactWaysFit", unfollowed := true, recurses := true, apart := false }
def FnExactWaysFitSaid : Prop := fnExactWaysFitRow.holds Try.pinned (OpenSpec.ofChange fnExactWaysFitSpec)

/-- ITS FALSE NEIGHBOUR: 'it returns false'. Refute it at one input. -/
def fnExactWaysFitWrong : ChangeSpec := { name := "fnExactWaysFit", fn := fun _ => fun
  | [d1, d2] => { results := [.lit (.bool false)], args := [d1, d2] }
  | _ => none }
def FnExactWaysFitWrongFalsely : Prop := fnExactWaysFitRow.holds Try.pinned (OpenSpec.ofChange fnExactWaysFitWrong)

/-- 'laws.FnExactSetWay': WHATEVER THE INPUT: true; the input reads as it did. -/
def fnExactSetWaySpec : ChangeSpec := { name := "fnExactSetWay", fn := fun _ => fun
  | [d1, d2, d3] => { results := [.lit (.bool true)], args := [d1, d2, d3] }
  | _ => none }
def fnExactSetWayRow : OpenClaim := { program := "ythkfdpicacaphaa", sum := "b6773d3a25a92e276a0ca4302fcf8dee933077b9f158b406a104fd481c550344", func := "loop.example/g01046/laws.FnExactSetWay", spec := "fnExactSetWay", unfollowed := true, recurses := true, apart := false }
def FnExactSetWaySaid : Prop := fnExactSetWayRow.holds Try.pinned (OpenSpec.ofChange fnExactSetWaySpec)

/-- ITS FALSE NEIGHBOUR: 'it returns false'. Refute it at one input. -/
def fnExactSetWayWrong : ChangeSpec := { name := "fnExactSetWay", fn := fun _ => fun
  | [d1, d2, d3] => { results := [.lit (.bool false)], args := [d1, d2, d3] }
  | _ => none }
def FnExactSetWayWrongFalsely : Prop := fnExactSetWayRow.holds Try.pinned (OpenSpec.ofChange fnExactSetWayWrong)

/-- 'laws.FnExactTurnsFor': WHATEVER THE INPUT: true; the input reads as it did. -/
def fnExactTurnsForSpec : ChangeSpec := { name := "fnExactTurnsFor", fn := fun _ => fun
  | [d1, d2, d3] => { results := [.lit (.bool true)], args := [d1, d2, d3] }
  | _ => none }
def fnExactTurnsForRow : OpenClaim := { program := "ythkfdpicacaphaa", sum := "b6773d3a25a92e276a0ca4302fcf8dee933077b9f158b406a104fd481c550344", func := "loop.example/g01046/laws.FnExactTurnsFor", spec := "fnExactTurnsFor", unfollowed := true, recurses := true, apart := false }
def FnExactTurnsForSaid : Prop := fnExactTurnsForRow.holds Try.pinned (OpenSpec.ofChange fnExactTurnsForSpec)

/-- ITS FALSE NEIGHBOUR: 'it returns false'. Refute it at one input. -/
def fnExactTurnsForWrong : ChangeSpec := { name := "fnExactTurnsFor", fn := fun _ => fun
  | [d1, d2, d3] => { results := [.lit (.bool false)], args := [d1, d2, d3] }
  | _ => none }
def FnExactTurnsForWrongFalsely : Prop := fnExactTurnsForRow.holds Try.pinned (OpenSpec.ofChange fnExactTurnsForWrong)

/-- 'laws.FnExactFewestTurns': WHATEVER THE INPUT: true; the input reads as it did. -/
def fnExactFewestTurnsSpec : ChangeSpec := { name := "fnExactFewestTurns", fn := fun _ => fun
  | [d1, d2, d3, d4] => { results := [.lit (.bool true)], args := [d1, d2, d3, d4] }
  | _ => none }
def fnExactFewestTurnsRow : OpenClaim := { program := "ythkfdpicacaphaa", sum := "b6773d3a25a92e276a0ca4302fcf8dee933077b9f158b406a104fd481c550344", func := "loop.example/g01046/laws.FnExactFewestTurns", spec := "fnExactFewestTurns", unfollowed := true, recurses := true, apart := false }
def FnExactFewestTurnsSaid : Prop := fnExactFewestTurnsRow.holds Try.pinned (OpenSpec.ofChange fnExactFewestTurnsSpec)

/-- ITS FALSE NEIGHBOUR: 'it returns false'. Refute it at one input. -/
def fnExactFewestTurnsWrong : ChangeSpec := { name := "fnExactFewestTurns", fn := fun _ => fun
  | [d1, d2, d3, d4] => { results := [.lit (.bool false)], args := [d1, d2, d3, d4] }
  | _ => none }
def FnExactFewestTurnsWrongFalsely : Prop := fnExactFewestTurnsRow.holds Try.pinned (OpenSpec.ofChange fnExactFewestTurnsWrong)

/- THE SECOND FORM. 'bulk': how many values and letters a reading holds, each counted each time it is reached (what is shared counts as often as it is met; a slice's spare places count too). A statement '..UptoSaid' is the law's where the arguments, and the package variables that the reading takes, are together of bulk at most 1048576: NARROWER than '..Said'. Prove '..Said' where nothing that the law and all that it calls make is longer than what came in: it says more and counts as full. Else prove '..UptoSaid'. A law counts once. -/
mutual
def uptoBulk {H : Type} : DataW H → Nat
  | .lit (.string bytes) => bytes.length + 1
  | .lit _ => 1
  | .nil => 1
  | .ptr d => uptoBulk d + 1
  | .slice elems spare => uptoBulkAll elems + uptoBulkAll spare + 1
  | .agg parts => uptoBulkAll parts + 1
  | .iface _ d => uptoBulk d + 1
  | .map entries => uptoBulkEntries entries + 1
  | .held _ => 1
def uptoBulkAll {H : Type} : List (DataW H) → Nat
  | [] => 0
  | d :: r => uptoBulk d + uptoBulkAll r
def uptoBulkEntries {H : Type} : List (Lit × DataW H) → Nat
  | [] => 0
  | x :: r => uptoBulkEntry x + uptoBulkEntries r
def uptoBulkEntry {H : Type} : Lit × DataW H → Nat
  | (.string bytes, d) => bytes.length + uptoBulk d + 1
  | (_, d) => uptoBulk d + 1
 end
def uptoSmall : (H : Type) → List (DataW H) → Bool := fun _ ds => decide (uptoBulkAll ds ≤ 1048576)
def OpenSpec.upto (s : _root_.Go.ChangeSpec) : _root_.Go.OpenSpec := { _root_.Go.OpenSpec.ofChange s with cond := some uptoSmall }

/-- 'laws.FnExactValidSetting', WHERE WHAT IT READS IS OF BULK AT MOST 1048576: true; the input reads as it did. -/
def fnExactValidSettingUptoRow : OpenClaim := { program := "ythkfdpicacaphaa", sum := "b6773d3a25a92e276a0ca4302fcf8dee933077b9f158b406a104fd481c550344", func := "loop.example/g01046/laws.FnExactValidSetting", spec := "fnExactValidSetting", unfollowed := true, recurses := true, apart := false, narrowed := true }
def FnExactValidSettingUptoSaid : Prop := fnExactValidSettingUptoRow.holds Try.pinned (OpenSpec.upto fnExactValidSettingSpec)

/-- 'laws.FnExactEndOf', WHERE WHAT IT READS IS OF BULK AT MOST 1048576: true; the input reads as it did. -/
def fnExactEndOfUptoRow : OpenClaim := { program := "ythkfdpicacaphaa", sum := "b6773d3a25a92e276a0ca4302fcf8dee933077b9f158b406a104fd481c550344", func := "loop.example/g01046/laws.FnExactEndOf", spec := "fnExactEndOf", unfollowed := true, recurses := true, apart := false, narrowed := true }
def FnExactEndOfUptoSaid : Prop := fnExactEndOfUptoRow.holds Try.pinned (OpenSpec.upto fnExactEndOfSpec)

/-- 'laws.FnExactCircleStations', WHERE WHAT IT READS IS OF BULK AT MOST 1048576: true; the input reads as it did. -/
def fnExactCircleStationsUptoRow : OpenClaim := { program := "ythkfdpicacaphaa", sum := "b6773d3a25a92e276a0ca4302fcf8dee933077b9f158b406a104fd481c550344", func := "loop.example/g01046/laws.FnExactCircleStations", spec := "fnExactCircleStations", unfollowed := true, recurses := true, apart := false, narrowed := true }
def FnExactCircleStationsUptoSaid : Prop := fnExactCircleStationsUptoRow.holds Try.pinned (OpenSpec.upto fnExactCircleStationsSpec)

/-- 'laws.FnExactRouteOf', WHERE WHAT IT READS IS OF BULK AT MOST 1048576: true; the input reads as it did. -/
def fnExactRouteOfUptoRow : OpenClaim := { program := "ythkfdpicacaphaa", sum := "b6773d3a25a92e276a0ca4302fcf8dee933077b9f158b406a104fd481c550344", func := "loop.example/g01046/laws.FnExactRouteOf", spec := "fnExactRouteOf", unfollowed := true, recurses := true, apart := false, narrowed := true }
def FnExactRouteOfUptoSaid : Prop := fnExactRouteOfUptoRow.holds Try.pinned (OpenSpec.upto fnExactRouteOfSpec)

/-- 'laws.FnExactFirstClash', WHERE WHAT IT READS IS OF BULK AT MOST 1048576: true; the input reads as it did. -/
def fnExactFirstClashUptoRow : OpenClaim := { program := "ythkfdpicacaphaa", sum := "b6773d3a25a92e276a0ca4302fcf8dee933077b9f158b406a104fd481c550344", func := "loop.example/g01046/laws.FnExactFirstClash", spec := "fnExactFirstClash", unfollowed := true, recurses := true, apart := false, narrowed := true }
def FnExactFirstClashUptoSaid : Prop := fnExactFirstClashUptoRow.holds Try.pinned (OpenSpec.upto fnExactFirstClashSpec)

/-- 'laws.FnExactWaysFit', WHERE WHAT IT READS IS OF BULK AT MOST 1048576: true; the input reads as it did. -/
def fnExactWaysFitUptoRow : OpenClaim := { program := "ythkfdpicacaphaa", sum := "b6773d3a25a92e276a0ca4302fcf8dee933077b9f158b406a104fd481c550344", func := "loop.example/g01046/laws.FnExactWaysFit", spec := "fnExactWaysFit", unfollowed := true, recurses := true, apart := false, narrowed := true }
def FnExactWaysFitUptoSaid : Prop := fnExactWaysFitUptoRow.holds Try.pinned (OpenSpec.upto fnExactWaysFitSpec)

/-- 'laws.FnExactSetWay', WHERE WHAT IT READS IS OF BULK AT MOST 1048576: true; the input reads as it did. -/
def fnExactSetWayUptoRow : OpenClaim := { program := "ythkfdpicacaphaa", sum := "b6773d3a25a92e276a0ca4302fcf8dee933077b9f158b406a104fd481c550344", func := "loop.example/g01046/laws.FnExactSetWay", spec := "fnExactSetWay", unfollowed := true, recurses := true, apart := false, narrowed := true }
def FnExactSetWayUptoSaid : Prop := fnExactSetWayUptoRow.holds Try.pinned (OpenSpec.upto fnExactSetWaySpec)

/-- 'laws.FnExactTurnsFor', WHERE WHAT IT READS IS OF BULK AT MOST 1048576: true; the input reads as it did. -/
def fnExactTurnsForUptoRow : OpenClaim := { program := "ythkfdpicacaphaa", sum := "b6773d3a25a92e276a0ca4302fcf8dee933077b9f158b406a104fd481c550344", func := "loop.example/g01046/laws.FnExactTurnsFor", spec := "fnExactTurnsFor", unfollowed := true, recurses := true, apart := false, narrowed := true }
def FnExactTurnsForUptoSaid : Prop := fnExactTurnsForUptoRow.holds Try.pinned (OpenSpec.upto fnExactTurnsForSpec)

/-- 'laws.FnExactFewestTurns', WHERE WHAT IT READS IS OF BULK AT MOST 1048576: true; the input reads as it did. -/
def fnExactFewestTurnsUptoRow : OpenClaim := { program := "ythkfdpicacaphaa", sum := "b6773d3a25a92e276a0ca4302fcf8dee933077b9f158b406a104fd481c550344", func := "loop.example/g01046/laws.FnExactFewestTurns", spec := "fnExactFewestTurns", unfollowed := true, recurses := true, apart := false, narrowed := true }
def FnExactFewestTurnsUptoSaid : Prop := fnExactFewestTurnsUptoRow.holds Try.pinned (OpenSpec.upto fnExactFewestTurnsSpec)

end Rows
end Go.Proofs.Ythkfdpicacaphaa
