/-
  No cell of these rows narrows 'for every input' (looked for: loops, veiled, ifaces, maps, wideKeys, modest, calm, conditions, laid).
  DERIVED. THE GIVEN ROWS OF THIS SEAT. 7 by the template 'for every input the law returns true; each argument reads behind the call as it read before'; 0 by the template 'total and deterministic' (their statements: YtedjpbmgldbhkaaTotals.lean).
  GIVEN WITH THE SEED: the statements are not yours to turn. If you find one false, say at which input.
  Laid BY PROGRAM, IN A SANDBOX (cutbox-rows.mjs): the forced cells as the released guide's own fill.sh prints them over the translation ae0f36697df56fe9… (all of the seat's roots in one cut). By AI agents, Wed Nov 11 2026. No macro, syntax, notation, axiom, sorry.
-/
import Derived.Test.YtedjpbmgldbhkaaChecked
import GoSem.Claim
import GoSem.ClaimJoined
import GoSem.ClaimMapViews
import Derived.JoinedTies
import Derived.KernelRfl
namespace Go.Proofs.Ytedjpbmgldbhkaa
/- THE CELL 'sum', in the pinned program and in every row, IS THE sha256 OF THE DUMP (.gsa) THAT YtedjpbmgldbhkaaProg.lean LOADS. Nothing in Lean hashes anything: it is a label: what it is worth is what the hold of that sum in a sandbox is worth. -/
noncomputable def Try.pinned : Pinned := { name := "ytedjpbmgldbhkaa", sum := "ae0f36697df56fe998561d3102cc31fa21b5fc83a9ef52f811e95e50ce0c83d5", checked := Try.checked }
namespace Rows
def none {H : Type} : Left H := { results := [], args := [] }

/-- 'laws.FnExactValidTimes': WHATEVER THE INPUT: true; the input reads as it did. -/
def fnExactValidTimesSpec : ChangeSpec := { name := "fnExactValidTimes", fn := fun _ => fun
  | [d] => { results := [.lit (.bool true)], args := [d] }
  | _ => none }
def fnExactValidTimesRow : OpenClaim := { program := "ytedjpbmgldbhkaa", sum := "ae0f36697df56fe998561d3102cc31fa21b5fc83a9ef52f811e95e50ce0c83d5", func := "loop.example/g01046/laws.FnExactValidTimes", spec := "fnExactValidTimes", unfollowed := true, recurses := true, apart := false }
def FnExactValidTimesSaid : Prop := fnExactValidTimesRow.holds Try.pinned (OpenSpec.ofChange fnExactValidTimesSpec)

/-- ITS FALSE NEIGHBOUR: 'it returns false'. Refute it at one input. -/
def fnExactValidTimesWrong : ChangeSpec := { name := "fnExactValidTimes", fn := fun _ => fun
  | [d] => { results := [.lit (.bool false)], args := [d] }
  | _ => none }
def FnExactValidTimesWrongFalsely : Prop := fnExactValidTimesRow.holds Try.pinned (OpenSpec.ofChange fnExactValidTimesWrong)

/-- 'laws.FnExactSameRuns': WHATEVER THE INPUT: true; the input reads as it did. -/
def fnExactSameRunsSpec : ChangeSpec := { name := "fnExactSameRuns", fn := fun _ => fun
  | [d1, d2] => { results := [.lit (.bool true)], args := [d1, d2] }
  | _ => none }
def fnExactSameRunsRow : OpenClaim := { program := "ytedjpbmgldbhkaa", sum := "ae0f36697df56fe998561d3102cc31fa21b5fc83a9ef52f811e95e50ce0c83d5", func := "loop.example/g01046/laws.FnExactSameRuns", spec := "fnExactSameRuns", unfollowed := true, recurses := true, apart := false }
def FnExactSameRunsSaid : Prop := fnExactSameRunsRow.holds Try.pinned (OpenSpec.ofChange fnExactSameRunsSpec)

/-- ITS FALSE NEIGHBOUR: 'it returns false'. Refute it at one input. -/
def fnExactSameRunsWrong : ChangeSpec := { name := "fnExactSameRuns", fn := fun _ => fun
  | [d1, d2] => { results := [.lit (.bool false)], args := [d1, d2] }
  | _ => none }
def FnExactSameRunsWrongFalsely : Prop := fnExactSameRunsRow.holds Try.pinned (OpenSpec.ofChange fnExactSameRunsWrong)

/-- 'laws.FnExactEndOfRun': WHATEVER THE INPUT: true; the input reads as it did. -/
def fnExactEndOfRunSpec : ChangeSpec := { name := "fnExactEndOfRun", fn := fun _ => fun
  | [d1, d2] => { results := [.lit (.bool true)], args := [d1, d2] }
  | _ => none }
def fnExactEndOfRunRow : OpenClaim := { program := "ytedjpbmgldbhkaa", sum := "ae0f36697df56fe998561d3102cc31fa21b5fc83a9ef52f811e95e50ce0c83d5", func := "loop.example/g01046/laws.FnExactEndOfRun", spec := "fnExactEndOfRun", unfollowed := true, recurses := true, apart := false }
def FnExactEndOfRunSaid : Prop := fnExactEndOfRunRow.holds Try.pinned (OpenSpec.ofChange fnExactEndOfRunSpec)

/-- ITS FALSE NEIGHBOUR: 'it returns false'. Refute it at one input. -/
def fnExactEndOfRunWrong : ChangeSpec := { name := "fnExactEndOfRun", fn := fun _ => fun
  | [d1, d2] => { results := [.lit (.bool false)], args := [d1, d2] }
  | _ => none }
def FnExactEndOfRunWrongFalsely : Prop := fnExactEndOfRunRow.holds Try.pinned (OpenSpec.ofChange fnExactEndOfRunWrong)

/-- 'laws.FnExactValidRuns': WHATEVER THE INPUT: true; the input reads as it did. -/
def fnExactValidRunsSpec : ChangeSpec := { name := "fnExactValidRuns", fn := fun _ => fun
  | [d1, d2] => { results := [.lit (.bool true)], args := [d1, d2] }
  | _ => none }
def fnExactValidRunsRow : OpenClaim := { program := "ytedjpbmgldbhkaa", sum := "ae0f36697df56fe998561d3102cc31fa21b5fc83a9ef52f811e95e50ce0c83d5", func := "loop.example/g01046/laws.FnExactValidRuns", spec := "fnExactValidRuns", unfollowed := true, recurses := true, apart := false }
def FnExactValidRunsSaid : Prop := fnExactValidRunsRow.holds Try.pinned (OpenSpec.ofChange fnExactValidRunsSpec)

/-- ITS FALSE NEIGHBOUR: 'it returns false'. Refute it at one input. -/
def fnExactValidRunsWrong : ChangeSpec := { name := "fnExactValidRuns", fn := fun _ => fun
  | [d1, d2] => { results := [.lit (.bool false)], args := [d1, d2] }
  | _ => none }
def FnExactValidRunsWrongFalsely : Prop := fnExactValidRunsRow.holds Try.pinned (OpenSpec.ofChange fnExactValidRunsWrong)

/-- 'laws.FnExactTicksUsed': WHATEVER THE INPUT: true; the input reads as it did. -/
def fnExactTicksUsedSpec : ChangeSpec := { name := "fnExactTicksUsed", fn := fun _ => fun
  | [d1, d2] => { results := [.lit (.bool true)], args := [d1, d2] }
  | _ => none }
def fnExactTicksUsedRow : OpenClaim := { program := "ytedjpbmgldbhkaa", sum := "ae0f36697df56fe998561d3102cc31fa21b5fc83a9ef52f811e95e50ce0c83d5", func := "loop.example/g01046/laws.FnExactTicksUsed", spec := "fnExactTicksUsed", unfollowed := true, recurses := true, apart := false }
def FnExactTicksUsedSaid : Prop := fnExactTicksUsedRow.holds Try.pinned (OpenSpec.ofChange fnExactTicksUsedSpec)

/-- ITS FALSE NEIGHBOUR: 'it returns false'. Refute it at one input. -/
def fnExactTicksUsedWrong : ChangeSpec := { name := "fnExactTicksUsed", fn := fun _ => fun
  | [d1, d2] => { results := [.lit (.bool false)], args := [d1, d2] }
  | _ => none }
def FnExactTicksUsedWrongFalsely : Prop := fnExactTicksUsedRow.holds Try.pinned (OpenSpec.ofChange fnExactTicksUsedWrong)

/-- 'laws.FnExactSpansOf': WHATEVER THE INPUT: true; the input reads as it did. -/
def fnExactSpansOfSpec : ChangeSpec := { name := "fnExactSpansOf", fn := fun _ => fun
  | [d1, d2] => { results := [.lit (.bool true)], args := [d1, d2] }
  | _ => none }
def fnExactSpansOfRow : OpenClaim := { program := "ytedjpbmgldbhkaa", sum := "ae0f36697df56fe998561d3102cc31fa21b5fc83a9ef52f811e95e50ce0c83d5", func := "loop.example/g01046/laws.FnExactSpansOf", spec := "fnExactSpansOf", unfollowed := true, recurses := true, apart := false }
def FnExactSpansOfSaid : Prop := fnExactSpansOfRow.holds Try.pinned (OpenSpec.ofChange fnExactSpansOfSpec)

/-- ITS FALSE NEIGHBOUR: 'it returns false'. Refute it at one input. -/
def fnExactSpansOfWrong : ChangeSpec := { name := "fnExactSpansOf", fn := fun _ => fun
  | [d1, d2] => { results := [.lit (.bool false)], args := [d1, d2] }
  | _ => none }
def FnExactSpansOfWrongFalsely : Prop := fnExactSpansOfRow.holds Try.pinned (OpenSpec.ofChange fnExactSpansOfWrong)

/-- 'laws.FnExactFirstMeeting': WHATEVER THE INPUT: true; the input reads as it did. -/
def fnExactFirstMeetingSpec : ChangeSpec := { name := "fnExactFirstMeeting", fn := fun _ => fun
  | [d1, d2] => { results := [.lit (.bool true)], args := [d1, d2] }
  | _ => none }
def fnExactFirstMeetingRow : OpenClaim := { program := "ytedjpbmgldbhkaa", sum := "ae0f36697df56fe998561d3102cc31fa21b5fc83a9ef52f811e95e50ce0c83d5", func := "loop.example/g01046/laws.FnExactFirstMeeting", spec := "fnExactFirstMeeting", unfollowed := true, recurses := true, apart := false }
def FnExactFirstMeetingSaid : Prop := fnExactFirstMeetingRow.holds Try.pinned (OpenSpec.ofChange fnExactFirstMeetingSpec)

/-- ITS FALSE NEIGHBOUR: 'it returns false'. Refute it at one input. -/
def fnExactFirstMeetingWrong : ChangeSpec := { name := "fnExactFirstMeeting", fn := fun _ => fun
  | [d1, d2] => { results := [.lit (.bool false)], args := [d1, d2] }
  | _ => none }
def FnExactFirstMeetingWrongFalsely : Prop := fnExactFirstMeetingRow.holds Try.pinned (OpenSpec.ofChange fnExactFirstMeetingWrong)

/- THE SECOND FORM. 'bulk': how many values and letters a reading holds, each counted each time it is reached (what is shared counts as often as it is met; a slice's spare places count too). A statement '..UptoSaid' is the law's where the arguments, and the package variables that the reading takes, are together of bulk at most 1048576: NARROWER than '..Said'. Prove '..Said' where nothing that the law and all that it calls make is longer than what came in: it says more and counts as full. Else prove '..UptoSaid'. A law counts once. -/
mutual
def uptoBulk {H : Type} : DataW H → Nat
  | .lit (.string bytes) => bytes.length + 1
  | .lit _ => 1
  | .nil => 1
  | .ptr d => uptoBulk d + 1
  | .slice elems spare => uptoBulkAll elems + uptoBulkAll spare + 1
  | .agg parts => uptoBulkAll parts + 1
  | .iface _ d => uptoBulk d + 1
  | .map entries => uptoBulkEntries entries + 1
  | .held _ => 1
def uptoBulkAll {H : Type} : List (DataW H) → Nat
  | [] => 0
  | d :: r => uptoBulk d + uptoBulkAll r
def uptoBulkEntries {H : Type} : List (Lit × DataW H) → Nat
  | [] => 0
  | x :: r => uptoBulkEntry x + uptoBulkEntries r
def uptoBulkEntry {H : Type} : Lit × DataW H → Nat
  | (.string bytes, d) => bytes.length + uptoBulk d + 1
  | (_, d) => uptoBulk d + 1
 end
def uptoSmall : (H : Type) → List (DataW H) → Bool := fun _ ds => decide (uptoBulkAll ds ≤ 1048576)
def OpenSpec.upto (s : _root_.Go.ChangeSpec) : _root_.Go.OpenSpec := { _root_.Go.OpenSpec.ofChange s with cond := some uptoSmall }

/-- 'laws.FnExactValidTimes', WHERE WHAT IT READS IS OF BULK AT MOST 1048576: true; the input reads as it did. -/
def fnExactValidTimesUptoRow : OpenClaim := { program := "ytedjpbmgldbhkaa", sum := "ae0f36697df56fe998561d3102cc31fa21b5fc83a9ef52f811e95e50ce0c83d5", func := "loop.example/g01046/laws.FnExactValidTimes", spec := "fnExactValidTimes", unfollowed := true, recurses := true, apart := false, narrowed := true }
def FnExactValidTimesUptoSaid : Prop := fnExactValidTimesUptoRow.holds Try.pinned (OpenSpec.upto fnExactValidTimesSpec)

/-- 'laws.FnExactSameRuns', WHERE WHAT IT READS IS OF BULK AT MOST 1048576: true; the input reads as it did. -/
def fnExactSameRunsUptoRow : OpenClaim := { program := "ytedjpbmgldbhkaa", sum := "ae0f36697df56fe998561d3102cc31fa21b5fc83a9ef52f811e95e50ce0c83d5", func := "loop.example/g01046/laws.FnExactSameRuns", spec := "fnExactSameRuns", unfollowed := true, recurses := true, apart := false, narrowed := true }
def FnExactSameRunsUptoSaid : Prop := fnExactSameRunsUptoRow.holds Try.pinned (OpenSpec.upto fnExactSameRunsSpec)

/-- 'laws.FnExactEndOfRun', WHERE WHAT IT READS IS OF BULK AT MOST 1048576: true; the input reads as it did. -/
def fnExactEndOfRunUptoRow : OpenClaim := { program := "ytedjpbmgldbhkaa", sum := "ae0f36697df56fe998561d3102cc31fa21b5fc83a9ef52f811e95e50ce0c83d5", func := "loop.example/g01046/laws.FnExactEndOfRun", spec := "fnExactEndOfRun", unfollowed := true, recurses := true, apart := false, narrowed := true }
def FnExactEndOfRunUptoSaid : Prop := fnExactEndOfRunUptoRow.holds Try.pinned (OpenSpec.upto fnExactEndOfRunSpec)

/-- 'laws.FnExactValidRuns', WHERE WHAT IT READS IS OF BULK AT MOST 1048576: true; the input reads as it did. -/
def fnExactValidRunsUptoRow : OpenClaim := { program := "ytedjpbmgldbhkaa", sum := "ae0f36697df56fe998561d3102cc31fa21b5fc83a9ef52f811e95e50ce0c83d5", func := "loop.example/g01046/laws.FnExactValidRuns", spec := "fnExactValidRuns", unfollowed := true, recurses := true, apart := false, narrowed := true }
def FnExactValidRunsUptoSaid : Prop := fnExactValidRunsUptoRow.holds Try.pinned (OpenSpec.upto fnExactValidRunsSpec)

/-- 'laws.FnExactTicksUsed', WHERE WHAT IT READS IS OF BULK AT MOST 1048576: true; the input reads as it did. -/
def fnExactTicksUsedUptoRow : OpenClaim := { program := "ytedjpbmgldbhkaa", sum := "ae0f36697df56fe998561d3102cc31fa21b5fc83a9ef52f811e95e50ce0c83d5", func := "loop.example/g01046/laws.FnExactTicksUsed", spec := "fnExactTicksUsed", unfollowed := true, recurses := true, apart := false, narrowed := true }
def FnExactTicksUsedUptoSaid : Prop := fnExactTicksUsedUptoRow.holds Try.pinned (OpenSpec.upto fnExactTicksUsedSpec)

/-- 'laws.FnExactSpansOf', WHERE WHAT IT READS IS OF BULK AT MOST 1048576: true; the input reads as it did. -/
def fnExactSpansOfUptoRow : OpenClaim := { program := "ytedjpbmgldbhkaa", sum := "ae0f36697df56fe998561d3102cc31fa21b5fc83a9ef52f811e95e50ce0c83d5", func := "loop.example/g01046/laws.FnExactSpansOf", spec := "fnExactSpansOf", unfollowed := true, recurses := true, apart := false, narrowed := true }
def FnExactSpansOfUptoSaid : Prop := fnExactSpansOfUptoRow.holds Try.pinned (OpenSpec.upto fnExactSpansOfSpec)

/-- 'laws.FnExactFirstMeeting', WHERE WHAT IT READS IS OF BULK AT MOST 1048576: true; the input reads as it did. -/
def fnExactFirstMeetingUptoRow : OpenClaim := { program := "ytedjpbmgldbhkaa", sum := "ae0f36697df56fe998561d3102cc31fa21b5fc83a9ef52f811e95e50ce0c83d5", func := "loop.example/g01046/laws.FnExactFirstMeeting", spec := "fnExactFirstMeeting", unfollowed := true, recurses := true, apart := false, narrowed := true }
def FnExactFirstMeetingUptoSaid : Prop := fnExactFirstMeetingUptoRow.holds Try.pinned (OpenSpec.upto fnExactFirstMeetingSpec)

end Rows
end Go.Proofs.Ytedjpbmgldbhkaa
