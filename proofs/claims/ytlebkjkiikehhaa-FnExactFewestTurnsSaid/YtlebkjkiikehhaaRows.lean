/-
  No cell of these rows narrows 'for every input' (looked for: loops, veiled, ifaces, maps, wideKeys, modest, calm, conditions, laid).
  DERIVED. THE GIVEN ROWS OF THIS SEAT. 6 by the template 'for every input the law returns true; each argument reads behind the call as it read before'; 0 by the template 'total and deterministic' (their statements: YtlebkjkiikehhaaTotals.lean).
  GIVEN WITH THE SEED: the statements are not yours to turn. If you find one false, say at which input.
  Laid BY PROGRAM, IN A SANDBOX (cutbox-rows.mjs): the forced cells as the released guide's own fill.sh prints them over the translation 13cdbe9a2a0d0f0a… (all of the seat's roots in one cut). By AI agents, Wed Nov 11 2026. No macro, syntax, notation, axiom, sorry.
-/
import Derived.Test.YtlebkjkiikehhaaChecked
import GoSem.Claim
import GoSem.ClaimJoined
import GoSem.ClaimMapViews
import Derived.JoinedTies
import Derived.KernelRfl
namespace Go.Proofs.Ytlebkjkiikehhaa
/- THE CELL 'sum', in the pinned program and in every row, IS THE sha256 OF THE DUMP (.gsa) THAT YtlebkjkiikehhaaProg.lean LOADS. Nothing in Lean hashes anything: it is a label: what it is worth is what the hold of that sum in a sandbox is worth. -/
noncomputable def Try.pinned : Pinned := { name := "ytlebkjkiikehhaa", sum := "13cdbe9a2a0d0f0a796ccbaf2597e503b13c440236e4e6ba563e58ac5f8fb408", checked := Try.checked }
namespace Rows
def none {H : Type} : Left H := { results := [], args := [] }

/-- 'laws.FnExactAddTube': WHATEVER THE INPUT: true; the input reads as it did. -/
def fnExactAddTubeSpec : ChangeSpec := { name := "fnExactAddTube", fn := fun _ => fun
  | [d1, d2] => { results := [.lit (.bool true)], args := [d1, d2] }
  | _ => none }
def fnExactAddTubeRow : OpenClaim := { program := "ytlebkjkiikehhaa", sum := "13cdbe9a2a0d0f0a796ccbaf2597e503b13c440236e4e6ba563e58ac5f8fb408", func := "loop.example/g01046/laws.FnExactAddTube", spec := "fnExactAddTube", unfollowed := true, recurses := true, apart := false }
def FnExactAddTubeSaid : Prop := fnExactAddTubeRow.holds Try.pinned (OpenSpec.ofChange fnExactAddTubeSpec)

/-- ITS FALSE NEIGHBOUR: 'it returns false'. Refute it at one input. -/
def fnExactAddTubeWrong : ChangeSpec := { name := "fnExactAddTube", fn := fun _ => fun
  | [d1, d2] => { results := [.lit (.bool false)], args := [d1, d2] }
  | _ => none }
def FnExactAddTubeWrongFalsely : Prop := fnExactAddTubeRow.holds Try.pinned (OpenSpec.ofChange fnExactAddTubeWrong)

/-- 'laws.FnExactTicksUsed': WHATEVER THE INPUT: true; the input reads as it did. -/
def fnExactTicksUsedSpec : ChangeSpec := { name := "fnExactTicksUsed", fn := fun _ => fun
  | [d1, d2] => { results := [.lit (.bool true)], args := [d1, d2] }
  | _ => none }
def fnExactTicksUsedRow : OpenClaim := { program := "ytlebkjkiikehhaa", sum := "13cdbe9a2a0d0f0a796ccbaf2597e503b13c440236e4e6ba563e58ac5f8fb408", func := "loop.example/g01046/laws.FnExactTicksUsed", spec := "fnExactTicksUsed", unfollowed := true, recurses := true, apart := false }
def FnExactTicksUsedSaid : Prop := fnExactTicksUsedRow.holds Try.pinned (OpenSpec.ofChange fnExactTicksUsedSpec)

/-- ITS FALSE NEIGHBOUR: 'it returns false'. Refute it at one input. -/
def fnExactTicksUsedWrong : ChangeSpec := { name := "fnExactTicksUsed", fn := fun _ => fun
  | [d1, d2] => { results := [.lit (.bool false)], args := [d1, d2] }
  | _ => none }
def FnExactTicksUsedWrongFalsely : Prop := fnExactTicksUsedRow.holds Try.pinned (OpenSpec.ofChange fnExactTicksUsedWrong)

/-- 'laws.FnExactSpansOf': WHATEVER THE INPUT: true; the input reads as it did. -/
def fnExactSpansOfSpec : ChangeSpec := { name := "fnExactSpansOf", fn := fun _ => fun
  | [d1, d2] => { results := [.lit (.bool true)], args := [d1, d2] }
  | _ => none }
def fnExactSpansOfRow : OpenClaim := { program := "ytlebkjkiikehhaa", sum := "13cdbe9a2a0d0f0a796ccbaf2597e503b13c440236e4e6ba563e58ac5f8fb408", func := "loop.example/g01046/laws.FnExactSpansOf", spec := "fnExactSpansOf", unfollowed := true, recurses := true, apart := false }
def FnExactSpansOfSaid : Prop := fnExactSpansOfRow.holds Try.pinned (OpenSpec.ofChange fnExactSpansOfSpec)

/-- ITS FALSE NEIGHBOUR: 'it returns false'. Refute it at one input. -/
def fnExactSpansOfWrong : ChangeSpec := { name := "fnExactSpansOf", fn := fun _ => fun
  | [d1, d2] => { results := [.lit (.bool false)], args := [d1, d2] }
  | _ => none }
def FnExactSpansOfWrongFalsely : Prop := fnExactSpansOfRow.holds Try.pinned (OpenSpec.ofChange fnExactSpansOfWrong)

/-- 'laws.FnExactFirstMeeting': WHATEVER THE INPUT: true; the input reads as it did. -/
def fnExactFirstMeetingSpec : ChangeSpec := { name := "fnExactFirstMeeting", fn := fun _ => fun
  | [d1, d2] => { results := [.lit (.bool true)], args := [d1, d2] }
  | _ => none }
def fnExactFirstMeetingRow : OpenClaim := { program := "ytlebkjkiikehhaa", sum := "13cdbe9a2a0d0f0a796ccbaf2597e503b13c440236e4e6ba563e58ac5f8fb408", func := "loop.example/g01046/laws.FnExactFirstMeeting", spec := "fnExactFirstMeeting", unfollowed := true, recurses := true, apart := false }
def FnExactFirstMeetingSaid : Prop := fnExactFirstMeetingRow.holds Try.pinned (OpenSpec.ofChange fnExactFirstMeetingSpec)

/-- ITS FALSE NEIGHBOUR: 'it returns false'. Refute it at one input. -/
def fnExactFirstMeetingWrong : ChangeSpec := { name := "fnExactFirstMeeting", fn := fun _ => fun
  | [d1, d2] => { results := [.lit (.bool false)], args := [d1, d2] }
  | _ => none }
def FnExactFirstMeetingWrongFalsely : Prop := fnExactFirstMeetingRow.holds Try.pinned (OpenSpec.ofChange fnExactFirstMeetingWrong)

/-- 'laws.FnExactBestPressures': WHATEVER THE INPUT: true; the input reads as it did. -/
def fnExactBestPressuresSpec : ChangeSpec := { name := "fnExactBestPressures", fn := fun _ => fun
  | [d1, d2] => { results := [.lit (.bool true)], args := [d1, d2] }
  | _ => none }
def fnExactBestPressuresRow : OpenClaim := { program := "ytlebkjkiikehhaa", sum := "13cdbe9a2a0d0f0a796ccbaf2597e503b13c440236e4e6ba563e58ac5f8fb408", func := "loop.example/g01046/laws.FnExactBestPressures", spec := "fnExactBestPressures", unfollowed := true, recurses := true, apart := false }
def FnExactBestPressuresSaid : Prop := fnExactBestPressuresRow.holds Try.pinned (OpenSpec.ofChange fnExactBestPressuresSpec)

/-- ITS FALSE NEIGHBOUR: 'it returns false'. Refute it at one input. -/
def fnExactBestPressuresWrong : ChangeSpec := { name := "fnExactBestPressures", fn := fun _ => fun
  | [d1, d2] => { results := [.lit (.bool false)], args := [d1, d2] }
  | _ => none }
def FnExactBestPressuresWrongFalsely : Prop := fnExactBestPressuresRow.holds Try.pinned (OpenSpec.ofChange fnExactBestPressuresWrong)

/-- 'laws.FnExactFewestTurns': WHATEVER THE INPUT: true; the input reads as it did. -/
def fnExactFewestTurnsSpec : ChangeSpec := { name := "fnExactFewestTurns", fn := fun _ => fun
  | [d1, d2, d3, d4] => { results := [.lit (.bool true)], args := [d1, d2, d3, d4] }
  | _ => none }
def fnExactFewestTurnsRow : OpenClaim := { program := "ytlebkjkiikehhaa", sum := "13cdbe9a2a0d0f0a796ccbaf2597e503b13c440236e4e6ba563e58ac5f8fb408", func := "loop.example/g01046/laws.FnExactFewestTurns", spec := "fnExactFewestTurns", unfollowed := true, recurses := true, apart := false }
def FnExactFewestTurnsSaid : Prop := fnExactFewestTurnsRow.holds Try.pinned (OpenSpec.ofChange fnExactFewestTurnsSpec)

/-- ITS FALSE NEIGHBOUR: 'it returns false'. Refute it at one input. -/
def fnExactFewestTurnsWrong : ChangeSpec := { name := "fnExactFewestTurns", fn := fun _ => fun
  | [d1, d2, d3, d4] => { results := [.lit (.bool false)], args := [d1, d2, d3, d4] }
  | _ => none }
def FnExactFewestTurnsWrongFalsely : Prop := fnExactFewestTurnsRow.holds Try.pinned (OpenSpec.ofChange fnExactFewestTurnsWrong)

/- THE SECOND FORM. 'bulk': how many values and letters a reading holds, each counted each time it is reached (what is shared counts as often as it is met; a slice's spare places count too). A statement '..UptoSaid' is the law's where the arguments, and the package variables that the reading takes, are together of bulk at most 1048576: NARROWER than '..Said'. Prove '..Said' where nothing that the law and all that it calls make is longer than what came in: it says more and counts as full. Else prove '..UptoSaid'. A law counts once. -/
mutual
def uptoBulk {H : Type} : DataW H → Nat
  | .lit (.string bytes) => bytes.length + 1
  | .lit _ => 1
  | .nil => 1
  | .ptr d => uptoBulk d + 1
  | .slice elems spare => uptoBulkAll elems + uptoBulkAll spare + 1
  | .agg parts => uptoBulkAll parts + 1
  | .iface _ d => uptoBulk d + 1
  | .map entries => uptoBulkEntries entries + 1
  | .held _ => 1
def uptoBulkAll {H : Type} : List (DataW H) → Nat
  | [] => 0
  | d :: r => uptoBulk d + uptoBulkAll r
def uptoBulkEntries {H : Type} : List (Lit × DataW H) → Nat
  | [] => 0
  | x :: r => uptoBulkEntry x + uptoBulkEntries r
def uptoBulkEntry {H : Type} : Lit × DataW H → Nat
  | (.string bytes, d) => bytes.length + uptoBulk d + 1
  | (_, d) => uptoBulk d + 1
 end
def uptoSmall : (H : Type) → List (DataW H) → Bool := fun _ ds => decide (uptoBulkAll ds ≤ 1048576)
def OpenSpec.upto (s : _root_.Go.ChangeSpec) : _root_.Go.OpenSpec := { _root_.Go.OpenSpec.ofChange s with cond := some uptoSmall }

/-- 'laws.FnExactAddTube', WHERE WHAT IT READS IS OF BULK AT MOST 1048576: true; the input reads as it did. -/
def fnExactAddTubeUptoRow : OpenClaim := { program := "ytlebkjkiikehhaa", sum := "13cdbe9a2a0d0f0a796ccbaf2597e503b13c440236e4e6ba563e58ac5f8fb408", func := "loop.example/g01046/laws.FnExactAddTube", spec := "fnExactAddTube", unfollowed := true, recurses := true, apart := false, narrowed := true }
def FnExactAddTubeUptoSaid : Prop := fnExactAddTubeUptoRow.holds Try.pinned (OpenSpec.upto fnExactAddTubeSpec)

/-- 'laws.FnExactTicksUsed', WHERE WHAT IT READS IS OF BULK AT MOST 1048576: true; the input reads as it did. -/
def fnExactTicksUsedUptoRow : OpenClaim := { program := "ytlebkjkiikehhaa", sum := "13cdbe9a2a0d0f0a796ccbaf2597e503b13c440236e4e6ba563e58ac5f8fb408", func := "loop.example/g01046/laws.FnExactTicksUsed", spec := "fnExactTicksUsed", unfollowed := true, recurses := true, apart := false, narrowed := true }
def FnExactTicksUsedUptoSaid : Prop := fnExactTicksUsedUptoRow.holds Try.pinned (OpenSpec.upto fnExactTicksUsedSpec)

/-- 'laws.FnExactSpansOf', WHERE WHAT IT READS IS OF BULK AT MOST 1048576: true; the input reads as it did. -/
def fnExactSpansOfUptoRow : OpenClaim := { program := "ytlebkjkiikehhaa", sum := "13cdbe9a2a0d0f0a796ccbaf2597e503b13c440236e4e6ba563e58ac5f8fb408", func := "loop.example/g01046/laws.FnExactSpansOf", spec := "fnExactSpansOf", unfollowed := true, recurses := true, apart := false, narrowed := true }
def FnExactSpansOfUptoSaid : Prop := fnExactSpansOfUptoRow.holds Try.pinned (OpenSpec.upto fnExactSpansOfSpec)

/-- 'laws.FnExactFirstMeeting', WHERE WHAT IT READS IS OF BULK AT MOST 1048576: true; the input reads as it did. -/
def fnExactFirstMeetingUptoRow : OpenClaim := { program := "ytlebkjkiikehhaa", sum := "13cdbe9a2a0d0f0a796ccbaf2597e503b13c440236e4e6ba563e58ac5f8fb408", func := "loop.example/g01046/laws.FnExactFirstMeeting", spec := "fnExactFirstMeeting", unfollowed := true, recurses := true, apart := false, narrowed := true }
def FnExactFirstMeetingUptoSaid : Prop := fnExactFirstMeetingUptoRow.holds Try.pinned (OpenSpec.upto fnExactFirstMeetingSpec)

/-- 'laws.FnExactBestPressures', WHERE WHAT IT READS IS OF BULK AT MOST 1048576: true; the input reads as it did. -/
def fnExactBestPressuresUptoRow : OpenClaim := { program := "ytlebkjkiikehhaa", sum := "13cdbe9a2a0d0f0a796ccbaf2597e503b13c440236e4e6ba563e58ac5f8fb408", func := "loop.example/g01046/laws.FnExactBestPressures", spec := "fnExactBestPressures", unfollowed := true, recurses := true, apart := false, narrowed := true }
def FnExactBestPressuresUptoSaid : Prop := fnExactBestPressuresUptoRow.holds Try.pinned (OpenSpec.upto fnExactBestPressuresSpec)

/-- 'laws.FnExactFewestTurns', WHERE WHAT IT READS IS OF BULK AT MOST 1048576: true; the input reads as it did. -/
def fnExactFewestTurnsUptoRow : OpenClaim := { program := "ytlebkjkiikehhaa", sum := "13cdbe9a2a0d0f0a796ccbaf2597e503b13c440236e4e6ba563e58ac5f8fb408", func := "loop.example/g01046/laws.FnExactFewestTurns", spec := "fnExactFewestTurns", unfollowed := true, recurses := true, apart := false, narrowed := true }
def FnExactFewestTurnsUptoSaid : Prop := fnExactFewestTurnsUptoRow.holds Try.pinned (OpenSpec.upto fnExactFewestTurnsSpec)

end Rows
end Go.Proofs.Ytlebkjkiikehhaa
