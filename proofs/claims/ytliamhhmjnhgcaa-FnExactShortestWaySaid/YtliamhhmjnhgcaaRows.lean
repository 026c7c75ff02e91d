/-
  No cell of these rows narrows 'for every input' (looked for: loops, veiled, ifaces, maps, wideKeys, modest, calm, conditions, laid).
  DERIVED. THE GIVEN ROWS OF THIS SEAT. 11 by the template 'for every input the law returns true; each argument reads behind the call as it read before'; 0 by the template 'total and deterministic' (their statements: YtliamhhmjnhgcaaTotals.lean).
  GIVEN WITH THE SEED: the statements are not yours to turn. If you find one false, say at which input.
  Laid BY PROGRAM, IN A SANDBOX (cutbox-rows.mjs): the forced cells as the released guide's own fill.sh prints them over the translation 1c91ce782473057d… (all of the seat's roots in one cut). By AI agents, Wed Nov 11 2026. No macro, syntax, notation, axiom, sorry.
-/
import Derived.Test.YtliamhhmjnhgcaaChecked
import GoSem.Claim
import GoSem.ClaimJoined
import GoSem.ClaimMapViews
import Derived.JoinedTies
import Derived.KernelRfl
namespace Go.Proofs.Ytliamhhmjnhgcaa
/- THE CELL 'sum', in the pinned program and in every row, IS THE sha256 OF THE DUMP (.gsa) THAT YtliamhhmjnhgcaaProg.lean LOADS. Nothing in Lean hashes anything: it is a label: what it is worth is what the hold of that sum in a sandbox is worth. -/
noncomputable def Try.pinned : Pinned := { name := "ytliamhhmjnhgcaa", sum := "1c91ce782473057db2f75bdd688770144a1d899e527ad6a6f8b5ba8a0225b371", checked := Try.checked }
namespace Rows
def none {H : Type} : Left H := { results := [], args := [] }

/-- 'laws.FnExactSameNet': WHATEVER THE INPUT: true; the input reads as it did. -/
def fnExactSameNetSpec : ChangeSpec := { name := "fnExactSameNet", fn := fun _ => fun
  | [d1, d2] => { results := [.lit (.bool true)], args := [d1, d2] }
  | _ => none }
def fnExactSameNetRow : OpenClaim := { program := "ytliamhhmjnhgcaa", sum := "1c91ce782473057db2f75bdd688770144a1d899e527ad6a6f8b5ba8a0225b371", func := "loop.example/g01046/laws.FnExactSameNet", spec := "fnExactSameNet", apart := false }
def FnExactSameNetSaid : Prop := fnExactSameNetRow.holds Try.pinned (OpenSpec.ofChange fnExactSameNetSpec)

/-- ITS FALSE NEIGHBOUR: 'it returns false'. Refute it at one input. -/
def fnExactSameNetWrong : ChangeSpec := { name := "fnExactSameNet", fn := fun _ => fun
  | [d1, d2] => { results := [.lit (.bool false)], args := [d1, d2] }
  | _ => none }
def FnExactSameNetWrongFalsely : Prop := fnExactSameNetRow.holds Try.pinned (OpenSpec.ofChange fnExactSameNetWrong)

/-- 'laws.FnExactValidNet': WHATEVER THE INPUT: true; the input reads as it did. -/
def fnExactValidNetSpec : ChangeSpec := { name := "fnExactValidNet", fn := fun _ => fun
  | [d] => { results := [.lit (.bool true)], args := [d] }
  | _ => none }
def fnExactValidNetRow : OpenClaim := { program := "ytliamhhmjnhgcaa", sum := "1c91ce782473057db2f75bdd688770144a1d899e527ad6a6f8b5ba8a0225b371", func := "loop.example/g01046/laws.FnExactValidNet", spec := "fnExactValidNet", unfollowed := true, recurses := true, apart := false }
def FnExactValidNetSaid : Prop := fnExactValidNetRow.holds Try.pinned (OpenSpec.ofChange fnExactValidNetSpec)

/-- ITS FALSE NEIGHBOUR: 'it returns false'. Refute it at one input. -/
def fnExactValidNetWrong : ChangeSpec := { name := "fnExactValidNet", fn := fun _ => fun
  | [d] => { results := [.lit (.bool false)], args := [d] }
  | _ => none }
def FnExactValidNetWrongFalsely : Prop := fnExactValidNetRow.holds Try.pinned (OpenSpec.ofChange fnExactValidNetWrong)

/-- 'laws.FnExactAddTube': WHATEVER THE INPUT: true; the input reads as it did. -/
def fnExactAddTubeSpec : ChangeSpec := { name := "fnExactAddTube", fn := fun _ => fun
  | [d1, d2] => { results := [.lit (.bool true)], args := [d1, d2] }
  | _ => none }
def fnExactAddTubeRow : OpenClaim := { program := "ytliamhhmjnhgcaa", sum := "1c91ce782473057db2f75bdd688770144a1d899e527ad6a6f8b5ba8a0225b371", func := "loop.example/g01046/laws.FnExactAddTube", spec := "fnExactAddTube", unfollowed := true, recurses := true, apart := false }
def FnExactAddTubeSaid : Prop := fnExactAddTubeRow.holds Try.pinned (OpenSpec.ofChange fnExactAddTubeSpec)

/-- ITS FALSE NEIGHBOUR: 'it returns false'. Refute it at one input. -/
def fnExactAddTubeWrong : ChangeSpec := { name := "fnExactAddTube", fn := fun _ => fun
  | [d1, d2] => { results := [.lit (.bool false)], args := [d1, d2] }
  | _ => none }
def FnExactAddTubeWrongFalsely : Prop := fnExactAddTubeRow.holds Try.pinned (OpenSpec.ofChange fnExactAddTubeWrong)

/-- 'laws.FnExactTubesFrom': WHATEVER THE INPUT: true; the input reads as it did. -/
def fnExactTubesFromSpec : ChangeSpec := { name := "fnExactTubesFrom", fn := fun _ => fun
  | [d1, d2] => { results := [.lit (.bool true)], args := [d1, d2] }
  | _ => none }
def fnExactTubesFromRow : OpenClaim := { program := "ytliamhhmjnhgcaa", sum := "1c91ce782473057db2f75bdd688770144a1d899e527ad6a6f8b5ba8a0225b371", func := "loop.example/g01046/laws.FnExactTubesFrom", spec := "fnExactTubesFrom", unfollowed := true, recurses := true, apart := false }
def FnExactTubesFromSaid : Prop := fnExactTubesFromRow.holds Try.pinned (OpenSpec.ofChange fnExactTubesFromSpec)

/-- ITS FALSE NEIGHBOUR: 'it returns false'. Refute it at one input. -/
def fnExactTubesFromWrong : ChangeSpec := { name := "fnExactTubesFrom", fn := fun _ => fun
  | [d1, d2] => { results := [.lit (.bool false)], args := [d1, d2] }
  | _ => none }
def FnExactTubesFromWrongFalsely : Prop := fnExactTubesFromRow.holds Try.pinned (OpenSpec.ofChange fnExactTubesFromWrong)

/-- 'laws.FnExactIsWay': WHATEVER THE INPUT: true; the input reads as it did. -/
def fnExactIsWaySpec : ChangeSpec := { name := "fnExactIsWay", fn := fun _ => fun
  | [d1, d2, d3, d4] => { results := [.lit (.bool true)], args := [d1, d2, d3, d4] }
  | _ => none }
def fnExactIsWayRow : OpenClaim := { program := "ytliamhhmjnhgcaa", sum := "1c91ce782473057db2f75bdd688770144a1d899e527ad6a6f8b5ba8a0225b371", func := "loop.example/g01046/laws.FnExactIsWay", spec := "fnExactIsWay", unfollowed := true, recurses := true, apart := false }
def FnExactIsWaySaid : Prop := fnExactIsWayRow.holds Try.pinned (OpenSpec.ofChange fnExactIsWaySpec)

/-- ITS FALSE NEIGHBOUR: 'it returns false'. Refute it at one input. -/
def fnExactIsWayWrong : ChangeSpec := { name := "fnExactIsWay", fn := fun _ => fun
  | [d1, d2, d3, d4] => { results := [.lit (.bool false)], args := [d1, d2, d3, d4] }
  | _ => none }
def FnExactIsWayWrongFalsely : Prop := fnExactIsWayRow.holds Try.pinned (OpenSpec.ofChange fnExactIsWayWrong)

/-- 'laws.FnExactShortestLength': WHATEVER THE INPUT: true; the input reads as it did. -/
def fnExactShortestLengthSpec : ChangeSpec := { name := "fnExactShortestLength", fn := fun _ => fun
  | [d1, d2, d3] => { results := [.lit (.bool true)], args := [d1, d2, d3] }
  | _ => none }
def fnExactShortestLengthRow : OpenClaim := { program := "ytliamhhmjnhgcaa", sum := "1c91ce782473057db2f75bdd688770144a1d899e527ad6a6f8b5ba8a0225b371", func := "loop.example/g01046/laws.FnExactShortestLength", spec := "fnExactShortestLength", unfollowed := true, recurses := true, apart := false }
def FnExactShortestLengthSaid : Prop := fnExactShortestLengthRow.holds Try.pinned (OpenSpec.ofChange fnExactShortestLengthSpec)

/-- ITS FALSE NEIGHBOUR: 'it returns false'. Refute it at one input. -/
def fnExactShortestLengthWrong : ChangeSpec := { name := "fnExactShortestLength", fn := fun _ => fun
  | [d1, d2, d3] => { results := [.lit (.bool false)], args := [d1, d2, d3] }
  | _ => none }
def FnExactShortestLengthWrongFalsely : Prop := fnExactShortestLengthRow.holds Try.pinned (OpenSpec.ofChange fnExactShortestLengthWrong)

/-- 'laws.FnExactIsStrong': WHATEVER THE INPUT: true; the input reads as it did. -/
def fnExactIsStrongSpec : ChangeSpec := { name := "fnExactIsStrong", fn := fun _ => fun
  | [d] => { results := [.lit (.bool true)], args := [d] }
  | _ => none }
def fnExactIsStrongRow : OpenClaim := { program := "ytliamhhmjnhgcaa", sum := "1c91ce782473057db2f75bdd688770144a1d899e527ad6a6f8b5ba8a0225b371", func := "loop.example/g01046/laws.FnExactIsStrong", spec := "fnExactIsStrong", unfollowed := true, recurses := true, apart := false }
def FnExactIsStrongSaid : Prop := fnExactIsStrongRow.holds Try.pinned (OpenSpec.ofChange fnExactIsStrongSpec)

/-- ITS FALSE NEIGHBOUR: 'it returns false'. Refute it at one input. -/
def fnExactIsStrongWrong : ChangeSpec := { name := "fnExactIsStrong", fn := fun _ => fun
  | [d] => { results := [.lit (.bool false)], args := [d] }
  | _ => none }
def FnExactIsStrongWrongFalsely : Prop := fnExactIsStrongRow.holds Try.pinned (OpenSpec.ofChange fnExactIsStrongWrong)

/-- 'laws.FnExactReachedFrom': WHATEVER THE INPUT: true; the input reads as it did. -/
def fnExactReachedFromSpec : ChangeSpec := { name := "fnExactReachedFrom", fn := fun _ => fun
  | [d1, d2] => { results := [.lit (.bool true)], args := [d1, d2] }
  | _ => none }
def fnExactReachedFromRow : OpenClaim := { program := "ytliamhhmjnhgcaa", sum := "1c91ce782473057db2f75bdd688770144a1d899e527ad6a6f8b5ba8a0225b371", func := "loop.example/g01046/laws.FnExactReachedFrom", spec := "fnExactReachedFrom", unfollowed := true, recurses := true, apart := false }
def FnExactReachedFromSaid : Prop := fnExactReachedFromRow.holds Try.pinned (OpenSpec.ofChange fnExactReachedFromSpec)

/-- ITS FALSE NEIGHBOUR: 'it returns false'. Refute it at one input. -/
def fnExactReachedFromWrong : ChangeSpec := { name := "fnExactReachedFrom", fn := fun _ => fun
  | [d1, d2] => { results := [.lit (.bool false)], args := [d1, d2] }
  | _ => none }
def FnExactReachedFromWrongFalsely : Prop := fnExactReachedFromRow.holds Try.pinned (OpenSpec.ofChange fnExactReachedFromWrong)

/-- 'laws.FnExactCriticalTubes': WHATEVER THE INPUT: true; the input reads as it did. -/
def fnExactCriticalTubesSpec : ChangeSpec := { name := "fnExactCriticalTubes", fn := fun _ => fun
  | [d] => { results := [.lit (.bool true)], args := [d] }
  | _ => none }
def fnExactCriticalTubesRow : OpenClaim := { program := "ytliamhhmjnhgcaa", sum := "1c91ce782473057db2f75bdd688770144a1d899e527ad6a6f8b5ba8a0225b371", func := "loop.example/g01046/laws.FnExactCriticalTubes", spec := "fnExactCriticalTubes", unfollowed := true, recurses := true, apart := false }
def FnExactCriticalTubesSaid : Prop := fnExactCriticalTubesRow.holds Try.pinned (OpenSpec.ofChange fnExactCriticalTubesSpec)

/-- ITS FALSE NEIGHBOUR: 'it returns false'. Refute it at one input. -/
def fnExactCriticalTubesWrong : ChangeSpec := { name := "fnExactCriticalTubes", fn := fun _ => fun
  | [d] => { results := [.lit (.bool false)], args := [d] }
  | _ => none }
def FnExactCriticalTubesWrongFalsely : Prop := fnExactCriticalTubesRow.holds Try.pinned (OpenSpec.ofChange fnExactCriticalTubesWrong)

/-- 'laws.FnExactShortestWay': WHATEVER THE INPUT: true; the input reads as it did. -/
def fnExactShortestWaySpec : ChangeSpec := { name := "fnExactShortestWay", fn := fun _ => fun
  | [d1, d2, d3] => { results := [.lit (.bool true)], args := [d1, d2, d3] }
  | _ => none }
def fnExactShortestWayRow : OpenClaim := { program := "ytliamhhmjnhgcaa", sum := "1c91ce782473057db2f75bdd688770144a1d899e527ad6a6f8b5ba8a0225b371", func := "loop.example/g01046/laws.FnExactShortestWay", spec := "fnExactShortestWay", unfollowed := true, recurses := true, apart := false }
def FnExactShortestWaySaid : Prop := fnExactShortestWayRow.holds Try.pinned (OpenSpec.ofChange fnExactShortestWaySpec)

/-- ITS FALSE NEIGHBOUR: 'it returns false'. Refute it at one input. -/
def fnExactShortestWayWrong : ChangeSpec := { name := "fnExactShortestWay", fn := fun _ => fun
  | [d1, d2, d3] => { results := [.lit (.bool false)], args := [d1, d2, d3] }
  | _ => none }
def FnExactShortestWayWrongFalsely : Prop := fnExactShortestWayRow.holds Try.pinned (OpenSpec.ofChange fnExactShortestWayWrong)

/-- 'laws.FnExactCountSettings': WHATEVER THE INPUT: true; the input reads as it did. -/
def fnExactCountSettingsSpec : ChangeSpec := { name := "fnExactCountSettings", fn := fun _ => fun
  | [d] => { results := [.lit (.bool true)], args := [d] }
  | _ => none }
def fnExactCountSettingsRow : OpenClaim := { program := "ytliamhhmjnhgcaa", sum := "1c91ce782473057db2f75bdd688770144a1d899e527ad6a6f8b5ba8a0225b371", func := "loop.example/g01046/laws.FnExactCountSettings", spec := "fnExactCountSettings", unfollowed := true, recurses := true, apart := false }
def FnExactCountSettingsSaid : Prop := fnExactCountSettingsRow.holds Try.pinned (OpenSpec.ofChange fnExactCountSettingsSpec)

/-- ITS FALSE NEIGHBOUR: 'it returns false'. Refute it at one input. -/
def fnExactCountSettingsWrong : ChangeSpec := { name := "fnExactCountSettings", fn := fun _ => fun
  | [d] => { results := [.lit (.bool false)], args := [d] }
  | _ => none }
def FnExactCountSettingsWrongFalsely : Prop := fnExactCountSettingsRow.holds Try.pinned (OpenSpec.ofChange fnExactCountSettingsWrong)

/- THE SECOND FORM. 'bulk': how many values and letters a reading holds, each counted each time it is reached (what is shared counts as often as it is met; a slice's spare places count too). A statement '..UptoSaid' is the law's where the arguments, and the package variables that the reading takes, are together of bulk at most 1048576: NARROWER than '..Said'. Prove '..Said' where nothing that the law and all that it calls make is longer than what came in: it says more and counts as full. Else prove '..UptoSaid'. A law counts once. -/
mutual
def uptoBulk {H : Type} : DataW H → Nat
  | .lit (.string bytes) => bytes.length + 1
  | .lit _ => 1
  | .nil => 1
  | .ptr d => uptoBulk d + 1
  | .slice elems spare => uptoBulkAll elems + uptoBulkAll spare + 1
  | .agg parts => uptoBulkAll parts + 1
  | .iface _ d => uptoBulk d + 1
  | .map entries => uptoBulkEntries entries + 1
  | .held _ => 1
def uptoBulkAll {H : Type} : List (DataW H) → Nat
  | [] => 0
  | d :: r => uptoBulk d + uptoBulkAll r
def uptoBulkEntries {H : Type} : List (Lit × DataW H) → Nat
  | [] => 0
  | x :: r => uptoBulkEntry x + uptoBulkEntries r
def uptoBulkEntry {H : Type} : Lit × DataW H → Nat
  | (.string bytes, d) => bytes.length + uptoBulk d + 1
  | (_, d) => uptoBulk d + 1
 end
def uptoSmall : (H : Type) → List (DataW H) → Bool := fun _ ds => decide (uptoBulkAll ds ≤ 1048576)
def OpenSpec.upto (s : _root_.Go.ChangeSpec) : _root_.Go.OpenSpec := { _root_.Go.OpenSpec.ofChange s with cond := some uptoSmall }

/-- 'laws.FnExactSameNet', WHERE WHAT IT READS IS OF BULK AT MOST 1048576: true; the input reads as it did. -/
def fnExactSameNetUptoRow : OpenClaim := { program := "ytliamhhmjnhgcaa", sum := "1c91ce782473057db2f75bdd688770144a1d899e527ad6a6f8b5ba8a0225b371", func := "loop.example/g01046/laws.FnExactSameNet", spec := "fnExactSameNet", apart := false, narrowed := true }
def FnExactSameNetUptoSaid : Prop := fnExactSameNetUptoRow.holds Try.pinned (OpenSpec.upto fnExactSameNetSpec)

/-- 'laws.FnExactValidNet', WHERE WHAT IT READS IS OF BULK AT MOST 1048576: true; the input reads as it did. -/
def fnExactValidNetUptoRow : OpenClaim := { program := "ytliamhhmjnhgcaa", sum := "1c91ce782473057db2f75bdd688770144a1d899e527ad6a6f8b5ba8a0225b371", func := "loop.example/g01046/laws.FnExactValidNet", spec := "fnExactValidNet", unfollowed := true, recurses := true, apart := false, narrowed := true }
def FnExactValidNetUptoSaid : Prop := fnExactValidNetUptoRow.holds Try.pinned (OpenSpec.upto fnExactValidNetSpec)

/-- 'laws.FnExactAddTube', WHERE WHAT IT READS IS OF BULK AT MOST 1048576: true; the input reads as it did. -/
def fnExactAddTubeUptoRow : OpenClaim := { program := "ytliamhhmjnhgcaa", sum := "1c91ce782473057db2f75bdd688770144a1d899e527ad6a6f8b5ba8a0225b371", func := "loop.example/g01046/laws.FnExactAddTube", spec := "fnExactAddTube", unfollowed := true, recurses := true, apart := false, narrowed := true }
def FnExactAddTubeUptoSaid : Prop := fnExactAddTubeUptoRow.holds Try.pinned (OpenSpec.upto fnExactAddTubeSpec)

/-- 'laws.FnExactTubesFrom', WHERE WHAT IT READS IS OF BULK AT MOST 1048576: true; the input reads as it did. -/
def fnExactTubesFromUptoRow : OpenClaim := { program := "ytliamhhmjnhgcaa", sum := "1c91ce782473057db2f75bdd688770144a1d899e527ad6a6f8b5ba8a0225b371", func := "loop.example/g01046/laws.FnExactTubesFrom", spec := "fnExactTubesFrom", unfollowed := true, recurses := true, apart := false, narrowed := true }
def FnExactTubesFromUptoSaid : Prop := fnExactTubesFromUptoRow.holds Try.pinned (OpenSpec.upto fnExactTubesFromSpec)

/-- 'laws.FnExactIsWay', WHERE WHAT IT READS IS OF BULK AT MOST 1048576: true; the input reads as it did. -/
def fnExactIsWayUptoRow : OpenClaim := { program := "ytliamhhmjnhgcaa", sum := "1c91ce782473057db2f75bdd688770144a1d899e527ad6a6f8b5ba8a0225b371", func := "loop.example/g01046/laws.FnExactIsWay", spec := "fnExactIsWay", unfollowed := true, recurses := true, apart := false, narrowed := true }
def FnExactIsWayUptoSaid : Prop := fnExactIsWayUptoRow.holds Try.pinned (OpenSpec.upto fnExactIsWaySpec)

/-- 'laws.FnExactShortestLength', WHERE WHAT IT READS IS OF BULK AT MOST 1048576: true; the input reads as it did. -/
def fnExactShortestLengthUptoRow : OpenClaim := { program := "ytliamhhmjnhgcaa", sum := "1c91ce782473057db2f75bdd688770144a1d899e527ad6a6f8b5ba8a0225b371", func := "loop.example/g01046/laws.FnExactShortestLength", spec := "fnExactShortestLength", unfollowed := true, recurses := true, apart := false, narrowed := true }
def FnExactShortestLengthUptoSaid : Prop := fnExactShortestLengthUptoRow.holds Try.pinned (OpenSpec.upto fnExactShortestLengthSpec)

/-- 'laws.FnExactIsStrong', WHERE WHAT IT READS IS OF BULK AT MOST 1048576: true; the input reads as it did. -/
def fnExactIsStrongUptoRow : OpenClaim := { program := "ytliamhhmjnhgcaa", sum := "1c91ce782473057db2f75bdd688770144a1d899e527ad6a6f8b5ba8a0225b371", func := "loop.example/g01046/laws.FnExactIsStrong", spec := "fnExactIsStrong", unfollowed := true, recurses := true, apart := false, narrowed := true }
def FnExactIsStrongUptoSaid : Prop := fnExactIsStrongUptoRow.holds Try.pinned (OpenSpec.upto fnExactIsStrongSpec)

/-- 'laws.FnExactReachedFrom', WHERE WHAT IT READS IS OF BULK AT MOST 1048576: true; the input reads as it did. -/
def fnExactReachedFromUptoRow : OpenClaim := { program := "ytliamhhmjnhgcaa", sum := "1c91ce782473057db2f75bdd688770144a1d899e527ad6a6f8b5ba8a0225b371", func := "loop.example/g01046/laws.FnExactReachedFrom", spec := "fnExactReachedFrom", unfollowed := true, recurses := true, apart := false, narrowed := true }
def FnExactReachedFromUptoSaid : Prop := fnExactReachedFromUptoRow.holds Try.pinned (OpenSpec.upto fnExactReachedFromSpec)

/-- 'laws.FnExactCriticalTubes', WHERE WHAT IT READS IS OF BULK AT MOST 1048576: true; the input reads as it did. -/
def fnExactCriticalTubesUptoRow : OpenClaim := { program := "ytliamhhmjnhgcaa", sum := "1c91ce782473057db2f75bdd688770144a1d899e527ad6a6f8b5ba8a0225b371", func := "loop.example/g01046/laws.FnExactCriticalTubes", spec := "fnExactCriticalTubes", unfollowed := true, recurses := true, apart := false, narrowed := true }
def FnExactCriticalTubesUptoSaid : Prop := fnExactCriticalTubesUptoRow.holds Try.pinned (OpenSpec.upto fnExactCriticalTubesSpec)

/-- 'laws.FnExactShortestWay', WHERE WHAT IT READS IS OF BULK AT MOST 1048576: true; the input reads as it did. -/
def fnExactShortestWayUptoRow : OpenClaim := { program := "ytliamhhmjnhgcaa", sum := "1c91ce782473057db2f75bdd688770144a1d899e527ad6a6f8b5ba8a0225b371", func := "loop.example/g01046/laws.FnExactShortestWay", spec := "fnExactShortestWay", unfollowed := true, recurses := true, apart := false, narrowed := true }
def FnExactShortestWayUptoSaid : Prop := fnExactShortestWayUptoRow.holds Try.pinned (OpenSpec.upto fnExactShortestWaySpec)

/-- 'laws.FnExactCountSettings', WHERE WHAT IT READS IS OF BULK AT MOST 1048576: true; the input reads as it did. -/
def fnExactCountSettingsUptoRow : OpenClaim := { program := "ytliamhhmjnhgcaa", sum := "1c91ce782473057db2f75bdd688770144a1d899e527ad6a6f8b5ba8a0225b371", func := "loop.example/g01046/laws.FnExactCountSettings", spec := "fnExactCountSettings", unfollowed := true, recurses := true, apart := false, narrowed := true }
def FnExactCountSettingsUptoSaid : Prop := fnExactCountSettingsUptoRow.holds Try.pinned (OpenSpec.upto fnExactCountSettingsSpec)

end Rows
end Go.Proofs.Ytliamhhmjnhgcaa
