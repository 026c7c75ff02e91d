/-
  No cell of these rows narrows 'for every input' (looked for: loops, veiled, ifaces, maps, wideKeys, modest, calm, conditions, laid).
  DERIVED. THE GIVEN ROWS OF THIS SEAT. 10 by the template 'for every input the law returns true; each argument reads behind the call as it read before'; 0 by the template 'total and deterministic' (their statements: YtfhmmebciikgeaaTotals.lean).
  GIVEN WITH THE SEED: the statements are not yours to turn. If you find one false, say at which input.
  Laid BY PROGRAM, IN A SANDBOX (cutbox-rows.mjs): the forced cells as the released guide's own fill.sh prints them over the translation bf488c367f7524a6… (all of the seat's roots in one cut). By AI agents, Wed Nov 11 2026. No macro, syntax, notation, axiom, sorry.
-/
import Derived.Test.YtfhmmebciikgeaaChecked
import GoSem.Claim
import GoSem.ClaimJoined
import GoSem.ClaimMapViews
import Derived.JoinedTies
import Derived.KernelRfl
namespace Go.Proofs.Ytfhmmebciikgeaa
/- THE CELL 'sum', in the pinned program and in every row, IS THE sha256 OF THE DUMP (.gsa) THAT YtfhmmebciikgeaaProg.lean LOADS. Nothing in Lean hashes anything: it is a label: what it is worth is what the hold of that sum in a sandbox is worth. -/
noncomputable def Try.pinned : Pinned := { name := "ytfhmmebciikgeaa", sum := "bf488c367f7524a60711fd87c49bdf846229b9b3752f750cce3d4659c39fe857", checked := Try.checked }
namespace Rows
def none {H : Type} : Left H := { results := [], args := [] }

/-- 'laws.FnExactDistanceOf': WHATEVER THE INPUT: true; the input reads as it did. -/
def fnExactDistanceOfSpec : ChangeSpec := { name := "fnExactDistanceOf", fn := fun _ => fun
  | [d1, d2] => { results := [.lit (.bool true)], args := [d1, d2] }
  | _ => none }
def fnExactDistanceOfRow : OpenClaim := { program := "ytfhmmebciikgeaa", sum := "bf488c367f7524a60711fd87c49bdf846229b9b3752f750cce3d4659c39fe857", func := "loop.example/g01046/laws.FnExactDistanceOf", spec := "fnExactDistanceOf", apart := false }
def FnExactDistanceOfSaid : Prop := fnExactDistanceOfRow.holds Try.pinned (OpenSpec.ofChange fnExactDistanceOfSpec)

/-- ITS FALSE NEIGHBOUR: 'it returns false'. Refute it at one input. -/
def fnExactDistanceOfWrong : ChangeSpec := { name := "fnExactDistanceOf", fn := fun _ => fun
  | [d1, d2] => { results := [.lit (.bool false)], args := [d1, d2] }
  | _ => none }
def FnExactDistanceOfWrongFalsely : Prop := fnExactDistanceOfRow.holds Try.pinned (OpenSpec.ofChange fnExactDistanceOfWrong)

/-- 'laws.FnExactValidAddresses': WHATEVER THE INPUT: true; the input reads as it did. -/
def fnExactValidAddressesSpec : ChangeSpec := { name := "fnExactValidAddresses", fn := fun _ => fun
  | [d1, d2] => { results := [.lit (.bool true)], args := [d1, d2] }
  | _ => none }
def fnExactValidAddressesRow : OpenClaim := { program := "ytfhmmebciikgeaa", sum := "bf488c367f7524a60711fd87c49bdf846229b9b3752f750cce3d4659c39fe857", func := "loop.example/g01046/laws.FnExactValidAddresses", spec := "fnExactValidAddresses", apart := false }
def FnExactValidAddressesSaid : Prop := fnExactValidAddressesRow.holds Try.pinned (OpenSpec.ofChange fnExactValidAddressesSpec)

/-- ITS FALSE NEIGHBOUR: 'it returns false'. Refute it at one input. -/
def fnExactValidAddressesWrong : ChangeSpec := { name := "fnExactValidAddresses", fn := fun _ => fun
  | [d1, d2] => { results := [.lit (.bool false)], args := [d1, d2] }
  | _ => none }
def FnExactValidAddressesWrongFalsely : Prop := fnExactValidAddressesRow.holds Try.pinned (OpenSpec.ofChange fnExactValidAddressesWrong)

/-- 'laws.FnExactAllWords': WHATEVER THE INPUT: true; the input reads as it did. -/
def fnExactAllWordsSpec : ChangeSpec := { name := "fnExactAllWords", fn := fun _ => fun
  | [d1, d2] => { results := [.lit (.bool true)], args := [d1, d2] }
  | _ => none }
def fnExactAllWordsRow : OpenClaim := { program := "ytfhmmebciikgeaa", sum := "bf488c367f7524a60711fd87c49bdf846229b9b3752f750cce3d4659c39fe857", func := "loop.example/g01046/laws.FnExactAllWords", spec := "fnExactAllWords", apart := false }
def FnExactAllWordsSaid : Prop := fnExactAllWordsRow.holds Try.pinned (OpenSpec.ofChange fnExactAllWordsSpec)

/-- ITS FALSE NEIGHBOUR: 'it returns false'. Refute it at one input. -/
def fnExactAllWordsWrong : ChangeSpec := { name := "fnExactAllWords", fn := fun _ => fun
  | [d1, d2] => { results := [.lit (.bool false)], args := [d1, d2] }
  | _ => none }
def FnExactAllWordsWrongFalsely : Prop := fnExactAllWordsRow.holds Try.pinned (OpenSpec.ofChange fnExactAllWordsWrong)

/-- 'laws.FnExactCorrectsAll': WHATEVER THE INPUT: true; the input reads as it did. -/
def fnExactCorrectsAllSpec : ChangeSpec := { name := "fnExactCorrectsAll", fn := fun _ => fun
  | [d1, d2] => { results := [.lit (.bool true)], args := [d1, d2] }
  | _ => none }
def fnExactCorrectsAllRow : OpenClaim := { program := "ytfhmmebciikgeaa", sum := "bf488c367f7524a60711fd87c49bdf846229b9b3752f750cce3d4659c39fe857", func := "loop.example/g01046/laws.FnExactCorrectsAll", spec := "fnExactCorrectsAll", apart := false }
def FnExactCorrectsAllSaid : Prop := fnExactCorrectsAllRow.holds Try.pinned (OpenSpec.ofChange fnExactCorrectsAllSpec)

/-- ITS FALSE NEIGHBOUR: 'it returns false'. Refute it at one input. -/
def fnExactCorrectsAllWrong : ChangeSpec := { name := "fnExactCorrectsAll", fn := fun _ => fun
  | [d1, d2] => { results := [.lit (.bool false)], args := [d1, d2] }
  | _ => none }
def FnExactCorrectsAllWrongFalsely : Prop := fnExactCorrectsAllRow.holds Try.pinned (OpenSpec.ofChange fnExactCorrectsAllWrong)

/-- 'laws.FnExactLeastDistance': WHATEVER THE INPUT: true; the input reads as it did. -/
def fnExactLeastDistanceSpec : ChangeSpec := { name := "fnExactLeastDistance", fn := fun _ => fun
  | [d1, d2] => { results := [.lit (.bool true)], args := [d1, d2] }
  | _ => none }
def fnExactLeastDistanceRow : OpenClaim := { program := "ytfhmmebciikgeaa", sum := "bf488c367f7524a60711fd87c49bdf846229b9b3752f750cce3d4659c39fe857", func := "loop.example/g01046/laws.FnExactLeastDistance", spec := "fnExactLeastDistance", apart := false }
def FnExactLeastDistanceSaid : Prop := fnExactLeastDistanceRow.holds Try.pinned (OpenSpec.ofChange fnExactLeastDistanceSpec)

/-- ITS FALSE NEIGHBOUR: 'it returns false'. Refute it at one input. -/
def fnExactLeastDistanceWrong : ChangeSpec := { name := "fnExactLeastDistance", fn := fun _ => fun
  | [d1, d2] => { results := [.lit (.bool false)], args := [d1, d2] }
  | _ => none }
def FnExactLeastDistanceWrongFalsely : Prop := fnExactLeastDistanceRow.holds Try.pinned (OpenSpec.ofChange fnExactLeastDistanceWrong)

/-- 'laws.FnExactNearestAddress': WHATEVER THE INPUT: true; the input reads as it did. -/
def fnExactNearestAddressSpec : ChangeSpec := { name := "fnExactNearestAddress", fn := fun _ => fun
  | [d1, d2, d3] => { results := [.lit (.bool true)], args := [d1, d2, d3] }
  | _ => none }
def fnExactNearestAddressRow : OpenClaim := { program := "ytfhmmebciikgeaa", sum := "bf488c367f7524a60711fd87c49bdf846229b9b3752f750cce3d4659c39fe857", func := "loop.example/g01046/laws.FnExactNearestAddress", spec := "fnExactNearestAddress", apart := false }
def FnExactNearestAddressSaid : Prop := fnExactNearestAddressRow.holds Try.pinned (OpenSpec.ofChange fnExactNearestAddressSpec)

/-- ITS FALSE NEIGHBOUR: 'it returns false'. Refute it at one input. -/
def fnExactNearestAddressWrong : ChangeSpec := { name := "fnExactNearestAddress", fn := fun _ => fun
  | [d1, d2, d3] => { results := [.lit (.bool false)], args := [d1, d2, d3] }
  | _ => none }
def FnExactNearestAddressWrongFalsely : Prop := fnExactNearestAddressRow.holds Try.pinned (OpenSpec.ofChange fnExactNearestAddressWrong)

/-- 'laws.FnExactGreedyCode': WHATEVER THE INPUT: true; the input reads as it did. -/
def fnExactGreedyCodeSpec : ChangeSpec := { name := "fnExactGreedyCode", fn := fun _ => fun
  | [d1, d2, d3] => { results := [.lit (.bool true)], args := [d1, d2, d3] }
  | _ => none }
def fnExactGreedyCodeRow : OpenClaim := { program := "ytfhmmebciikgeaa", sum := "bf488c367f7524a60711fd87c49bdf846229b9b3752f750cce3d4659c39fe857", func := "loop.example/g01046/laws.FnExactGreedyCode", spec := "fnExactGreedyCode", unfollowed := true, recurses := true, apart := false }
def FnExactGreedyCodeSaid : Prop := fnExactGreedyCodeRow.holds Try.pinned (OpenSpec.ofChange fnExactGreedyCodeSpec)

/-- ITS FALSE NEIGHBOUR: 'it returns false'. Refute it at one input. -/
def fnExactGreedyCodeWrong : ChangeSpec := { name := "fnExactGreedyCode", fn := fun _ => fun
  | [d1, d2, d3] => { results := [.lit (.bool false)], args := [d1, d2, d3] }
  | _ => none }
def FnExactGreedyCodeWrongFalsely : Prop := fnExactGreedyCodeRow.holds Try.pinned (OpenSpec.ofChange fnExactGreedyCodeWrong)

/-- 'laws.FnExactWorstRing': WHATEVER THE INPUT: true; the input reads as it did. -/
def fnExactWorstRingSpec : ChangeSpec := { name := "fnExactWorstRing", fn := fun _ => fun
  | [d1, d2] => { results := [.lit (.bool true)], args := [d1, d2] }
  | _ => none }
def fnExactWorstRingRow : OpenClaim := { program := "ytfhmmebciikgeaa", sum := "bf488c367f7524a60711fd87c49bdf846229b9b3752f750cce3d4659c39fe857", func := "loop.example/g01046/laws.FnExactWorstRing", spec := "fnExactWorstRing", apart := false }
def FnExactWorstRingSaid : Prop := fnExactWorstRingRow.holds Try.pinned (OpenSpec.ofChange fnExactWorstRingSpec)

/-- ITS FALSE NEIGHBOUR: 'it returns false'. Refute it at one input. -/
def fnExactWorstRingWrong : ChangeSpec := { name := "fnExactWorstRing", fn := fun _ => fun
  | [d1, d2] => { results := [.lit (.bool false)], args := [d1, d2] }
  | _ => none }
def FnExactWorstRingWrongFalsely : Prop := fnExactWorstRingRow.holds Try.pinned (OpenSpec.ofChange fnExactWorstRingWrong)

/-- 'laws.FnExactMisreadAs': WHATEVER THE INPUT: true; the input reads as it did. -/
def fnExactMisreadAsSpec : ChangeSpec := { name := "fnExactMisreadAs", fn := fun _ => fun
  | [d1, d2, d3, d4] => { results := [.lit (.bool true)], args := [d1, d2, d3, d4] }
  | _ => none }
def fnExactMisreadAsRow : OpenClaim := { program := "ytfhmmebciikgeaa", sum := "bf488c367f7524a60711fd87c49bdf846229b9b3752f750cce3d4659c39fe857", func := "loop.example/g01046/laws.FnExactMisreadAs", spec := "fnExactMisreadAs", apart := false }
def FnExactMisreadAsSaid : Prop := fnExactMisreadAsRow.holds Try.pinned (OpenSpec.ofChange fnExactMisreadAsSpec)

/-- ITS FALSE NEIGHBOUR: 'it returns false'. Refute it at one input. -/
def fnExactMisreadAsWrong : ChangeSpec := { name := "fnExactMisreadAs", fn := fun _ => fun
  | [d1, d2, d3, d4] => { results := [.lit (.bool false)], args := [d1, d2, d3, d4] }
  | _ => none }
def FnExactMisreadAsWrongFalsely : Prop := fnExactMisreadAsRow.holds Try.pinned (OpenSpec.ofChange fnExactMisreadAsWrong)

/-- 'laws.FnExactAddAddress': WHATEVER THE INPUT: true; the input reads as it did. -/
def fnExactAddAddressSpec : ChangeSpec := { name := "fnExactAddAddress", fn := fun _ => fun
  | [d1, d2, d3] => { results := [.lit (.bool true)], args := [d1, d2, d3] }
  | _ => none }
def fnExactAddAddressRow : OpenClaim := { program := "ytfhmmebciikgeaa", sum := "bf488c367f7524a60711fd87c49bdf846229b9b3752f750cce3d4659c39fe857", func := "loop.example/g01046/laws.FnExactAddAddress", spec := "fnExactAddAddress", unfollowed := true, recurses := true, apart := false }
def FnExactAddAddressSaid : Prop := fnExactAddAddressRow.holds Try.pinned (OpenSpec.ofChange fnExactAddAddressSpec)

/-- ITS FALSE NEIGHBOUR: 'it returns false'. Refute it at one input. -/
def fnExactAddAddressWrong : ChangeSpec := { name := "fnExactAddAddress", fn := fun _ => fun
  | [d1, d2, d3] => { results := [.lit (.bool false)], args := [d1, d2, d3] }
  | _ => none }
def FnExactAddAddressWrongFalsely : Prop := fnExactAddAddressRow.holds Try.pinned (OpenSpec.ofChange fnExactAddAddressWrong)

/- THE SECOND FORM. 'bulk': how many values and letters a reading holds, each counted each time it is reached (what is shared counts as often as it is met; a slice's spare places count too). A statement '..UptoSaid' is the law's where the arguments, and the package variables that the reading takes, are together of bulk at most 1048576: NARROWER than '..Said'. Prove '..Said' where nothing that the law and all that it calls make is longer than what came in: it says more and counts as full. Else prove '..UptoSaid'. A law counts once. -/
mutual
def uptoBulk {H : Type} : DataW H → Nat
  | .lit (.string bytes) => bytes.length + 1
  | .lit _ => 1
  | .nil => 1
  | .ptr d => uptoBulk d + 1
  | .slice elems spare => uptoBulkAll elems + uptoBulkAll spare + 1
  | .agg parts => uptoBulkAll parts + 1
  | .iface _ d => uptoBulk d + 1
  | .map entries => uptoBulkEntries entries + 1
  | .held _ => 1
def uptoBulkAll {H : Type} : List (DataW H) → Nat
  | [] => 0
  | d :: r => uptoBulk d + uptoBulkAll r
def uptoBulkEntries {H : Type} : List (Lit × DataW H) → Nat
  | [] => 0
  | x :: r => uptoBulkEntry x + uptoBulkEntries r
def uptoBulkEntry {H : Type} : Lit × DataW H → Nat
  | (.string bytes, d) => bytes.length + uptoBulk d + 1
  | (_, d) => uptoBulk d + 1
 end
def uptoSmall : (H : Type) → List (DataW H) → Bool := fun _ ds => decide (uptoBulkAll ds ≤ 1048576)
def OpenSpec.upto (s : _root_.Go.ChangeSpec) : _root_.Go.OpenSpec := { _root_.Go.OpenSpec.ofChange s with cond := some uptoSmall }

/-- 'laws.FnExactDistanceOf', WHERE WHAT IT READS IS OF BULK AT MOST 1048576: true; the input reads as it did. -/
def fnExactDistanceOfUptoRow : OpenClaim := { program := "ytfhmmebciikgeaa", sum := "bf488c367f7524a60711fd87c49bdf846229b9b3752f750cce3d4659c39fe857", func := "loop.example/g01046/laws.FnExactDistanceOf", spec := "fnExactDistanceOf", apart := false, narrowed := true }
def FnExactDistanceOfUptoSaid : Prop := fnExactDistanceOfUptoRow.holds Try.pinned (OpenSpec.upto fnExactDistanceOfSpec)

/-- 'laws.FnExactValidAddresses', WHERE WHAT IT READS IS OF BULK AT MOST 1048576: true; the input reads as it did. -/
def fnExactValidAddressesUptoRow : OpenClaim := { program := "ytfhmmebciikgeaa", sum := "bf488c367f7524a60711fd87c49bdf846229b9b3752f750cce3d4659c39fe857", func := "loop.example/g01046/laws.FnExactValidAddresses", spec := "fnExactValidAddresses", apart := false, narrowed := true }
def FnExactValidAddressesUptoSaid : Prop := fnExactValidAddressesUptoRow.holds Try.pinned (OpenSpec.upto fnExactValidAddressesSpec)

/-- 'laws.FnExactAllWords', WHERE WHAT IT READS IS OF BULK AT MOST 1048576: true; the input reads as it did. -/
def fnExactAllWordsUptoRow : OpenClaim := { program := "ytfhmmebciikgeaa", sum := "bf488c367f7524a60711fd87c49bdf846229b9b3752f750cce3d4659c39fe857", func := "loop.example/g01046/laws.FnExactAllWords", spec := "fnExactAllWords", apart := false, narrowed := true }
def FnExactAllWordsUptoSaid : Prop := fnExactAllWordsUptoRow.holds Try.pinned (OpenSpec.upto fnExactAllWordsSpec)

/-- 'laws.FnExactCorrectsAll', WHERE WHAT IT READS IS OF BULK AT MOST 1048576: true; the input reads as it did. -/
def fnExactCorrectsAllUptoRow : OpenClaim := { program := "ytfhmmebciikgeaa", sum := "bf488c367f7524a60711fd87c49bdf846229b9b3752f750cce3d4659c39fe857", func := "loop.example/g01046/laws.FnExactCorrectsAll", spec := "fnExactCorrectsAll", apart := false, narrowed := true }
def FnExactCorrectsAllUptoSaid : Prop := fnExactCorrectsAllUptoRow.holds Try.pinned (OpenSpec.upto fnExactCorrectsAllSpec)

/-- 'laws.FnExactLeastDistance', WHERE WHAT IT READS IS OF BULK AT MOST 1048576: true; the input reads as it did. -/
def fnExactLeastDistanceUptoRow : OpenClaim := { program := "ytfhmmebciikgeaa", sum := "bf488c367f7524a60711fd87c49bdf846229b9b3752f750cce3d4659c39fe857", func := "loop.example/g01046/laws.FnExactLeastDistance", spec := "fnExactLeastDistance", apart := false, narrowed := true }
def FnExactLeastDistanceUptoSaid : Prop := fnExactLeastDistanceUptoRow.holds Try.pinned (OpenSpec.upto fnExactLeastDistanceSpec)

/-- 'laws.FnExactNearestAddress', WHERE WHAT IT READS IS OF BULK AT MOST 1048576: true; the input reads as it did. -/
def fnExactNearestAddressUptoRow : OpenClaim := { program := "ytfhmmebciikgeaa", sum := "bf488c367f7524a60711fd87c49bdf846229b9b3752f750cce3d4659c39fe857", func := "loop.example/g01046/laws.FnExactNearestAddress", spec := "fnExactNearestAddress", apart := false, narrowed := true }
def FnExactNearestAddressUptoSaid : Prop := fnExactNearestAddressUptoRow.holds Try.pinned (OpenSpec.upto fnExactNearestAddressSpec)

/-- 'laws.FnExactGreedyCode', WHERE WHAT IT READS IS OF BULK AT MOST 1048576: true; the input reads as it did. -/
def fnExactGreedyCodeUptoRow : OpenClaim := { program := "ytfhmmebciikgeaa", sum := "bf488c367f7524a60711fd87c49bdf846229b9b3752f750cce3d4659c39fe857", func := "loop.example/g01046/laws.FnExactGreedyCode", spec := "fnExactGreedyCode", unfollowed := true, recurses := true, apart := false, narrowed := true }
def FnExactGreedyCodeUptoSaid : Prop := fnExactGreedyCodeUptoRow.holds Try.pinned (OpenSpec.upto fnExactGreedyCodeSpec)

/-- 'laws.FnExactWorstRing', WHERE WHAT IT READS IS OF BULK AT MOST 1048576: true; the input reads as it did. -/
def fnExactWorstRingUptoRow : OpenClaim := { program := "ytfhmmebciikgeaa", sum := "bf488c367f7524a60711fd87c49bdf846229b9b3752f750cce3d4659c39fe857", func := "loop.example/g01046/laws.FnExactWorstRing", spec := "fnExactWorstRing", apart := false, narrowed := true }
def FnExactWorstRingUptoSaid : Prop := fnExactWorstRingUptoRow.holds Try.pinned (OpenSpec.upto fnExactWorstRingSpec)

/-- 'laws.FnExactMisreadAs', WHERE WHAT IT READS IS OF BULK AT MOST 1048576: true; the input reads as it did. -/
def fnExactMisreadAsUptoRow : OpenClaim := { program := "ytfhmmebciikgeaa", sum := "bf488c367f7524a60711fd87c49bdf846229b9b3752f750cce3d4659c39fe857", func := "loop.example/g01046/laws.FnExactMisreadAs", spec := "fnExactMisreadAs", apart := false, narrowed := true }
def FnExactMisreadAsUptoSaid : Prop := fnExactMisreadAsUptoRow.holds Try.pinned (OpenSpec.upto fnExactMisreadAsSpec)

/-- 'laws.FnExactAddAddress', WHERE WHAT IT READS IS OF BULK AT MOST 1048576: true; the input reads as it did. -/
def fnExactAddAddressUptoRow : OpenClaim := { program := "ytfhmmebciikgeaa", sum := "bf488c367f7524a60711fd87c49bdf846229b9b3752f750cce3d4659c39fe857", func := "loop.example/g01046/laws.FnExactAddAddress", spec := "fnExactAddAddress", unfollowed := true, recurses := true, apart := false, narrowed := true }
def FnExactAddAddressUptoSaid : Prop := fnExactAddAddressUptoRow.holds Try.pinned (OpenSpec.upto fnExactAddAddressSpec)

end Rows
end Go.Proofs.Ytfhmmebciikgeaa
