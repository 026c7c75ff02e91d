/-
  DERIVED. GIVEN WITH THE SEED: THE CARDS: each row of YtfhmmebciikgeaaDoorRows.lean that lists a variable, with what it lists TIED to the program's text (the seventh form; the later family's looks); each row that meets fmt, with fmt's text TOLD by the authors' own Lean function (tested against real Go, not proved from fmt's source: count such statements apart). THE CARD IS WHAT COUNTS. Prove the row's statement (the work); the ties are given (YtfhmmebciikgeaaDoorTie.lean); close each card by the builder's one call (the guide's Derived/Test/ToyasCard.lean, 'card_holds'). Laid BY PROGRAM, IN A SANDBOX (cutbox-door.mjs). By AI agents, Wed Nov 11 2026. No macro, syntax, notation, axiom, sorry.
-/
import Derived.Test.YtfhmmebciikgeaaDoorRows
import GoSem.ClaimSeven
namespace Go.Proofs.YtfhmmebciikgeaaDoor
namespace Rows

/-- THE TIED CARD OF 'laws.FnExactMostAddresses'. -/
def fnExactMostAddressesCard : Claim7 := { stood := { row := fnExactMostAddressesRow, standIns := [], harness := (true, "f5c90530e53bbd71635fa9ddc6c2c44e28565c8124a55a52d6da8c40d7f09f34"), looks := false }, kinds := [], alts := [], laidByText := true, laidKinds := [.data], laidTests := true, laidLooks := .later }
def FnExactMostAddressesCardSaid : Prop := Claim7.holds Tryd.pinned (.plain (OpenSpec.ofChange fnExactMostAddressesSpec)) fnExactMostAddressesCard

/-- THE SECOND FORM's CARD OF 'laws.FnExactMostAddresses'. -/
def fnExactMostAddressesUptoCard : Claim7 := { stood := { row := fnExactMostAddressesUptoRow, standIns := [], harness := (true, "f5c90530e53bbd71635fa9ddc6c2c44e28565c8124a55a52d6da8c40d7f09f34"), looks := false }, kinds := [], alts := [], laidByText := true, laidKinds := [.data], laidTests := true, laidLooks := .later }
def FnExactMostAddressesUptoCardSaid : Prop := Claim7.holds Tryd.pinned (.plain (OpenSpec.upto fnExactMostAddressesSpec)) fnExactMostAddressesUptoCard
end Rows
end Go.Proofs.YtfhmmebciikgeaaDoor
