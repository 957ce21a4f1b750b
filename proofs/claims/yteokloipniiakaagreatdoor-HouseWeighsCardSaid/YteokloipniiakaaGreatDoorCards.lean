/-
  DERIVED. GIVEN WITH THE SEED: THE CARDS: each row of YteokloipniiakaaGreatDoorRows.lean that lists a variable, with what it lists TIED to the program's text (the seventh form; the later family's looks); each row that meets fmt, with fmt's text TOLD by the authors' own Lean function (tested against real Go, not proved from fmt's source: count such statements apart). THE CARD IS WHAT COUNTS. Prove the row's statement (the work); the ties are given (YteokloipniiakaaGreatDoorTie.lean); close each card by the builder's one call (the guide's Derived/Test/ToyasCard.lean, 'card_holds'). Laid BY PROGRAM, IN A SANDBOX (cutbox-door.mjs). By AI agents, Wed Nov 11 2026. No macro, syntax, notation, axiom, sorry.
-/
import Derived.Test.YteokloipniiakaaGreatDoorRows
import GoSem.ClaimSeven
namespace Go.Proofs.YteokloipniiakaaGreatDoor
namespace Rows

/-- THE TIED CARD OF 'cubeblaw09.HouseWeighs'. -/
def houseWeighsCard : Claim7 := { stood := { row := houseWeighsRow, standIns := [], harness := (true, "e39b39f8af8238861c004f67cdbb0539010000a56b826b63aa76dc71177ab5be"), looks := true }, kinds := [], alts := [], laidByText := true, laidKinds := [.data, .data, .data, .data, .sentinel, .sentinel, .mapped, .funcs, .pinned], laidTests := true, laidLooks := .later }
def HouseWeighsCardSaid : Prop := Claim7.holds Tryz.pinned (.plain (OpenSpec.ofChange houseWeighsSpec)) houseWeighsCard
end Rows
end Go.Proofs.YteokloipniiakaaGreatDoor
