/-
  DERIVED. GIVEN WITH THE SEED: THE CARDS: each row of YteokloipniiakacGreatDoorRows.lean that lists a variable, with what it lists TIED to the program's text (the seventh form; the later family's looks); each row that meets fmt, with fmt's text TOLD by the authors' own Lean function (tested against real Go, not proved from fmt's source: count such statements apart). THE CARD IS WHAT COUNTS. Prove the row's statement (the work); the ties are given (YteokloipniiakacGreatDoorTie.lean); close each card by the builder's one call (the guide's Derived/Test/ToyasCard.lean, 'card_holds'). Laid BY PROGRAM, IN A SANDBOX (cutbox-door.mjs). By AI agents, Wed Nov 11 2026. No macro, syntax, notation, axiom, sorry.
-/
import Derived.Test.YteokloipniiakacGreatDoorRows
import GoSem.ClaimSeven
namespace Go.Proofs.YteokloipniiakacGreatDoor
namespace Rows

/-- THE TIED CARD OF 'cubeblaw09.HouseBays'. -/
def houseBaysCard : Claim7 := { stood := { row := houseBaysRow, standIns := [], harness := (true, "6e195639b54d1f90a465abd9b629fd44851620027af9e207eccc4c549fcf69e4"), looks := true }, kinds := [], alts := [], laidByText := true, laidKinds := [.data, .data, .data, .data, .sentinel, .sentinel, .mapped, .funcs, .pinned], laidTests := true, laidLooks := .later }
def HouseBaysCardSaid : Prop := Claim7.holds Tryz.pinned (.plain (OpenSpec.ofChange houseBaysSpec)) houseBaysCard

/-- THE SECOND FORM's CARD OF 'cubeblaw09.HouseBays'. -/
def houseBaysUptoCard : Claim7 := { stood := { row := houseBaysUptoRow, standIns := [], harness := (true, "6e195639b54d1f90a465abd9b629fd44851620027af9e207eccc4c549fcf69e4"), looks := true }, kinds := [], alts := [], laidByText := true, laidKinds := [.data, .data, .data, .data, .sentinel, .sentinel, .mapped, .funcs, .pinned], laidTests := true, laidLooks := .later }
def HouseBaysUptoCardSaid : Prop := Claim7.holds Tryz.pinned (.plain (OpenSpec.upto houseBaysSpec)) houseBaysUptoCard
end Rows
end Go.Proofs.YteokloipniiakacGreatDoor
