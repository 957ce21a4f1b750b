/-
  DERIVED. GIVEN WITH THE SEED: THE CARDS: each row of YteommegadhipkaaGreatDoorRows.lean that lists a variable, with what it lists TIED to the program's text (the seventh form; the later family's looks); each row that meets fmt, with fmt's text TOLD by the authors' own Lean function (tested against real Go, not proved from fmt's source: count such statements apart). THE CARD IS WHAT COUNTS. Prove the row's statement (the work); the ties are given (YteommegadhipkaaGreatDoorTie.lean); close each card by the builder's one call (the guide's Derived/Test/ToyasCard.lean, 'card_holds'). Laid BY PROGRAM, IN A SANDBOX (cutbox-door.mjs). By AI agents, Wed Nov 11 2026. No macro, syntax, notation, axiom, sorry.
-/
import Derived.Test.YteommegadhipkaaGreatDoorRows
import GoSem.ClaimSeven
namespace Go.Proofs.YteommegadhipkaaGreatDoor
namespace Rows

/-- THE TIED CARD OF 'cubebtop.TopFinds'. -/
def topFindsCard : Claim7 := { stood := { row := topFindsRow, standIns := [], harness := (true, "c665d3540088ac835243ba652d6aff514967a73654a50065f2022064e8a9651d"), looks := true }, kinds := [], alts := [], laidByText := true, laidKinds := [.data, .data, .data, .data, .sentinel, .sentinel, .mapped, .funcs, .pinned], laidTests := true, laidLooks := .later }
def TopFindsCardSaid : Prop := Claim7.holds Tryz.pinned (.plain (OpenSpec.ofChange topFindsSpec)) topFindsCard

/-- THE SECOND FORM's CARD OF 'cubebtop.TopFinds'. -/
def topFindsUptoCard : Claim7 := { stood := { row := topFindsUptoRow, standIns := [], harness := (true, "c665d3540088ac835243ba652d6aff514967a73654a50065f2022064e8a9651d"), looks := true }, kinds := [], alts := [], laidByText := true, laidKinds := [.data, .data, .data, .data, .sentinel, .sentinel, .mapped, .funcs, .pinned], laidTests := true, laidLooks := .later }
def TopFindsUptoCardSaid : Prop := Claim7.holds Tryz.pinned (.plain (OpenSpec.upto topFindsSpec)) topFindsUptoCard
end Rows
end Go.Proofs.YteommegadhipkaaGreatDoor
