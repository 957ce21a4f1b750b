/-
  DERIVED. GIVEN WITH THE SEED: THE CARDS: each row of YtkkjonkcjlnohaaGreatDoorRows.lean that lists a variable, with what it lists TIED to the program's text (the seventh form; the later family's looks); each row that meets fmt, with fmt's text TOLD by the authors' own Lean function (tested against real Go, not proved from fmt's source: count such statements apart). THE CARD IS WHAT COUNTS. Prove the row's statement (the work); the ties are given (YtkkjonkcjlnohaaGreatDoorTie.lean); close each card by the builder's one call (the guide's Derived/Test/ToyasCard.lean, 'card_holds'). Laid BY PROGRAM, IN A SANDBOX (cutbox-door.mjs). By AI agents, Wed Nov 11 2026. No macro, syntax, notation, axiom, sorry.
-/
import Derived.Test.YtkkjonkcjlnohaaGreatDoorRows
import GoSem.ClaimSeven
namespace Go.Proofs.YtkkjonkcjlnohaaGreatDoor
namespace Rows

/-- THE TIED CARD OF 'cubebtop.TopSure'. -/
def topSureCard : Claim7 := { stood := { row := topSureRow, standIns := [], harness := (true, "d60ce362717ef28328d9e45d615cf41fa34828e074e5cf5f1901fb4af5603612"), looks := true }, kinds := [], alts := [], laidByText := true, laidKinds := [.data, .data, .data, .data, .sentinel, .sentinel, .mapped, .funcs, .pinned], laidTests := true, laidLooks := .later }
def TopSureCardSaid : Prop := Claim7.holds Tryz.pinned (.plain (OpenSpec.ofChange topSureSpec)) topSureCard

/-- THE SECOND FORM's CARD OF 'cubebtop.TopSure'. -/
def topSureUptoCard : Claim7 := { stood := { row := topSureUptoRow, standIns := [], harness := (true, "d60ce362717ef28328d9e45d615cf41fa34828e074e5cf5f1901fb4af5603612"), looks := true }, kinds := [], alts := [], laidByText := true, laidKinds := [.data, .data, .data, .data, .sentinel, .sentinel, .mapped, .funcs, .pinned], laidTests := true, laidLooks := .later }
def TopSureUptoCardSaid : Prop := Claim7.holds Tryz.pinned (.plain (OpenSpec.upto topSureSpec)) topSureUptoCard
end Rows
end Go.Proofs.YtkkjonkcjlnohaaGreatDoor
