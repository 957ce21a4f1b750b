/-
  DERIVED. GIVEN WITH THE SEED: THE CARDS: each row of YthdkamnclbfehaaGreatDoorRows.lean that lists a variable, with what it lists TIED to the program's text (the seventh form; the later family's looks); each row that meets fmt, with fmt's text TOLD by the authors' own Lean function (tested against real Go, not proved from fmt's source: count such statements apart). THE CARD IS WHAT COUNTS. Prove the row's statement (the work); the ties are given (YthdkamnclbfehaaGreatDoorTie.lean); close each card by the builder's one call (the guide's Derived/Test/ToyasCard.lean, 'card_holds'). Laid BY PROGRAM, IN A SANDBOX (cutbox-door.mjs). By AI agents, Wed Nov 11 2026. No macro, syntax, notation, axiom, sorry.
-/
import Derived.Test.YthdkamnclbfehaaGreatDoorRows
import GoSem.ClaimSeven
namespace Go.Proofs.YthdkamnclbfehaaGreatDoor
namespace Rows

/-- THE TIED CARD OF 'cubeblaw09.HouseDisks'. -/
def houseDisksCard : Claim7 := { stood := { row := houseDisksRow, standIns := [], harness := (true, "e1f9eaf7faf200dff0944b4f49cc5ee0ac1904f278e3ecd769f4d01c586ff77e"), looks := true }, kinds := [], alts := [], laidByText := true, laidKinds := [.data, .data, .data, .data, .sentinel, .sentinel, .funcs, .pinned], laidTests := true, laidLooks := .later }
def HouseDisksCardSaid : Prop := Claim7.holds Tryz.pinned (.plain (OpenSpec.ofChange houseDisksSpec)) houseDisksCard

/-- THE TIED CARD OF 'cubeblaw09.HouseKept'. -/
def houseKeptCard : Claim7 := { stood := { row := houseKeptRow, standIns := [], harness := (true, "e1f9eaf7faf200dff0944b4f49cc5ee0ac1904f278e3ecd769f4d01c586ff77e"), looks := true }, kinds := [], alts := [], laidByText := true, laidKinds := [.data, .data, .data, .data, .sentinel, .sentinel, .funcs, .pinned], laidTests := true, laidLooks := .later }
def HouseKeptCardSaid : Prop := Claim7.holds Tryz.pinned (.plain (OpenSpec.ofChange houseKeptSpec)) houseKeptCard

/-- THE TIED CARD OF 'cubeblaw09.HouseAssigns'. -/
def houseAssignsCard : Claim7 := { stood := { row := houseAssignsRow, standIns := [], harness := (true, "e1f9eaf7faf200dff0944b4f49cc5ee0ac1904f278e3ecd769f4d01c586ff77e"), looks := true }, kinds := [], alts := [], laidByText := true, laidKinds := [.data, .data, .data, .data, .sentinel, .sentinel, .funcs, .pinned], laidTests := true, laidLooks := .later }
def HouseAssignsCardSaid : Prop := Claim7.holds Tryz.pinned (.plain (OpenSpec.ofChange houseAssignsSpec)) houseAssignsCard

/-- THE TIED CARD OF 'cubeblaw09.HouseColours'. -/
def houseColoursCard : Claim7 := { stood := { row := houseColoursRow, standIns := [], harness := (true, "e1f9eaf7faf200dff0944b4f49cc5ee0ac1904f278e3ecd769f4d01c586ff77e"), looks := true }, kinds := [], alts := [], laidByText := true, laidKinds := [.data, .data, .data, .data, .sentinel, .sentinel, .funcs, .pinned], laidTests := true, laidLooks := .later }
def HouseColoursCardSaid : Prop := Claim7.holds Tryz.pinned (.plain (OpenSpec.ofChange houseColoursSpec)) houseColoursCard

/-- THE TIED CARD OF 'cubeblaw09.HouseBytes'. -/
def houseBytesCard : Claim7 := { stood := { row := houseBytesRow, standIns := [], harness := (true, "e1f9eaf7faf200dff0944b4f49cc5ee0ac1904f278e3ecd769f4d01c586ff77e"), looks := true }, kinds := [], alts := [], laidByText := true, laidKinds := [.data, .data, .data, .data, .sentinel, .sentinel, .funcs, .pinned], laidTests := true, laidLooks := .later }
def HouseBytesCardSaid : Prop := Claim7.holds Tryz.pinned (.plain (OpenSpec.ofChange houseBytesSpec)) houseBytesCard

/-- THE TIED CARD OF 'cubeblaw09.HouseReplays'. -/
def houseReplaysCard : Claim7 := { stood := { row := houseReplaysRow, standIns := [], harness := (true, "e1f9eaf7faf200dff0944b4f49cc5ee0ac1904f278e3ecd769f4d01c586ff77e"), looks := true }, kinds := [], alts := [], laidByText := true, laidKinds := [.data, .data, .data, .data, .sentinel, .sentinel, .funcs, .pinned], laidTests := true, laidLooks := .later }
def HouseReplaysCardSaid : Prop := Claim7.holds Tryz.pinned (.plain (OpenSpec.ofChange houseReplaysSpec)) houseReplaysCard

/-- THE TIED CARD OF 'cubeblaw09.HouseOpens'. -/
def houseOpensCard : Claim7 := { stood := { row := houseOpensRow, standIns := [], harness := (true, "e1f9eaf7faf200dff0944b4f49cc5ee0ac1904f278e3ecd769f4d01c586ff77e"), looks := true }, kinds := [], alts := [], laidByText := true, laidKinds := [.data, .data, .data, .data, .sentinel, .sentinel, .funcs, .pinned], laidTests := true, laidLooks := .later }
def HouseOpensCardSaid : Prop := Claim7.holds Tryz.pinned (.plain (OpenSpec.ofChange houseOpensSpec)) houseOpensCard

/-- THE TIED CARD OF 'cubeblaw09.HouseSerial'. -/
def houseSerialCard : Claim7 := { stood := { row := houseSerialRow, standIns := [], harness := (true, "e1f9eaf7faf200dff0944b4f49cc5ee0ac1904f278e3ecd769f4d01c586ff77e"), looks := true }, kinds := [], alts := [], laidByText := true, laidKinds := [.data, .data, .data, .data, .sentinel, .sentinel, .funcs, .pinned], laidTests := true, laidLooks := .later }
def HouseSerialCardSaid : Prop := Claim7.holds Tryz.pinned (.plain (OpenSpec.ofChange houseSerialSpec)) houseSerialCard

/-- THE TIED CARD OF 'cubeblaw09.HouseDays'. -/
def houseDaysCard : Claim7 := { stood := { row := houseDaysRow, standIns := [], harness := (true, "e1f9eaf7faf200dff0944b4f49cc5ee0ac1904f278e3ecd769f4d01c586ff77e"), looks := true }, kinds := [], alts := [], laidByText := true, laidKinds := [.data, .data, .data, .data, .sentinel, .sentinel, .funcs, .pinned], laidTests := true, laidLooks := .later }
def HouseDaysCardSaid : Prop := Claim7.holds Tryz.pinned (.plain (OpenSpec.ofChange houseDaysSpec)) houseDaysCard

/-- THE SECOND FORM's CARD OF 'cubeblaw09.HouseDisks'. -/
def houseDisksUptoCard : Claim7 := { stood := { row := houseDisksUptoRow, standIns := [], harness := (true, "e1f9eaf7faf200dff0944b4f49cc5ee0ac1904f278e3ecd769f4d01c586ff77e"), looks := true }, kinds := [], alts := [], laidByText := true, laidKinds := [.data, .data, .data, .data, .sentinel, .sentinel, .funcs, .pinned], laidTests := true, laidLooks := .later }
def HouseDisksUptoCardSaid : Prop := Claim7.holds Tryz.pinned (.plain (OpenSpec.upto houseDisksSpec)) houseDisksUptoCard

/-- THE SECOND FORM's CARD OF 'cubeblaw09.HouseKept'. -/
def houseKeptUptoCard : Claim7 := { stood := { row := houseKeptUptoRow, standIns := [], harness := (true, "e1f9eaf7faf200dff0944b4f49cc5ee0ac1904f278e3ecd769f4d01c586ff77e"), looks := true }, kinds := [], alts := [], laidByText := true, laidKinds := [.data, .data, .data, .data, .sentinel, .sentinel, .funcs, .pinned], laidTests := true, laidLooks := .later }
def HouseKeptUptoCardSaid : Prop := Claim7.holds Tryz.pinned (.plain (OpenSpec.upto houseKeptSpec)) houseKeptUptoCard

/-- THE SECOND FORM's CARD OF 'cubeblaw09.HouseAssigns'. -/
def houseAssignsUptoCard : Claim7 := { stood := { row := houseAssignsUptoRow, standIns := [], harness := (true, "e1f9eaf7faf200dff0944b4f49cc5ee0ac1904f278e3ecd769f4d01c586ff77e"), looks := true }, kinds := [], alts := [], laidByText := true, laidKinds := [.data, .data, .data, .data, .sentinel, .sentinel, .funcs, .pinned], laidTests := true, laidLooks := .later }
def HouseAssignsUptoCardSaid : Prop := Claim7.holds Tryz.pinned (.plain (OpenSpec.upto houseAssignsSpec)) houseAssignsUptoCard

/-- THE SECOND FORM's CARD OF 'cubeblaw09.HouseColours'. -/
def houseColoursUptoCard : Claim7 := { stood := { row := houseColoursUptoRow, standIns := [], harness := (true, "e1f9eaf7faf200dff0944b4f49cc5ee0ac1904f278e3ecd769f4d01c586ff77e"), looks := true }, kinds := [], alts := [], laidByText := true, laidKinds := [.data, .data, .data, .data, .sentinel, .sentinel, .funcs, .pinned], laidTests := true, laidLooks := .later }
def HouseColoursUptoCardSaid : Prop := Claim7.holds Tryz.pinned (.plain (OpenSpec.upto houseColoursSpec)) houseColoursUptoCard

/-- THE SECOND FORM's CARD OF 'cubeblaw09.HouseBytes'. -/
def houseBytesUptoCard : Claim7 := { stood := { row := houseBytesUptoRow, standIns := [], harness := (true, "e1f9eaf7faf200dff0944b4f49cc5ee0ac1904f278e3ecd769f4d01c586ff77e"), looks := true }, kinds := [], alts := [], laidByText := true, laidKinds := [.data, .data, .data, .data, .sentinel, .sentinel, .funcs, .pinned], laidTests := true, laidLooks := .later }
def HouseBytesUptoCardSaid : Prop := Claim7.holds Tryz.pinned (.plain (OpenSpec.upto houseBytesSpec)) houseBytesUptoCard

/-- THE SECOND FORM's CARD OF 'cubeblaw09.HouseReplays'. -/
def houseReplaysUptoCard : Claim7 := { stood := { row := houseReplaysUptoRow, standIns := [], harness := (true, "e1f9eaf7faf200dff0944b4f49cc5ee0ac1904f278e3ecd769f4d01c586ff77e"), looks := true }, kinds := [], alts := [], laidByText := true, laidKinds := [.data, .data, .data, .data, .sentinel, .sentinel, .funcs, .pinned], laidTests := true, laidLooks := .later }
def HouseReplaysUptoCardSaid : Prop := Claim7.holds Tryz.pinned (.plain (OpenSpec.upto houseReplaysSpec)) houseReplaysUptoCard

/-- THE SECOND FORM's CARD OF 'cubeblaw09.HouseOpens'. -/
def houseOpensUptoCard : Claim7 := { stood := { row := houseOpensUptoRow, standIns := [], harness := (true, "e1f9eaf7faf200dff0944b4f49cc5ee0ac1904f278e3ecd769f4d01c586ff77e"), looks := true }, kinds := [], alts := [], laidByText := true, laidKinds := [.data, .data, .data, .data, .sentinel, .sentinel, .funcs, .pinned], laidTests := true, laidLooks := .later }
def HouseOpensUptoCardSaid : Prop := Claim7.holds Tryz.pinned (.plain (OpenSpec.upto houseOpensSpec)) houseOpensUptoCard

/-- THE SECOND FORM's CARD OF 'cubeblaw09.HouseSerial'. -/
def houseSerialUptoCard : Claim7 := { stood := { row := houseSerialUptoRow, standIns := [], harness := (true, "e1f9eaf7faf200dff0944b4f49cc5ee0ac1904f278e3ecd769f4d01c586ff77e"), looks := true }, kinds := [], alts := [], laidByText := true, laidKinds := [.data, .data, .data, .data, .sentinel, .sentinel, .funcs, .pinned], laidTests := true, laidLooks := .later }
def HouseSerialUptoCardSaid : Prop := Claim7.holds Tryz.pinned (.plain (OpenSpec.upto houseSerialSpec)) houseSerialUptoCard

/-- THE SECOND FORM's CARD OF 'cubeblaw09.HouseDays'. -/
def houseDaysUptoCard : Claim7 := { stood := { row := houseDaysUptoRow, standIns := [], harness := (true, "e1f9eaf7faf200dff0944b4f49cc5ee0ac1904f278e3ecd769f4d01c586ff77e"), looks := true }, kinds := [], alts := [], laidByText := true, laidKinds := [.data, .data, .data, .data, .sentinel, .sentinel, .funcs, .pinned], laidTests := true, laidLooks := .later }
def HouseDaysUptoCardSaid : Prop := Claim7.holds Tryz.pinned (.plain (OpenSpec.upto houseDaysSpec)) houseDaysUptoCard
end Rows
end Go.Proofs.YthdkamnclbfehaaGreatDoor
