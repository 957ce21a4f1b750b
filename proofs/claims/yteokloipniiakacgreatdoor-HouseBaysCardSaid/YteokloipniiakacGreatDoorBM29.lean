/- A closed fact of HouseBays's card. -/
import Derived.Test.YteokloipniiakacGreatDoorBM15
import Derived.Test.YteokloipniiakacGreatDoorCards
import Derived.SevenTiedAt

/- A closed fact of HouseBays's card. -/
namespace Go.Proofs.YteokloipniiakacGreatDoor
open Go Go.ChangeShapes Go.WideShapes Go.ChangeAt Go.WideMaps Go.WideElems Go.RowKit

theorem houseBays_goes : false = Rows.houseBaysRow.goesBy Tryz.pinned.checked.prog := by kernel_rfl
end Go.Proofs.YteokloipniiakacGreatDoor
