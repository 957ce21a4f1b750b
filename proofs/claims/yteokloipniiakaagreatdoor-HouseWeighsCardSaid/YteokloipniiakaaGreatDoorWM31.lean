/- A closed fact of HouseWeighs's card. -/
import Derived.Test.YteokloipniiakaaGreatDoorWM15
import Derived.Test.YteokloipniiakaaGreatDoorCards
import Derived.SevenTiedAt

/- A closed fact of HouseWeighs's card. -/
namespace Go.Proofs.YteokloipniiakaaGreatDoor
open Go Go.ChangeShapes Go.WideShapes Go.ChangeAt Go.WideMaps Go.WideElems Go.RowKit

theorem houseWeighs_looks : true = Tryz.pinned.checked.prog.looks [] := by kernel_rfl
end Go.Proofs.YteokloipniiakaaGreatDoor
