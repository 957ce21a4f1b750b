/- A closed fact of HouseWeighs's card. -/
import Derived.Test.YteokloipniiakaaGreatDoorWM15
import Derived.Test.YteokloipniiakaaGreatDoorCards
import Derived.SevenTiedAt

/- A closed fact of HouseWeighs's card. -/
namespace Go.Proofs.YteokloipniiakaaGreatDoor
open Go Go.ChangeShapes Go.WideShapes Go.ChangeAt Go.WideMaps Go.WideElems Go.RowKit

theorem houseWeighs_wf : Rows.houseWeighsRow.wfByText (OpenSpec.ofChange Rows.houseWeighsSpec) = true := by kernel_rfl
theorem houseWeighs_main : Tryz.pinned.checked.prog.mainIs = some (true, ("e39b39f8af8238861c004f67cdbb0539010000a56b826b63aa76dc71177ab5be" : String).toList) := by kernel_rfl
theorem houseWeighs_fname : Tryz.prog.funcNamed "cubeb/cubeblaw09.HouseWeighs" = some 3 := by kernel_rfl
end Go.Proofs.YteokloipniiakaaGreatDoor
