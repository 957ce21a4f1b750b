/- A closed fact of HouseNobody's card. -/
import Derived.Test.YtmiencgloondjaaGreatDoorNN14
import Derived.Test.YtmiencgloondjaaGreatDoorCards
import Derived.SevenTiedAt

/- A closed fact of HouseNobody's card. -/
namespace Go.Proofs.YtmiencgloondjaaGreatDoor
open Go Go.ChangeShapes Go.WideShapes Go.ChangeAt Go.WideMaps Go.WideElems Go.RowKit

theorem houseNobody_wf : Rows.houseNobodyRow.wfByText (OpenSpec.ofChange Rows.houseNobodySpec) = true := by kernel_rfl
theorem houseNobody_main : Tryz.pinned.checked.prog.mainIs = some (true, ("a245d7e15bbf80e4a57d052e8149d1fddcafaf424d28f1f4a365a21e36ac9e75" : String).toList) := by kernel_rfl
theorem houseNobody_fname : Tryz.prog.funcNamed "cubeb/cubeblaw09.HouseNobody" = some 3 := by kernel_rfl
end Go.Proofs.YtmiencgloondjaaGreatDoor
