/- A closed fact of HouseBays's card. -/
import Derived.Test.YteokloipniiakacGreatDoorBM15
import Derived.Test.YteokloipniiakacGreatDoorCards
import Derived.SevenTiedAt

/- A closed fact of HouseBays's card. -/
namespace Go.Proofs.YteokloipniiakacGreatDoor
open Go Go.ChangeShapes Go.WideShapes Go.ChangeAt Go.WideMaps Go.WideElems Go.RowKit

theorem houseBays_wf : Rows.houseBaysRow.wfByText (OpenSpec.ofChange Rows.houseBaysSpec) = true := by kernel_rfl
theorem houseBays_main : Tryz.pinned.checked.prog.mainIs = some (true, ("6e195639b54d1f90a465abd9b629fd44851620027af9e207eccc4c549fcf69e4" : String).toList) := by kernel_rfl
theorem houseBays_fname : Tryz.prog.funcNamed "cubeb/cubeblaw09.HouseBays" = some 3 := by kernel_rfl
end Go.Proofs.YteokloipniiakacGreatDoor
