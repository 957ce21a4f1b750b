/- A closed fact of TopSure's card. -/
import Derived.Test.YtkkjonkcjlnohaaGreatDoorSM4
import Derived.Test.YtkkjonkcjlnohaaGreatDoorCards
import Derived.SevenTiedAt

/- A closed fact of TopSure's card. -/
namespace Go.Proofs.YtkkjonkcjlnohaaGreatDoor
open Go Go.ChangeShapes Go.WideShapes Go.ChangeAt Go.WideMaps Go.WideElems Go.RowKit

theorem topSure_looks : true = Tryz.pinned.checked.prog.looks [] := by kernel_rfl
end Go.Proofs.YtkkjonkcjlnohaaGreatDoor

/- A closed fact of TopSure's card. -/
namespace Go.Proofs.YtkkjonkcjlnohaaGreatDoor
open Go Go.ChangeShapes Go.WideShapes Go.ChangeAt Go.WideMaps Go.WideElems Go.RowKit

theorem topSure_wf : Rows.topSureRow.wfByText (OpenSpec.ofChange Rows.topSureSpec) = true := by kernel_rfl
theorem topSure_main : Tryz.pinned.checked.prog.mainIs = some (true, ("d60ce362717ef28328d9e45d615cf41fa34828e074e5cf5f1901fb4af5603612" : String).toList) := by kernel_rfl
theorem topSure_fname : Tryz.prog.funcNamed "cubeb/cubebtop.TopSure" = some 3 := by kernel_rfl
end Go.Proofs.YtkkjonkcjlnohaaGreatDoor
