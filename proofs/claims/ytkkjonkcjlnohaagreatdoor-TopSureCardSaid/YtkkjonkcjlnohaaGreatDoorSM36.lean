/- A closed fact of TopSure's card. -/
import Derived.Test.YtkkjonkcjlnohaaGreatDoorSM4
import Derived.Test.YtkkjonkcjlnohaaGreatDoorCards
import Derived.SevenTiedAt

/- A closed fact of TopSure's card. -/
namespace Go.Proofs.YtkkjonkcjlnohaaGreatDoor
open Go Go.ChangeShapes Go.WideShapes Go.ChangeAt Go.WideMaps Go.WideElems Go.RowKit

theorem topSure_goes : false = Rows.topSureRow.goesBy Tryz.pinned.checked.prog := by kernel_rfl
end Go.Proofs.YtkkjonkcjlnohaaGreatDoor
