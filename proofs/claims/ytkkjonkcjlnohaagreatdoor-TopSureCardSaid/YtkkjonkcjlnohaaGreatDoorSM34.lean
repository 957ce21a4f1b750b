/- Closed facts of TopSure's row, second part. -/
import Derived.Test.YtkkjonkcjlnohaaGreatDoorSM4
import Derived.Test.YtkkjonkcjlnohaaGreatDoorCards
import Derived.SevenTiedAt

/- Closed facts of TopSure's row, second part. -/
namespace Go.Proofs.YtkkjonkcjlnohaaGreatDoor
open Go Go.ChangeShapes Go.WideShapes Go.ChangeAt Go.WideMaps Go.WideElems Go.RowKit
set_option linter.all false

theorem topSure_k11 : (fun (P : Program) (f : FuncId) (fn : Func) (s : ChangeSpec) (c : OpenClaim) => ((c.recurses == P.recurses f) : Bool)) Tryz.pinned.checked.prog 3 Tryz.f3 Rows.topSureSpec Rows.topSureRow = true := by kernel_rfl
theorem topSure_k12 : (fun (P : Program) (f : FuncId) (fn : Func) (s : ChangeSpec) (c : OpenClaim) => ((c.named == P.varsNamed f) : Bool)) Tryz.pinned.checked.prog 3 Tryz.f3 Rows.topSureSpec Rows.topSureRow = true := by kernel_rfl
end Go.Proofs.YtkkjonkcjlnohaaGreatDoor
