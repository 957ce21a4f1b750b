/- Closed facts of TopSure's row, first part. -/
import Derived.Test.YtkkjonkcjlnohaaGreatDoorSM4
import Derived.Test.YtkkjonkcjlnohaaGreatDoorCards
import Derived.SevenTiedAt

/- Closed facts of TopSure's row, first part. -/
namespace Go.Proofs.YtkkjonkcjlnohaaGreatDoor
open Go Go.ChangeShapes Go.WideShapes Go.ChangeAt Go.WideMaps Go.WideElems Go.RowKit
set_option linter.all false

theorem topSure_k9 : (fun (P : Program) (f : FuncId) (fn : Func) (s : ChangeSpec) (c : OpenClaim) => ((c.inPlace == P.inPlace f) : Bool)) Tryz.pinned.checked.prog 3 Tryz.f3 Rows.topSureSpec Rows.topSureRow = true := by kernel_rfl
theorem topSure_k10 : (fun (P : Program) (f : FuncId) (fn : Func) (s : ChangeSpec) (c : OpenClaim) => ((c.unfollowed == P.unfollowed f) : Bool)) Tryz.pinned.checked.prog 3 Tryz.f3 Rows.topSureSpec Rows.topSureRow = true := by kernel_rfl
end Go.Proofs.YtkkjonkcjlnohaaGreatDoor
