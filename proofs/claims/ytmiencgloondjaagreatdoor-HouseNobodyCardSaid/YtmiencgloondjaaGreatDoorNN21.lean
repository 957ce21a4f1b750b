/- Closed facts of HouseNobody's row, first part. -/
import Derived.Test.YtmiencgloondjaaGreatDoorNN14
import Derived.Test.YtmiencgloondjaaGreatDoorCards
import Derived.SevenTiedAt

/- Closed facts of HouseNobody's row, first part. -/
namespace Go.Proofs.YtmiencgloondjaaGreatDoor
open Go Go.ChangeShapes Go.WideShapes Go.ChangeAt Go.WideMaps Go.WideElems Go.RowKit
set_option linter.all false

theorem houseNobody_k9 : (fun (P : Program) (f : FuncId) (fn : Func) (s : ChangeSpec) (c : OpenClaim) => ((c.inPlace == P.inPlace f) : Bool)) Tryz.pinned.checked.prog 3 Tryz.f3 Rows.houseNobodySpec Rows.houseNobodyRow = true := by kernel_rfl
theorem houseNobody_k10 : (fun (P : Program) (f : FuncId) (fn : Func) (s : ChangeSpec) (c : OpenClaim) => ((c.unfollowed == P.unfollowed f) : Bool)) Tryz.pinned.checked.prog 3 Tryz.f3 Rows.houseNobodySpec Rows.houseNobodyRow = true := by kernel_rfl
end Go.Proofs.YtmiencgloondjaaGreatDoor
