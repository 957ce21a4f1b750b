/- Closed facts of HouseNobody's row, second part. -/
import Derived.Test.YtmiencgloondjaaGreatDoorNN14
import Derived.Test.YtmiencgloondjaaGreatDoorCards
import Derived.SevenTiedAt

/- Closed facts of HouseNobody's row, second part. -/
namespace Go.Proofs.YtmiencgloondjaaGreatDoor
open Go Go.ChangeShapes Go.WideShapes Go.ChangeAt Go.WideMaps Go.WideElems Go.RowKit
set_option linter.all false

theorem houseNobody_k11 : (fun (P : Program) (f : FuncId) (fn : Func) (s : ChangeSpec) (c : OpenClaim) => ((c.recurses == P.recurses f) : Bool)) Tryz.pinned.checked.prog 3 Tryz.f3 Rows.houseNobodySpec Rows.houseNobodyRow = true := by kernel_rfl
theorem houseNobody_k12 : (fun (P : Program) (f : FuncId) (fn : Func) (s : ChangeSpec) (c : OpenClaim) => ((c.named == P.varsNamed f) : Bool)) Tryz.pinned.checked.prog 3 Tryz.f3 Rows.houseNobodySpec Rows.houseNobodyRow = true := by kernel_rfl
end Go.Proofs.YtmiencgloondjaaGreatDoor
