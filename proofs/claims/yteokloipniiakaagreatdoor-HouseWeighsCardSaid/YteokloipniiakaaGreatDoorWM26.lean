/- Closed facts of HouseWeighs's row, first part. -/
import Derived.Test.YteokloipniiakaaGreatDoorWM15
import Derived.Test.YteokloipniiakaaGreatDoorCards
import Derived.SevenTiedAt

/- Closed facts of HouseWeighs's row, first part. -/
namespace Go.Proofs.YteokloipniiakaaGreatDoor
open Go Go.ChangeShapes Go.WideShapes Go.ChangeAt Go.WideMaps Go.WideElems Go.RowKit
set_option linter.all false

theorem houseWeighs_k9 : (fun (P : Program) (f : FuncId) (fn : Func) (s : ChangeSpec) (c : OpenClaim) => ((c.inPlace == P.inPlace f) : Bool)) Tryz.pinned.checked.prog 3 Tryz.f3 Rows.houseWeighsSpec Rows.houseWeighsRow = true := by kernel_rfl
theorem houseWeighs_k10 : (fun (P : Program) (f : FuncId) (fn : Func) (s : ChangeSpec) (c : OpenClaim) => ((c.unfollowed == P.unfollowed f) : Bool)) Tryz.pinned.checked.prog 3 Tryz.f3 Rows.houseWeighsSpec Rows.houseWeighsRow = true := by kernel_rfl
end Go.Proofs.YteokloipniiakaaGreatDoor
