/- Closed facts of HouseWeighs's row, second part. -/
import Derived.Test.YteokloipniiakaaGreatDoorWM15
import Derived.Test.YteokloipniiakaaGreatDoorCards
import Derived.SevenTiedAt

/- Closed facts of HouseWeighs's row, second part. -/
namespace Go.Proofs.YteokloipniiakaaGreatDoor
open Go Go.ChangeShapes Go.WideShapes Go.ChangeAt Go.WideMaps Go.WideElems Go.RowKit
set_option linter.all false

theorem houseWeighs_k11 : (fun (P : Program) (f : FuncId) (fn : Func) (s : ChangeSpec) (c : OpenClaim) => ((c.recurses == P.recurses f) : Bool)) Tryz.pinned.checked.prog 3 Tryz.f3 Rows.houseWeighsSpec Rows.houseWeighsRow = true := by kernel_rfl
theorem houseWeighs_k12 : (fun (P : Program) (f : FuncId) (fn : Func) (s : ChangeSpec) (c : OpenClaim) => ((c.named == P.varsNamed f) : Bool)) Tryz.pinned.checked.prog 3 Tryz.f3 Rows.houseWeighsSpec Rows.houseWeighsRow = true := by kernel_rfl
end Go.Proofs.YteokloipniiakaaGreatDoor
