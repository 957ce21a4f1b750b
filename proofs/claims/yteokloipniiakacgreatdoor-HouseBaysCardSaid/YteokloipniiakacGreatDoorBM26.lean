/- Closed facts of HouseBays's row, second part. -/
import Derived.Test.YteokloipniiakacGreatDoorBM15
import Derived.Test.YteokloipniiakacGreatDoorCards
import Derived.SevenTiedAt

/- Closed facts of HouseBays's row, second part. -/
namespace Go.Proofs.YteokloipniiakacGreatDoor
open Go Go.ChangeShapes Go.WideShapes Go.ChangeAt Go.WideMaps Go.WideElems Go.RowKit
set_option linter.all false

theorem houseBays_k11 : (fun (P : Program) (f : FuncId) (fn : Func) (s : ChangeSpec) (c : OpenClaim) => ((c.recurses == P.recurses f) : Bool)) Tryz.pinned.checked.prog 3 Tryz.f3 Rows.houseBaysSpec Rows.houseBaysRow = true := by kernel_rfl
theorem houseBays_k12 : (fun (P : Program) (f : FuncId) (fn : Func) (s : ChangeSpec) (c : OpenClaim) => ((c.named == P.varsNamed f) : Bool)) Tryz.pinned.checked.prog 3 Tryz.f3 Rows.houseBaysSpec Rows.houseBaysRow = true := by kernel_rfl
end Go.Proofs.YteokloipniiakacGreatDoor
