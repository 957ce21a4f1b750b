/- Closed facts of HouseBays's row, first part. -/
import Derived.Test.YteokloipniiakacGreatDoorBM15
import Derived.Test.YteokloipniiakacGreatDoorCards
import Derived.SevenTiedAt

/- Closed facts of HouseBays's row, first part. -/
namespace Go.Proofs.YteokloipniiakacGreatDoor
open Go Go.ChangeShapes Go.WideShapes Go.ChangeAt Go.WideMaps Go.WideElems Go.RowKit
set_option linter.all false

theorem houseBays_k9 : (fun (P : Program) (f : FuncId) (fn : Func) (s : ChangeSpec) (c : OpenClaim) => ((c.inPlace == P.inPlace f) : Bool)) Tryz.pinned.checked.prog 3 Tryz.f3 Rows.houseBaysSpec Rows.houseBaysRow = true := by kernel_rfl
theorem houseBays_k10 : (fun (P : Program) (f : FuncId) (fn : Func) (s : ChangeSpec) (c : OpenClaim) => ((c.unfollowed == P.unfollowed f) : Bool)) Tryz.pinned.checked.prog 3 Tryz.f3 Rows.houseBaysSpec Rows.houseBaysRow = true := by kernel_rfl
end Go.Proofs.YteokloipniiakacGreatDoor
