/- Closed facts of TopFinds's row, first part. -/
import Derived.Test.YteommegadhipkaaGreatDoorFM15
import Derived.Test.YteommegadhipkaaGreatDoorCards
import Derived.SevenTiedAt
import Derived.JoinedCond

/- Closed facts of TopFinds's row, first part. -/
namespace Go.Proofs.YteommegadhipkaaGreatDoor
open Go Go.ChangeShapes Go.WideShapes Go.ChangeAt Go.WideMaps Go.WideElems Go.RowKit
set_option linter.all false

theorem topFinds_k9 : (fun (P : Program) (f : FuncId) (fn : Func) (s : ChangeSpec) (c : OpenClaim) => ((c.inPlace == P.inPlace f) : Bool)) Tryz.pinned.checked.prog 3 Tryz.f3 (Rows.OpenSpec.upto Rows.topFindsSpec).bare Rows.topFindsUptoRow = true := by kernel_rfl
theorem topFinds_k10 : (fun (P : Program) (f : FuncId) (fn : Func) (s : ChangeSpec) (c : OpenClaim) => ((c.unfollowed == P.unfollowed f) : Bool)) Tryz.pinned.checked.prog 3 Tryz.f3 (Rows.OpenSpec.upto Rows.topFindsSpec).bare Rows.topFindsUptoRow = true := by kernel_rfl
end Go.Proofs.YteommegadhipkaaGreatDoor
