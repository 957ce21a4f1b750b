/- Closed facts of TopFinds's row, second part. -/
import Derived.Test.YteommegadhipkaaGreatDoorFM15
import Derived.Test.YteommegadhipkaaGreatDoorCards
import Derived.SevenTiedAt
import Derived.JoinedCond

/- Closed facts of TopFinds's row, second part. -/
namespace Go.Proofs.YteommegadhipkaaGreatDoor
open Go Go.ChangeShapes Go.WideShapes Go.ChangeAt Go.WideMaps Go.WideElems Go.RowKit
set_option linter.all false

theorem topFinds_k11 : (fun (P : Program) (f : FuncId) (fn : Func) (s : ChangeSpec) (c : OpenClaim) => ((c.recurses == P.recurses f) : Bool)) Tryz.pinned.checked.prog 3 Tryz.f3 (Rows.OpenSpec.upto Rows.topFindsSpec).bare Rows.topFindsUptoRow = true := by kernel_rfl
theorem topFinds_k12 : (fun (P : Program) (f : FuncId) (fn : Func) (s : ChangeSpec) (c : OpenClaim) => ((c.named == P.varsNamed f) : Bool)) Tryz.pinned.checked.prog 3 Tryz.f3 (Rows.OpenSpec.upto Rows.topFindsSpec).bare Rows.topFindsUptoRow = true := by kernel_rfl
end Go.Proofs.YteommegadhipkaaGreatDoor
