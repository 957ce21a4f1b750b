/- A closed fact of TopFinds's card. -/
import Derived.Test.YteommegadhipkaaGreatDoorCards
import Derived.LaidByTextLater
import Derived.KernelRfl

/- A closed fact of TopFinds's card. -/
namespace Go.Proofs.YteommegadhipkaaGreatDoor
open Go

theorem topFinds_goesB : (fun (P : Program) (k : Claim7) => (fun (c : OpenClaim) => ((k.goes == c.goesBy P) : Bool)) k.stood.row) Tryz.pinned.checked.prog Rows.topFindsUptoCard = true := by kernel_rfl
theorem topFinds_goes : false = Rows.topFindsUptoRow.goesBy Tryz.pinned.checked.prog := eq_of_beq topFinds_goesB
end Go.Proofs.YteommegadhipkaaGreatDoor
