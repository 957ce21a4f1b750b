/- A closed fact of HouseNobody's card. -/
import Derived.Test.YtmiencgloondjaaGreatDoorCards
import Derived.LaidByTextLater
import Derived.KernelRfl

/- A closed fact of HouseNobody's card. -/
namespace Go.Proofs.YtmiencgloondjaaGreatDoor
open Go

theorem houseNobody_goesB : (fun (P : Program) (k : Claim7) => (fun (c : OpenClaim) => ((k.goes == c.goesBy P) : Bool)) k.stood.row) Tryz.pinned.checked.prog Rows.houseNobodyCard = true := by kernel_rfl
theorem houseNobody_goes : false = Rows.houseNobodyRow.goesBy Tryz.pinned.checked.prog := eq_of_beq houseNobody_goesB
end Go.Proofs.YtmiencgloondjaaGreatDoor
