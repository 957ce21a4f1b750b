/- The closed facts of HouseNobody's row. -/
import Derived.Test.YtmiencgloondjaaGreatDoorNN21
import Derived.Test.YtmiencgloondjaaGreatDoorNN22
import Derived.Test.YtmiencgloondjaaGreatDoorNN23

/- The closed facts of HouseNobody's row. -/
namespace Go.Proofs.YtmiencgloondjaaGreatDoor
open Go Go.ChangeShapes Go.WideShapes Go.ChangeAt Go.WideMaps Go.WideElems Go.RowKit
set_option linter.all false

theorem andT {a b : Bool} (ha : a = true) (hb : b = true) : (a && b) = true := by rw [ha, hb]; rfl
set_option maxRecDepth 1000000 in
theorem houseNobody_closed : joinedFacts Tryz.pinned.checked.prog 3 Tryz.f3 Rows.houseNobodySpec Rows.houseNobodyRow = true := by
  unfold joinedFacts
  exact andT (andT (andT (andT (andT (andT (andT (andT (andT (andT (andT (andT (andT (andT (andT (andT (andT (andT (andT (andT (andT (andT (andT (andT (andT (andT (andT (andT (andT (andT (andT houseNobody_k0 houseNobody_k1) houseNobody_k2) houseNobody_k3) houseNobody_k4) houseNobody_k5) houseNobody_k6) houseNobody_k7) houseNobody_k8) houseNobody_k9) houseNobody_k10) houseNobody_k11) houseNobody_k12) houseNobody_k13) houseNobody_k14) houseNobody_k15) houseNobody_k16) houseNobody_k17) houseNobody_k18) houseNobody_k19) houseNobody_k20) houseNobody_k21) houseNobody_k22) houseNobody_k23) houseNobody_k24) houseNobody_k25) houseNobody_k26) houseNobody_k27) houseNobody_k28) houseNobody_k29) houseNobody_k30) houseNobody_k31
end Go.Proofs.YtmiencgloondjaaGreatDoor
