/- The closed facts of HouseWeighs's row. -/
import Derived.Test.YteokloipniiakaaGreatDoorWM26
import Derived.Test.YteokloipniiakaaGreatDoorWM27
import Derived.Test.YteokloipniiakaaGreatDoorWM28

/- The closed facts of HouseWeighs's row. -/
namespace Go.Proofs.YteokloipniiakaaGreatDoor
open Go Go.ChangeShapes Go.WideShapes Go.ChangeAt Go.WideMaps Go.WideElems Go.RowKit
set_option linter.all false

theorem andT {a b : Bool} (ha : a = true) (hb : b = true) : (a && b) = true := by rw [ha, hb]; rfl
set_option maxRecDepth 1000000 in
theorem houseWeighs_closed : joinedFacts Tryz.pinned.checked.prog 3 Tryz.f3 Rows.houseWeighsSpec Rows.houseWeighsRow = true := by
  unfold joinedFacts
  exact andT (andT (andT (andT (andT (andT (andT (andT (andT (andT (andT (andT (andT (andT (andT (andT (andT (andT (andT (andT (andT (andT (andT (andT (andT (andT (andT (andT (andT (andT (andT houseWeighs_k0 houseWeighs_k1) houseWeighs_k2) houseWeighs_k3) houseWeighs_k4) houseWeighs_k5) houseWeighs_k6) houseWeighs_k7) houseWeighs_k8) houseWeighs_k9) houseWeighs_k10) houseWeighs_k11) houseWeighs_k12) houseWeighs_k13) houseWeighs_k14) houseWeighs_k15) houseWeighs_k16) houseWeighs_k17) houseWeighs_k18) houseWeighs_k19) houseWeighs_k20) houseWeighs_k21) houseWeighs_k22) houseWeighs_k23) houseWeighs_k24) houseWeighs_k25) houseWeighs_k26) houseWeighs_k27) houseWeighs_k28) houseWeighs_k29) houseWeighs_k30) houseWeighs_k31
end Go.Proofs.YteokloipniiakaaGreatDoor
