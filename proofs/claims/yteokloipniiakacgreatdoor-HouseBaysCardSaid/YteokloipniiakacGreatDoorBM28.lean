/- The closed facts of HouseBays's row. -/
import Derived.Test.YteokloipniiakacGreatDoorBM25
import Derived.Test.YteokloipniiakacGreatDoorBM26
import Derived.Test.YteokloipniiakacGreatDoorBM27

/- The closed facts of HouseBays's row. -/
namespace Go.Proofs.YteokloipniiakacGreatDoor
open Go Go.ChangeShapes Go.WideShapes Go.ChangeAt Go.WideMaps Go.WideElems Go.RowKit
set_option linter.all false

theorem andT {a b : Bool} (ha : a = true) (hb : b = true) : (a && b) = true := by rw [ha, hb]; rfl
set_option maxRecDepth 1000000 in
theorem houseBays_closed : joinedFacts Tryz.pinned.checked.prog 3 Tryz.f3 Rows.houseBaysSpec Rows.houseBaysRow = true := by
  unfold joinedFacts
  exact andT (andT (andT (andT (andT (andT (andT (andT (andT (andT (andT (andT (andT (andT (andT (andT (andT (andT (andT (andT (andT (andT (andT (andT (andT (andT (andT (andT (andT (andT (andT houseBays_k0 houseBays_k1) houseBays_k2) houseBays_k3) houseBays_k4) houseBays_k5) houseBays_k6) houseBays_k7) houseBays_k8) houseBays_k9) houseBays_k10) houseBays_k11) houseBays_k12) houseBays_k13) houseBays_k14) houseBays_k15) houseBays_k16) houseBays_k17) houseBays_k18) houseBays_k19) houseBays_k20) houseBays_k21) houseBays_k22) houseBays_k23) houseBays_k24) houseBays_k25) houseBays_k26) houseBays_k27) houseBays_k28) houseBays_k29) houseBays_k30) houseBays_k31
end Go.Proofs.YteokloipniiakacGreatDoor
