/- The closed facts of HouseOpens's row. -/
import Derived.Test.YthdkamnclbfehaaGreatDoorO15
import Derived.Test.YthdkamnclbfehaaGreatDoorCards
import Derived.SevenTiedAt
/- The closed facts of HouseOpens's row. -/
namespace Go.Proofs.YthdkamnclbfehaaGreatDoor
open Go Go.ChangeShapes Go.WideShapes Go.ChangeAt Go.WideMaps Go.WideElems Go.RowKit
theorem houseOpens_name : Tryz.pinned.checked.prog.funcNamed Rows.houseOpensRow.func = some 9 := by kernel_rfl
theorem houseOpens_inst : Tryz.f9.isInstance Tryz.pinned.checked.prog Rows.houseOpensRow.origin Rows.houseOpensRow.targs := of_decide_eq_true (by kernel_rfl)
theorem houseOpens_wrap : Tryz.f9.isWrapper Tryz.pinned.checked.prog Rows.houseOpensRow.wrapper Rows.houseOpensRow.mainSum := by
  unfold Func.isWrapper
  first | (rw [if_pos (by decide +kernel)]; kernel_rfl) | (rw [if_neg (by decide +kernel)]; exact ⟨rfl, rfl⟩)
theorem houseOpens_closed : joinedFacts Tryz.pinned.checked.prog 9 Tryz.f9 Rows.houseOpensSpec Rows.houseOpensRow = true := by kernel_rfl
end Go.Proofs.YthdkamnclbfehaaGreatDoor
