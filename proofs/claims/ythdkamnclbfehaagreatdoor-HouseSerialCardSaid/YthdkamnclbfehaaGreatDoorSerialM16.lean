/- The closed facts of HouseSerial's row. -/
import Derived.Test.YthdkamnclbfehaaGreatDoorSerialM15
import Derived.Test.YthdkamnclbfehaaGreatDoorCards
import Derived.SevenTiedAt
/- The closed facts of HouseSerial's row. -/
namespace Go.Proofs.YthdkamnclbfehaaGreatDoor
open Go Go.ChangeShapes Go.WideShapes Go.ChangeAt Go.WideMaps Go.WideElems Go.RowKit
theorem houseSerial_name : Tryz.pinned.checked.prog.funcNamed Rows.houseSerialRow.func = some 10 := by kernel_rfl
theorem houseSerial_inst : Tryz.f10.isInstance Tryz.pinned.checked.prog Rows.houseSerialRow.origin Rows.houseSerialRow.targs := of_decide_eq_true (by kernel_rfl)
theorem houseSerial_wrap : Tryz.f10.isWrapper Tryz.pinned.checked.prog Rows.houseSerialRow.wrapper Rows.houseSerialRow.mainSum := by
  unfold Func.isWrapper
  first | (rw [if_pos (by decide +kernel)]; kernel_rfl) | (rw [if_neg (by decide +kernel)]; exact ⟨rfl, rfl⟩)
theorem houseSerial_closed : joinedFacts Tryz.pinned.checked.prog 10 Tryz.f10 Rows.houseSerialSpec Rows.houseSerialRow = true := by kernel_rfl
end Go.Proofs.YthdkamnclbfehaaGreatDoor
