/- A part of the proof. -/
import Derived.Test.YthdkamnclbfehaaGreatDoorDaysM15
import Derived.Test.YthdkamnclbfehaaGreatDoorCards
set_option linter.all false
namespace Go.Proofs.YthdkamnclbfehaaGreatDoor
open Go Go.ChangeShapes Go.WideShapes Go.ChangeAt Go.WideMaps Go.WideElems Go.RowKit
theorem houseDays_name:Tryz.pinned.checked.prog.funcNamed Rows.houseDaysUptoRow.func=some 11:=by kernel_rfl
theorem houseDays_inst:Tryz.f11.isInstance Tryz.pinned.checked.prog Rows.houseDaysUptoRow.origin Rows.houseDaysUptoRow.targs:=of_decide_eq_true (by kernel_rfl)
theorem houseDays_wrap:Tryz.f11.isWrapper Tryz.pinned.checked.prog Rows.houseDaysUptoRow.wrapper Rows.houseDaysUptoRow.mainSum:=by
 unfold Func.isWrapper;first | (rw [if_pos (by decide+kernel)];kernel_rfl) | (rw [if_neg (by decide+kernel)];exact ⟨rfl,rfl⟩)
theorem houseDays_closed:joinedFacts Tryz.pinned.checked.prog 11 Tryz.f11 (Rows.OpenSpec.upto Rows.houseDaysSpec).bare Rows.houseDaysUptoRow=true:=by kernel_rfl
end Go.Proofs.YthdkamnclbfehaaGreatDoor
