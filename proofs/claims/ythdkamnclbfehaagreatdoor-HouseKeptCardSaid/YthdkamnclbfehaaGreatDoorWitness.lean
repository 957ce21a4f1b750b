/- A world that meets the rows' condition: the door's own heap, the one great table laid on it. -/
import Derived.Test.YthdkamnclbfehaaGreatDoorLaid
import Derived.Test.YthdkamnclbfehaaGreatDoorBase
import Derived.Test.YthdkamnclbfehaaGreatDoorFuncs
import Derived.Stop.Joined
import Derived.HandedShaped
import Derived.Carry
import Derived.Lay
namespace Go.Proofs.YthdkamnclbfehaaGreatDoor
set_option linter.unusedSimpArgs false
set_option linter.unusedVariables false
set_option linter.unnecessarySimpa false
open Go Go.ChangeShapes Go.WideShapes Go.ChangeAt Go.WideMaps Go.WideElems Go.RowKit

theorem own : ownKnob Tryz.prog.godebug = none := by kernel_rfl
theorem laidOut : laidOutB Tryz.prog = true := by kernel_rfl

/-- What is listed as plain data; the one great table; the rest. -/
def plainL : List (String × DataW Unit) := laidL.filter fun x => x.2.handleName?.isNone
def greatL : List (String × DataW Unit) := plainL.filter fun x => ["unicode/utf8.first"].contains x.1
def restL : List (String × DataW Unit) := plainL.filter fun x => !["unicode/utf8.first"].contains x.1
/-- The witness's world: the door's own heap, the great table laid on it. -/
noncomputable def WL (os : Os) : World := (World.doorLaid Tryz.prog 113 os).layVars Tryz.prog greatL
noncomputable def Bl (os : Os) : List Nat := ((DataW.laidRun Tryz.prog (WL os) 8 (restL.map (·.1))).map fun x => x.2.map (·.block)).getD []
theorem WL_os (os : Os) : (WL os).os = os := by
  unfold WL
  rw [World.layVars_os]; rfl
set_option maxRecDepth 100000 in
theorem fits_first (os : Os) : (World.doorLaid Tryz.prog 113 os).layFits Tryz.prog greatL (Bl os) = true := by kernel_rfl
set_option maxRecDepth 100000 in
theorem ifaces_first (os : Os) : (World.doorLaid Tryz.prog 113 os).layIfaces Tryz.prog greatL (WL os) = true := by kernel_rfl
set_option maxRecDepth 100000 in
theorem rest_in (os : Os) : LaidIn Tryz.prog (WL os) restL (Bl os) := LaidIn.of_run (Bl os) 8 (by kernel_rfl) (by kernel_rfl) (by kernel_rfl) (by kernel_rfl)
theorem funcs_in (os : Os) : funcsRun Tryz.prog (WL os) 8 ((funcsListed laidL).map (·.1)) = some ((funcsListed laidL).map (·.2.funcsOut)) := by kernel_rfl
set_option maxRecDepth 100000 in
/-- The witness's world meets the condition. -/
theorem met_WL (os : Os) : laidMetH Tryz.prog laidL (WL os) :=
  laidMetH_of_parts3 (fuel := 8) (laidMet_layVars (w0 := World.doorLaid Tryz.prog 113 os) ["unicode/utf8.first"] (Bl os) rfl (fits_first os) (ifaces_first os) (rest_in os)) (by kernel_rfl) (funcs_in os)
theorem door_met (os : Os) (args : Array Value) : laidMetH Tryz.prog laidL ((WL os).forCall (fun _ _ => 0) ⟨#[], args, []⟩).memory :=
  (met_WL os).of_heap (by simp [World.memory, World.forCall, Input.heap])
theorem shaped_WL (os : Os) : (WL os).Shaped Tryz.prog := World.shaped_of_ZipB (by kernel_rfl) (by kernel_rfl)
end Go.Proofs.YthdkamnclbfehaaGreatDoor
