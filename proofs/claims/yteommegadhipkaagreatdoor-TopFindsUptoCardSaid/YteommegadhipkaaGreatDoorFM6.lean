/- A world that meets the rows' condition: the door's own heap, the one great table laid on it. -/
import Derived.Test.YteommegadhipkaaGreatDoorFM4
import Derived.Test.YteommegadhipkaaGreatDoorFM2
import Derived.Test.YteommegadhipkaaGreatDoorFM5
import Derived.Stop.Joined
import Derived.HandedShaped
import Derived.Carry
import Derived.Lay

/- A world that meets the rows' condition: the door's own heap, the one great table laid on it. -/
namespace Go.Proofs.YteommegadhipkaaGreatDoor
set_option linter.unusedSimpArgs false
set_option linter.unusedVariables false
set_option linter.unnecessarySimpa false
open Go Go.ChangeShapes Go.WideShapes Go.ChangeAt Go.WideMaps Go.WideElems Go.RowKit

theorem own : ownKnob Tryz.prog.godebug = none := by kernel_rfl
theorem laidOut : laidOutB Tryz.prog = true := by kernel_rfl

/-- What is listed as plain data; the one great table; the rest. -/
def plainL : List (String × DataW Unit) := laidL.filter fun x => x.2.handleName?.isNone
def greatL : List (String × DataW Unit) := plainL.filter fun x => ["unicode/utf8.first"].contains x.1
def restL : List (String × DataW Unit) := plainL.filter fun x => !["unicode/utf8.first"].contains x.1
/-- The witness's world: the door's own heap, the great table laid on it. -/
noncomputable def WL (os : Os) : World := (World.doorLaid Tryz.prog 166 os).layVars Tryz.prog greatL
noncomputable def Bl (os : Os) : List Nat := ((DataW.laidRun Tryz.prog (WL os) 8 (restL.map (·.1))).map fun x => x.2.map (·.block)).getD []
theorem WL_os (os : Os) : (WL os).os = os := by
  unfold WL
  rw [World.layVars_os]; rfl
set_option maxRecDepth 100000 in
theorem fits_first (os : Os) : (World.doorLaid Tryz.prog 166 os).layFits Tryz.prog greatL (Bl os) = true := by kernel_rfl
set_option maxRecDepth 100000 in
theorem ifaces_first (os : Os) : (World.doorLaid Tryz.prog 166 os).layIfaces Tryz.prog greatL (WL os) = true := by kernel_rfl
set_option maxRecDepth 100000 in
theorem rest_in (os : Os) : LaidIn Tryz.prog (WL os) restL (Bl os) := LaidIn.of_run (Bl os) 8 (by kernel_rfl) (by kernel_rfl) (by kernel_rfl) (by kernel_rfl)
theorem funcs_in (os : Os) : funcsRun Tryz.prog (WL os) 8 ((funcsListed laidL).map (·.1)) = some ((funcsListed laidL).map (·.2.funcsOut)) := by kernel_rfl
set_option maxRecDepth 100000 in
/-- The witness's world meets the condition. -/
theorem met_WL (os : Os) : laidMetH Tryz.prog laidL (WL os) :=
  laidMetH_of_parts3 (fuel := 8) (laidMet_layVars (w0 := World.doorLaid Tryz.prog 166 os) ["unicode/utf8.first"] (Bl os) rfl (fits_first os) (ifaces_first os) (rest_in os)) (by kernel_rfl) (funcs_in os)
theorem door_met (os : Os) (args : Array Value) : laidMetH Tryz.prog laidL ((WL os).forCall (fun _ _ => 0) ⟨#[], args, []⟩).memory :=
  (met_WL os).of_heap (by simp [World.memory, World.forCall, Input.heap])
end Go.Proofs.YteommegadhipkaaGreatDoor

/- From a walk to a row of this seat: one frame for all nine laws. -/
namespace Go.Proofs.YteommegadhipkaaGreatDoor
set_option linter.unusedSimpArgs false
set_option linter.unusedVariables false
set_option linter.unnecessarySimpa false
open Go Go.ChangeShapes Go.WideShapes Go.ChangeAt Go.WideMaps Go.WideElems Go.RowKit

theorem trodAll_length {H : Type} {enc : TypeId × Value → H} {P : Program} {w : World} {base : Nat} {sp : Nat → Bool} {held : Bool} : ∀ {ts : List TypeId} {vs : List Value} {ds : List (DataW H)} {ps : List MemPlace}, DataW.TrodAll enc P w base sp held ts vs ds ps → ds.length = ts.length := by
  intro ts
  induction ts with
  | nil =>
    intro vs ds ps h
    obtain ⟨rfl, rfl, rfl⟩ := trodAll_nil h
    rfl
  | cons t ts ih =>
    intro vs ds ps h
    obtain ⟨v, vs1, d, ds1, a, b, rfl, rfl, rfl, h1, h2⟩ := trodAll_cons h
    simp [ih h2]
/-- Arguments read behind the call as they did. -/
theorem args_stay {H : Type} {enc : TypeId × Value → H} {W W' : World} (hb : Below W.heap.size W W') : ∀ {ts : List TypeId} {vs : List Value} {ds : List (DataW H)} {ps : List MemPlace},
    (ts.all fun t => Tryz.prog.readableRec t && decide (t < Tryz.prog.types.size)) = true → DataW.TrodAll enc Tryz.prog W 0 (fun _ => true) true ts vs ds ps → (∀ x ∈ ps, x.block < W.heap.size) →
    DataW.TrodAll enc Tryz.prog W' 0 (fun b => decide (b < W.heap.size)) true ts vs ds ps := by
  intro ts
  induction ts with
  | nil =>
    intro vs ds ps _ h _
    obtain ⟨rfl, rfl, rfl⟩ := trodAll_nil h
    exact h
  | cons t ts ih =>
    intro vs ds ps ht h hlt
    obtain ⟨v, vs1, d, ds1, a, b, rfl, rfl, rfl, h1, h2⟩ := trodAll_cons h
    simp only [List.all_cons, Bool.and_eq_true, decide_eq_true_eq] at ht
    exact ⟨a, b, Below.trod laidOut ht.1.1 ht.1.2 h1 hb (fun x hx => hlt x (List.mem_append_left _ hx)), ih (by simpa using ht.2) h2 (fun x hx => hlt x (List.mem_append_right _ hx)), rfl⟩

end Go.Proofs.YteommegadhipkaaGreatDoor
