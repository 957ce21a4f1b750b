/- Closed facts of HouseNobody's row, third part. -/
import Derived.Test.YtmiencgloondjaaGreatDoorNN14
import Derived.Test.YtmiencgloondjaaGreatDoorCards
import Derived.SevenTiedAt

/- Closed facts of HouseNobody's row, third part. -/
namespace Go.Proofs.YtmiencgloondjaaGreatDoor
open Go Go.ChangeShapes Go.WideShapes Go.ChangeAt Go.WideMaps Go.WideElems Go.RowKit
set_option linter.all false

theorem houseNobody_name : Tryz.pinned.checked.prog.funcNamed Rows.houseNobodyRow.func = some 3 := by kernel_rfl
theorem houseNobody_inst : Tryz.f3.isInstance Tryz.pinned.checked.prog Rows.houseNobodyRow.origin Rows.houseNobodyRow.targs := of_decide_eq_true (by kernel_rfl)
theorem houseNobody_wrap : Tryz.f3.isWrapper Tryz.pinned.checked.prog Rows.houseNobodyRow.wrapper Rows.houseNobodyRow.mainSum := by
  unfold Func.isWrapper
  first | (rw [if_pos (by decide +kernel)]; kernel_rfl) | (rw [if_neg (by decide +kernel)]; exact ⟨rfl, rfl⟩)
theorem houseNobody_k0 : (fun (P : Program) (f : FuncId) (fn : Func) (s : ChangeSpec) (c : OpenClaim) => (c.wf (OpenSpec.ofChange s) : Bool)) Tryz.pinned.checked.prog 3 Tryz.f3 Rows.houseNobodySpec Rows.houseNobodyRow = true := by kernel_rfl
theorem houseNobody_k1 : (fun (P : Program) (f : FuncId) (fn : Func) (s : ChangeSpec) (c : OpenClaim) => (laidOutB P : Bool)) Tryz.pinned.checked.prog 3 Tryz.f3 Rows.houseNobodySpec Rows.houseNobodyRow = true := by kernel_rfl
theorem houseNobody_k2 : (fun (P : Program) (f : FuncId) (fn : Func) (s : ChangeSpec) (c : OpenClaim) => (mapsRowed P : Bool)) Tryz.pinned.checked.prog 3 Tryz.f3 Rows.houseNobodySpec Rows.houseNobodyRow = true := by kernel_rfl
theorem houseNobody_k3 : (fun (P : Program) (f : FuncId) (fn : Func) (s : ChangeSpec) (c : OpenClaim) => (fn.params.all (P.readableRec ·) : Bool)) Tryz.pinned.checked.prog 3 Tryz.f3 Rows.houseNobodySpec Rows.houseNobodyRow = true := by kernel_rfl
theorem houseNobody_k4 : (fun (P : Program) (f : FuncId) (fn : Func) (s : ChangeSpec) (c : OpenClaim) => (namedTie P c.named s.vars : Bool)) Tryz.pinned.checked.prog 3 Tryz.f3 Rows.houseNobodySpec Rows.houseNobodyRow = true := by kernel_rfl
theorem houseNobody_k5 : (fun (P : Program) (f : FuncId) (fn : Func) (s : ChangeSpec) (c : OpenClaim) => ((c.stops == []) : Bool)) Tryz.pinned.checked.prog 3 Tryz.f3 Rows.houseNobodySpec Rows.houseNobodyRow = true := by kernel_rfl
theorem houseNobody_k6 : (fun (P : Program) (f : FuncId) (fn : Func) (s : ChangeSpec) (c : OpenClaim) => ((P.stops == []) : Bool)) Tryz.pinned.checked.prog 3 Tryz.f3 Rows.houseNobodySpec Rows.houseNobodyRow = true := by kernel_rfl
theorem houseNobody_k7 : (fun (P : Program) (f : FuncId) (fn : Func) (s : ChangeSpec) (c : OpenClaim) => ((c.knobs == []) : Bool)) Tryz.pinned.checked.prog 3 Tryz.f3 Rows.houseNobodySpec Rows.houseNobodyRow = true := by kernel_rfl
theorem houseNobody_k8 : (fun (P : Program) (f : FuncId) (fn : Func) (s : ChangeSpec) (c : OpenClaim) => ((P.stopKnobs == []) : Bool)) Tryz.pinned.checked.prog 3 Tryz.f3 Rows.houseNobodySpec Rows.houseNobodyRow = true := by kernel_rfl
theorem houseNobody_k13 : (fun (P : Program) (f : FuncId) (fn : Func) (s : ChangeSpec) (c : OpenClaim) => ((c.maps == (fn.params.toList ++ s.plain.varTypes P).any (P.mapsRec ·)) : Bool)) Tryz.pinned.checked.prog 3 Tryz.f3 Rows.houseNobodySpec Rows.houseNobodyRow = true := by kernel_rfl
theorem houseNobody_k14 : (fun (P : Program) (f : FuncId) (fn : Func) (s : ChangeSpec) (c : OpenClaim) => ((c.ifaces == (fn.params.toList ++ s.plain.varTypes P).any (P.ifacesRec ·)) : Bool)) Tryz.pinned.checked.prog 3 Tryz.f3 Rows.houseNobodySpec Rows.houseNobodyRow = true := by kernel_rfl
theorem houseNobody_k15 : (fun (P : Program) (f : FuncId) (fn : Func) (s : ChangeSpec) (c : OpenClaim) => ((c.mapsOut == P.mapsAmong fn.resultTypes.toList) : Bool)) Tryz.pinned.checked.prog 3 Tryz.f3 Rows.houseNobodySpec Rows.houseNobodyRow = true := by kernel_rfl
theorem houseNobody_k16 : (fun (P : Program) (f : FuncId) (fn : Func) (s : ChangeSpec) (c : OpenClaim) => ((c.loops == (fn.params.toList ++ s.plain.varTypes P).any (P.loopsFrom ·)) : Bool)) Tryz.pinned.checked.prog 3 Tryz.f3 Rows.houseNobodySpec Rows.houseNobodyRow = true := by kernel_rfl
theorem houseNobody_k17 : (fun (P : Program) (f : FuncId) (fn : Func) (s : ChangeSpec) (c : OpenClaim) => ((c.wideKeys == (fn.params.toList ++ s.plain.varTypes P ++ fn.resultTypes.toList).any (P.wideKeysFrom ·)) : Bool)) Tryz.pinned.checked.prog 3 Tryz.f3 Rows.houseNobodySpec Rows.houseNobodyRow = true := by kernel_rfl
theorem houseNobody_k18 : (fun (P : Program) (f : FuncId) (fn : Func) (s : ChangeSpec) (c : OpenClaim) => (s.vars.all (P.varReadable ·) : Bool)) Tryz.pinned.checked.prog 3 Tryz.f3 Rows.houseNobodySpec Rows.houseNobodyRow = true := by kernel_rfl
theorem houseNobody_k19 : (fun (P : Program) (f : FuncId) (fn : Func) (s : ChangeSpec) (c : OpenClaim) => (fn.resultTypes.all (fun t => P.readableRec t && decide (t < P.types.size)) : Bool)) Tryz.pinned.checked.prog 3 Tryz.f3 Rows.houseNobodySpec Rows.houseNobodyRow = true := by kernel_rfl
theorem houseNobody_k20 : (fun (P : Program) (f : FuncId) (fn : Func) (s : ChangeSpec) (c : OpenClaim) => ((c.ifacesOut == fn.resultTypes.toList.any (P.ifacesRec ·)) : Bool)) Tryz.pinned.checked.prog 3 Tryz.f3 Rows.houseNobodySpec Rows.houseNobodyRow = true := by kernel_rfl
theorem houseNobody_k21 : (fun (P : Program) (f : FuncId) (fn : Func) (s : ChangeSpec) (c : OpenClaim) => ((c.loopsOut == fn.resultTypes.toList.any (P.loopsFrom ·)) : Bool)) Tryz.pinned.checked.prog 3 Tryz.f3 Rows.houseNobodySpec Rows.houseNobodyRow = true := by kernel_rfl
theorem houseNobody_k22 : (fun (P : Program) (f : FuncId) (fn : Func) (s : ChangeSpec) (c : OpenClaim) => ((c.plainKeys == P.plainKeys) : Bool)) Tryz.pinned.checked.prog 3 Tryz.f3 Rows.houseNobodySpec Rows.houseNobodyRow = true := by kernel_rfl
theorem houseNobody_k23 : (fun (P : Program) (f : FuncId) (fn : Func) (s : ChangeSpec) (c : OpenClaim) => (c.shortTexts.isNone : Bool)) Tryz.pinned.checked.prog 3 Tryz.f3 Rows.houseNobodySpec Rows.houseNobodyRow = true := by kernel_rfl
theorem houseNobody_k24 : (fun (P : Program) (f : FuncId) (fn : Func) (s : ChangeSpec) (c : OpenClaim) => (P.stopsHeard : Bool)) Tryz.pinned.checked.prog 3 Tryz.f3 Rows.houseNobodySpec Rows.houseNobodyRow = true := by kernel_rfl
theorem houseNobody_k25 : (fun (P : Program) (f : FuncId) (fn : Func) (s : ChangeSpec) (c : OpenClaim) => (P.mayEnter : Bool)) Tryz.pinned.checked.prog 3 Tryz.f3 Rows.houseNobodySpec Rows.houseNobodyRow = true := by kernel_rfl
theorem houseNobody_k26 : (fun (P : Program) (f : FuncId) (fn : Func) (s : ChangeSpec) (c : OpenClaim) => ((c.lifted == P.liftsFinal) : Bool)) Tryz.pinned.checked.prog 3 Tryz.f3 Rows.houseNobodySpec Rows.houseNobodyRow = true := by kernel_rfl
theorem houseNobody_k27 : (fun (P : Program) (f : FuncId) (fn : Func) (s : ChangeSpec) (c : OpenClaim) => ((P.make == some c.make) : Bool)) Tryz.pinned.checked.prog 3 Tryz.f3 Rows.houseNobodySpec Rows.houseNobodyRow = true := by kernel_rfl
theorem houseNobody_k28 : (fun (P : Program) (f : FuncId) (fn : Func) (s : ChangeSpec) (c : OpenClaim) => ((c.kinds == (if c.domain.isEmpty then [] else fn.params.toList.map fun t => match P.underlying t with | some (.int k) => some k | _ => none)) : Bool)) Tryz.pinned.checked.prog 3 Tryz.f3 Rows.houseNobodySpec Rows.houseNobodyRow = true := by kernel_rfl
theorem houseNobody_k29 : (fun (P : Program) (f : FuncId) (fn : Func) (s : ChangeSpec) (c : OpenClaim) => ((c.pinned == c.pinnedBy) : Bool)) Tryz.pinned.checked.prog 3 Tryz.f3 Rows.houseNobodySpec Rows.houseNobodyRow = true := by kernel_rfl
theorem houseNobody_k30 : (fun (P : Program) (f : FuncId) (fn : Func) (s : ChangeSpec) (c : OpenClaim) => ((c.veiled == (fn.params.toList ++ s.plain.varTypes P ++ fn.resultTypes.toList).any (P.veiledRec ·)) : Bool)) Tryz.pinned.checked.prog 3 Tryz.f3 Rows.houseNobodySpec Rows.houseNobodyRow = true := by kernel_rfl
theorem houseNobody_k31 : (fun (P : Program) (f : FuncId) (fn : Func) (s : ChangeSpec) (c : OpenClaim) => (c.veiledFits P fn.params.toList (fn.params.toList ++ s.plain.varTypes P ++ fn.resultTypes.toList) : Bool)) Tryz.pinned.checked.prog 3 Tryz.f3 Rows.houseNobodySpec Rows.houseNobodyRow = true := by kernel_rfl
end Go.Proofs.YtmiencgloondjaaGreatDoor
