/- Closed facts of TopFinds's row, third part. -/
import Derived.Test.YteommegadhipkaaGreatDoorFM15
import Derived.Test.YteommegadhipkaaGreatDoorCards
import Derived.SevenTiedAt
import Derived.JoinedCond
import Derived.Test.YteommegadhipkaaGreatDoorFM17
import Derived.Test.YteommegadhipkaaGreatDoorFM18

/- Closed facts of TopFinds's row, third part. -/
namespace Go.Proofs.YteommegadhipkaaGreatDoor
open Go Go.ChangeShapes Go.WideShapes Go.ChangeAt Go.WideMaps Go.WideElems Go.RowKit
set_option linter.all false

theorem topFinds_name : Tryz.pinned.checked.prog.funcNamed Rows.topFindsUptoRow.func = some 3 := by kernel_rfl
theorem topFinds_inst : Tryz.f3.isInstance Tryz.pinned.checked.prog Rows.topFindsUptoRow.origin Rows.topFindsUptoRow.targs := of_decide_eq_true (by kernel_rfl)
theorem topFinds_wrap : Tryz.f3.isWrapper Tryz.pinned.checked.prog Rows.topFindsUptoRow.wrapper Rows.topFindsUptoRow.mainSum := by
  unfold Func.isWrapper
  first | (rw [if_pos (by decide +kernel)]; kernel_rfl) | (rw [if_neg (by decide +kernel)]; exact ⟨rfl, rfl⟩)
theorem topFinds_k0 : (fun (P : Program) (f : FuncId) (fn : Func) (s : ChangeSpec) (c : OpenClaim) => (c.wf (OpenSpec.ofChange s) : Bool)) Tryz.pinned.checked.prog 3 Tryz.f3 (Rows.OpenSpec.upto Rows.topFindsSpec).bare Rows.topFindsUptoRow = true := by kernel_rfl
theorem topFinds_k1 : (fun (P : Program) (f : FuncId) (fn : Func) (s : ChangeSpec) (c : OpenClaim) => (laidOutB P : Bool)) Tryz.pinned.checked.prog 3 Tryz.f3 (Rows.OpenSpec.upto Rows.topFindsSpec).bare Rows.topFindsUptoRow = true := by kernel_rfl
theorem topFinds_k2 : (fun (P : Program) (f : FuncId) (fn : Func) (s : ChangeSpec) (c : OpenClaim) => (mapsRowed P : Bool)) Tryz.pinned.checked.prog 3 Tryz.f3 (Rows.OpenSpec.upto Rows.topFindsSpec).bare Rows.topFindsUptoRow = true := by kernel_rfl
theorem topFinds_k3 : (fun (P : Program) (f : FuncId) (fn : Func) (s : ChangeSpec) (c : OpenClaim) => (fn.params.all (P.readableRec ·) : Bool)) Tryz.pinned.checked.prog 3 Tryz.f3 (Rows.OpenSpec.upto Rows.topFindsSpec).bare Rows.topFindsUptoRow = true := by kernel_rfl
theorem topFinds_k4 : (fun (P : Program) (f : FuncId) (fn : Func) (s : ChangeSpec) (c : OpenClaim) => (namedTie P c.named s.vars : Bool)) Tryz.pinned.checked.prog 3 Tryz.f3 (Rows.OpenSpec.upto Rows.topFindsSpec).bare Rows.topFindsUptoRow = true := by kernel_rfl
theorem topFinds_k5 : (fun (P : Program) (f : FuncId) (fn : Func) (s : ChangeSpec) (c : OpenClaim) => ((c.stops == []) : Bool)) Tryz.pinned.checked.prog 3 Tryz.f3 (Rows.OpenSpec.upto Rows.topFindsSpec).bare Rows.topFindsUptoRow = true := by kernel_rfl
theorem topFinds_k6 : (fun (P : Program) (f : FuncId) (fn : Func) (s : ChangeSpec) (c : OpenClaim) => ((P.stops == []) : Bool)) Tryz.pinned.checked.prog 3 Tryz.f3 (Rows.OpenSpec.upto Rows.topFindsSpec).bare Rows.topFindsUptoRow = true := by kernel_rfl
theorem topFinds_k7 : (fun (P : Program) (f : FuncId) (fn : Func) (s : ChangeSpec) (c : OpenClaim) => ((c.knobs == []) : Bool)) Tryz.pinned.checked.prog 3 Tryz.f3 (Rows.OpenSpec.upto Rows.topFindsSpec).bare Rows.topFindsUptoRow = true := by kernel_rfl
theorem topFinds_k8 : (fun (P : Program) (f : FuncId) (fn : Func) (s : ChangeSpec) (c : OpenClaim) => ((P.stopKnobs == []) : Bool)) Tryz.pinned.checked.prog 3 Tryz.f3 (Rows.OpenSpec.upto Rows.topFindsSpec).bare Rows.topFindsUptoRow = true := by kernel_rfl
theorem topFinds_k13 : (fun (P : Program) (f : FuncId) (fn : Func) (s : ChangeSpec) (c : OpenClaim) => ((c.maps == (fn.params.toList ++ s.plain.varTypes P).any (P.mapsRec ·)) : Bool)) Tryz.pinned.checked.prog 3 Tryz.f3 (Rows.OpenSpec.upto Rows.topFindsSpec).bare Rows.topFindsUptoRow = true := by kernel_rfl
theorem topFinds_k14 : (fun (P : Program) (f : FuncId) (fn : Func) (s : ChangeSpec) (c : OpenClaim) => ((c.ifaces == (fn.params.toList ++ s.plain.varTypes P).any (P.ifacesRec ·)) : Bool)) Tryz.pinned.checked.prog 3 Tryz.f3 (Rows.OpenSpec.upto Rows.topFindsSpec).bare Rows.topFindsUptoRow = true := by kernel_rfl
theorem topFinds_k15 : (fun (P : Program) (f : FuncId) (fn : Func) (s : ChangeSpec) (c : OpenClaim) => ((c.mapsOut == P.mapsAmong fn.resultTypes.toList) : Bool)) Tryz.pinned.checked.prog 3 Tryz.f3 (Rows.OpenSpec.upto Rows.topFindsSpec).bare Rows.topFindsUptoRow = true := by kernel_rfl
theorem topFinds_k16 : (fun (P : Program) (f : FuncId) (fn : Func) (s : ChangeSpec) (c : OpenClaim) => ((c.loops == (fn.params.toList ++ s.plain.varTypes P).any (P.loopsFrom ·)) : Bool)) Tryz.pinned.checked.prog 3 Tryz.f3 (Rows.OpenSpec.upto Rows.topFindsSpec).bare Rows.topFindsUptoRow = true := by kernel_rfl
theorem topFinds_k17 : (fun (P : Program) (f : FuncId) (fn : Func) (s : ChangeSpec) (c : OpenClaim) => ((c.wideKeys == (fn.params.toList ++ s.plain.varTypes P ++ fn.resultTypes.toList).any (P.wideKeysFrom ·)) : Bool)) Tryz.pinned.checked.prog 3 Tryz.f3 (Rows.OpenSpec.upto Rows.topFindsSpec).bare Rows.topFindsUptoRow = true := by kernel_rfl
theorem topFinds_k18 : (fun (P : Program) (f : FuncId) (fn : Func) (s : ChangeSpec) (c : OpenClaim) => (s.vars.all (P.varReadable ·) : Bool)) Tryz.pinned.checked.prog 3 Tryz.f3 (Rows.OpenSpec.upto Rows.topFindsSpec).bare Rows.topFindsUptoRow = true := by kernel_rfl
theorem topFinds_k19 : (fun (P : Program) (f : FuncId) (fn : Func) (s : ChangeSpec) (c : OpenClaim) => (fn.resultTypes.all (fun t => P.readableRec t && decide (t < P.types.size)) : Bool)) Tryz.pinned.checked.prog 3 Tryz.f3 (Rows.OpenSpec.upto Rows.topFindsSpec).bare Rows.topFindsUptoRow = true := by kernel_rfl
theorem topFinds_k20 : (fun (P : Program) (f : FuncId) (fn : Func) (s : ChangeSpec) (c : OpenClaim) => ((c.ifacesOut == fn.resultTypes.toList.any (P.ifacesRec ·)) : Bool)) Tryz.pinned.checked.prog 3 Tryz.f3 (Rows.OpenSpec.upto Rows.topFindsSpec).bare Rows.topFindsUptoRow = true := by kernel_rfl
theorem topFinds_k21 : (fun (P : Program) (f : FuncId) (fn : Func) (s : ChangeSpec) (c : OpenClaim) => ((c.loopsOut == fn.resultTypes.toList.any (P.loopsFrom ·)) : Bool)) Tryz.pinned.checked.prog 3 Tryz.f3 (Rows.OpenSpec.upto Rows.topFindsSpec).bare Rows.topFindsUptoRow = true := by kernel_rfl
theorem topFinds_k22 : (fun (P : Program) (f : FuncId) (fn : Func) (s : ChangeSpec) (c : OpenClaim) => ((c.plainKeys == P.plainKeys) : Bool)) Tryz.pinned.checked.prog 3 Tryz.f3 (Rows.OpenSpec.upto Rows.topFindsSpec).bare Rows.topFindsUptoRow = true := by kernel_rfl
theorem topFinds_k23 : (fun (P : Program) (f : FuncId) (fn : Func) (s : ChangeSpec) (c : OpenClaim) => (c.shortTexts.isNone : Bool)) Tryz.pinned.checked.prog 3 Tryz.f3 (Rows.OpenSpec.upto Rows.topFindsSpec).bare Rows.topFindsUptoRow = true := by kernel_rfl
theorem topFinds_k24 : (fun (P : Program) (f : FuncId) (fn : Func) (s : ChangeSpec) (c : OpenClaim) => (P.stopsHeard : Bool)) Tryz.pinned.checked.prog 3 Tryz.f3 (Rows.OpenSpec.upto Rows.topFindsSpec).bare Rows.topFindsUptoRow = true := by kernel_rfl
theorem topFinds_k25 : (fun (P : Program) (f : FuncId) (fn : Func) (s : ChangeSpec) (c : OpenClaim) => (P.mayEnter : Bool)) Tryz.pinned.checked.prog 3 Tryz.f3 (Rows.OpenSpec.upto Rows.topFindsSpec).bare Rows.topFindsUptoRow = true := by kernel_rfl
theorem topFinds_k26 : (fun (P : Program) (f : FuncId) (fn : Func) (s : ChangeSpec) (c : OpenClaim) => ((c.lifted == P.liftsFinal) : Bool)) Tryz.pinned.checked.prog 3 Tryz.f3 (Rows.OpenSpec.upto Rows.topFindsSpec).bare Rows.topFindsUptoRow = true := by kernel_rfl
theorem topFinds_k27 : (fun (P : Program) (f : FuncId) (fn : Func) (s : ChangeSpec) (c : OpenClaim) => ((P.make == some c.make) : Bool)) Tryz.pinned.checked.prog 3 Tryz.f3 (Rows.OpenSpec.upto Rows.topFindsSpec).bare Rows.topFindsUptoRow = true := by kernel_rfl
theorem topFinds_k28 : (fun (P : Program) (f : FuncId) (fn : Func) (s : ChangeSpec) (c : OpenClaim) => ((c.kinds == (if c.domain.isEmpty then [] else fn.params.toList.map fun t => match P.underlying t with | some (.int k) => some k | _ => none)) : Bool)) Tryz.pinned.checked.prog 3 Tryz.f3 (Rows.OpenSpec.upto Rows.topFindsSpec).bare Rows.topFindsUptoRow = true := by kernel_rfl
theorem topFinds_k29 : (fun (P : Program) (f : FuncId) (fn : Func) (s : ChangeSpec) (c : OpenClaim) => ((c.pinned == c.pinnedBy) : Bool)) Tryz.pinned.checked.prog 3 Tryz.f3 (Rows.OpenSpec.upto Rows.topFindsSpec).bare Rows.topFindsUptoRow = true := by kernel_rfl
theorem topFinds_k30 : (fun (P : Program) (f : FuncId) (fn : Func) (s : ChangeSpec) (c : OpenClaim) => ((c.veiled == (fn.params.toList ++ s.plain.varTypes P ++ fn.resultTypes.toList).any (P.veiledRec ·)) : Bool)) Tryz.pinned.checked.prog 3 Tryz.f3 (Rows.OpenSpec.upto Rows.topFindsSpec).bare Rows.topFindsUptoRow = true := by kernel_rfl
theorem topFinds_k31 : (fun (P : Program) (f : FuncId) (fn : Func) (s : ChangeSpec) (c : OpenClaim) => (c.veiledFits P fn.params.toList (fn.params.toList ++ s.plain.varTypes P ++ fn.resultTypes.toList) : Bool)) Tryz.pinned.checked.prog 3 Tryz.f3 (Rows.OpenSpec.upto Rows.topFindsSpec).bare Rows.topFindsUptoRow = true := by kernel_rfl
end Go.Proofs.YteommegadhipkaaGreatDoor

/- The closed facts of TopFinds's row. -/
namespace Go.Proofs.YteommegadhipkaaGreatDoor
open Go Go.ChangeShapes Go.WideShapes Go.ChangeAt Go.WideMaps Go.WideElems Go.RowKit
set_option linter.all false

theorem andT {a b : Bool} (ha : a = true) (hb : b = true) : (a && b) = true := by rw [ha, hb]; rfl
set_option maxRecDepth 1000000 in
theorem topFinds_closed : joinedFacts Tryz.pinned.checked.prog 3 Tryz.f3 (Rows.OpenSpec.upto Rows.topFindsSpec).bare Rows.topFindsUptoRow = true := by
  unfold joinedFacts
  exact andT (andT (andT (andT (andT (andT (andT (andT (andT (andT (andT (andT (andT (andT (andT (andT (andT (andT (andT (andT (andT (andT (andT (andT (andT (andT (andT (andT (andT (andT (andT topFinds_k0 topFinds_k1) topFinds_k2) topFinds_k3) topFinds_k4) topFinds_k5) topFinds_k6) topFinds_k7) topFinds_k8) topFinds_k9) topFinds_k10) topFinds_k11) topFinds_k12) topFinds_k13) topFinds_k14) topFinds_k15) topFinds_k16) topFinds_k17) topFinds_k18) topFinds_k19) topFinds_k20) topFinds_k21) topFinds_k22) topFinds_k23) topFinds_k24) topFinds_k25) topFinds_k26) topFinds_k27) topFinds_k28) topFinds_k29) topFinds_k30) topFinds_k31
end Go.Proofs.YteommegadhipkaaGreatDoor

/- A closed fact of TopFinds's card. -/
namespace Go.Proofs.YteommegadhipkaaGreatDoor
open Go Go.ChangeShapes Go.WideShapes Go.ChangeAt Go.WideMaps Go.WideElems Go.RowKit

theorem topFinds_looks : true = Tryz.pinned.checked.prog.looks [] := by kernel_rfl
end Go.Proofs.YteommegadhipkaaGreatDoor

/- A closed fact of TopFinds's card. -/
namespace Go.Proofs.YteommegadhipkaaGreatDoor
open Go Go.ChangeShapes Go.WideShapes Go.ChangeAt Go.WideMaps Go.WideElems Go.RowKit

theorem topFinds_wf : Rows.topFindsUptoRow.wfByText (Rows.OpenSpec.upto Rows.topFindsSpec) = true := by kernel_rfl
theorem topFinds_main : Tryz.pinned.checked.prog.mainIs = some (true, ("c665d3540088ac835243ba652d6aff514967a73654a50065f2022064e8a9651d" : String).toList) := by kernel_rfl
theorem topFinds_fname : Tryz.prog.funcNamed "cubeb/cubebtop.TopFinds" = some 3 := by kernel_rfl
end Go.Proofs.YteommegadhipkaaGreatDoor
