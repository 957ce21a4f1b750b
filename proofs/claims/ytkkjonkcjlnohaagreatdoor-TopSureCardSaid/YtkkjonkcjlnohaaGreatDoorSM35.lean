/- Closed facts of TopSure's row, third part. -/
import Derived.Test.YtkkjonkcjlnohaaGreatDoorSM4
import Derived.Test.YtkkjonkcjlnohaaGreatDoorCards
import Derived.SevenTiedAt
import Derived.Test.YtkkjonkcjlnohaaGreatDoorSM33
import Derived.Test.YtkkjonkcjlnohaaGreatDoorSM34

/- Closed facts of TopSure's row, third part. -/
namespace Go.Proofs.YtkkjonkcjlnohaaGreatDoor
open Go Go.ChangeShapes Go.WideShapes Go.ChangeAt Go.WideMaps Go.WideElems Go.RowKit
set_option linter.all false

theorem topSure_name : Tryz.pinned.checked.prog.funcNamed Rows.topSureRow.func = some 3 := by kernel_rfl
theorem topSure_inst : Tryz.f3.isInstance Tryz.pinned.checked.prog Rows.topSureRow.origin Rows.topSureRow.targs := of_decide_eq_true (by kernel_rfl)
theorem topSure_wrap : Tryz.f3.isWrapper Tryz.pinned.checked.prog Rows.topSureRow.wrapper Rows.topSureRow.mainSum := by
  unfold Func.isWrapper
  first | (rw [if_pos (by decide +kernel)]; kernel_rfl) | (rw [if_neg (by decide +kernel)]; exact ⟨rfl, rfl⟩)
theorem topSure_k0 : (fun (P : Program) (f : FuncId) (fn : Func) (s : ChangeSpec) (c : OpenClaim) => (c.wf (OpenSpec.ofChange s) : Bool)) Tryz.pinned.checked.prog 3 Tryz.f3 Rows.topSureSpec Rows.topSureRow = true := by kernel_rfl
theorem topSure_k1 : (fun (P : Program) (f : FuncId) (fn : Func) (s : ChangeSpec) (c : OpenClaim) => (laidOutB P : Bool)) Tryz.pinned.checked.prog 3 Tryz.f3 Rows.topSureSpec Rows.topSureRow = true := by kernel_rfl
theorem topSure_k2 : (fun (P : Program) (f : FuncId) (fn : Func) (s : ChangeSpec) (c : OpenClaim) => (mapsRowed P : Bool)) Tryz.pinned.checked.prog 3 Tryz.f3 Rows.topSureSpec Rows.topSureRow = true := by kernel_rfl
theorem topSure_k3 : (fun (P : Program) (f : FuncId) (fn : Func) (s : ChangeSpec) (c : OpenClaim) => (fn.params.all (P.readableRec ·) : Bool)) Tryz.pinned.checked.prog 3 Tryz.f3 Rows.topSureSpec Rows.topSureRow = true := by kernel_rfl
theorem topSure_k4 : (fun (P : Program) (f : FuncId) (fn : Func) (s : ChangeSpec) (c : OpenClaim) => (namedTie P c.named s.vars : Bool)) Tryz.pinned.checked.prog 3 Tryz.f3 Rows.topSureSpec Rows.topSureRow = true := by kernel_rfl
theorem topSure_k5 : (fun (P : Program) (f : FuncId) (fn : Func) (s : ChangeSpec) (c : OpenClaim) => ((c.stops == []) : Bool)) Tryz.pinned.checked.prog 3 Tryz.f3 Rows.topSureSpec Rows.topSureRow = true := by kernel_rfl
theorem topSure_k6 : (fun (P : Program) (f : FuncId) (fn : Func) (s : ChangeSpec) (c : OpenClaim) => ((P.stops == []) : Bool)) Tryz.pinned.checked.prog 3 Tryz.f3 Rows.topSureSpec Rows.topSureRow = true := by kernel_rfl
theorem topSure_k7 : (fun (P : Program) (f : FuncId) (fn : Func) (s : ChangeSpec) (c : OpenClaim) => ((c.knobs == []) : Bool)) Tryz.pinned.checked.prog 3 Tryz.f3 Rows.topSureSpec Rows.topSureRow = true := by kernel_rfl
theorem topSure_k8 : (fun (P : Program) (f : FuncId) (fn : Func) (s : ChangeSpec) (c : OpenClaim) => ((P.stopKnobs == []) : Bool)) Tryz.pinned.checked.prog 3 Tryz.f3 Rows.topSureSpec Rows.topSureRow = true := by kernel_rfl
theorem topSure_k13 : (fun (P : Program) (f : FuncId) (fn : Func) (s : ChangeSpec) (c : OpenClaim) => ((c.maps == (fn.params.toList ++ s.plain.varTypes P).any (P.mapsRec ·)) : Bool)) Tryz.pinned.checked.prog 3 Tryz.f3 Rows.topSureSpec Rows.topSureRow = true := by kernel_rfl
theorem topSure_k14 : (fun (P : Program) (f : FuncId) (fn : Func) (s : ChangeSpec) (c : OpenClaim) => ((c.ifaces == (fn.params.toList ++ s.plain.varTypes P).any (P.ifacesRec ·)) : Bool)) Tryz.pinned.checked.prog 3 Tryz.f3 Rows.topSureSpec Rows.topSureRow = true := by kernel_rfl
theorem topSure_k15 : (fun (P : Program) (f : FuncId) (fn : Func) (s : ChangeSpec) (c : OpenClaim) => ((c.mapsOut == P.mapsAmong fn.resultTypes.toList) : Bool)) Tryz.pinned.checked.prog 3 Tryz.f3 Rows.topSureSpec Rows.topSureRow = true := by kernel_rfl
theorem topSure_k16 : (fun (P : Program) (f : FuncId) (fn : Func) (s : ChangeSpec) (c : OpenClaim) => ((c.loops == (fn.params.toList ++ s.plain.varTypes P).any (P.loopsFrom ·)) : Bool)) Tryz.pinned.checked.prog 3 Tryz.f3 Rows.topSureSpec Rows.topSureRow = true := by kernel_rfl
theorem topSure_k17 : (fun (P : Program) (f : FuncId) (fn : Func) (s : ChangeSpec) (c : OpenClaim) => ((c.wideKeys == (fn.params.toList ++ s.plain.varTypes P ++ fn.resultTypes.toList).any (P.wideKeysFrom ·)) : Bool)) Tryz.pinned.checked.prog 3 Tryz.f3 Rows.topSureSpec Rows.topSureRow = true := by kernel_rfl
theorem topSure_k18 : (fun (P : Program) (f : FuncId) (fn : Func) (s : ChangeSpec) (c : OpenClaim) => (s.vars.all (P.varReadable ·) : Bool)) Tryz.pinned.checked.prog 3 Tryz.f3 Rows.topSureSpec Rows.topSureRow = true := by kernel_rfl
theorem topSure_k19 : (fun (P : Program) (f : FuncId) (fn : Func) (s : ChangeSpec) (c : OpenClaim) => (fn.resultTypes.all (fun t => P.readableRec t && decide (t < P.types.size)) : Bool)) Tryz.pinned.checked.prog 3 Tryz.f3 Rows.topSureSpec Rows.topSureRow = true := by kernel_rfl
theorem topSure_k20 : (fun (P : Program) (f : FuncId) (fn : Func) (s : ChangeSpec) (c : OpenClaim) => ((c.ifacesOut == fn.resultTypes.toList.any (P.ifacesRec ·)) : Bool)) Tryz.pinned.checked.prog 3 Tryz.f3 Rows.topSureSpec Rows.topSureRow = true := by kernel_rfl
theorem topSure_k21 : (fun (P : Program) (f : FuncId) (fn : Func) (s : ChangeSpec) (c : OpenClaim) => ((c.loopsOut == fn.resultTypes.toList.any (P.loopsFrom ·)) : Bool)) Tryz.pinned.checked.prog 3 Tryz.f3 Rows.topSureSpec Rows.topSureRow = true := by kernel_rfl
theorem topSure_k22 : (fun (P : Program) (f : FuncId) (fn : Func) (s : ChangeSpec) (c : OpenClaim) => ((c.plainKeys == P.plainKeys) : Bool)) Tryz.pinned.checked.prog 3 Tryz.f3 Rows.topSureSpec Rows.topSureRow = true := by kernel_rfl
theorem topSure_k23 : (fun (P : Program) (f : FuncId) (fn : Func) (s : ChangeSpec) (c : OpenClaim) => (c.shortTexts.isNone : Bool)) Tryz.pinned.checked.prog 3 Tryz.f3 Rows.topSureSpec Rows.topSureRow = true := by kernel_rfl
theorem topSure_k24 : (fun (P : Program) (f : FuncId) (fn : Func) (s : ChangeSpec) (c : OpenClaim) => (P.stopsHeard : Bool)) Tryz.pinned.checked.prog 3 Tryz.f3 Rows.topSureSpec Rows.topSureRow = true := by kernel_rfl
theorem topSure_k25 : (fun (P : Program) (f : FuncId) (fn : Func) (s : ChangeSpec) (c : OpenClaim) => (P.mayEnter : Bool)) Tryz.pinned.checked.prog 3 Tryz.f3 Rows.topSureSpec Rows.topSureRow = true := by kernel_rfl
theorem topSure_k26 : (fun (P : Program) (f : FuncId) (fn : Func) (s : ChangeSpec) (c : OpenClaim) => ((c.lifted == P.liftsFinal) : Bool)) Tryz.pinned.checked.prog 3 Tryz.f3 Rows.topSureSpec Rows.topSureRow = true := by kernel_rfl
theorem topSure_k27 : (fun (P : Program) (f : FuncId) (fn : Func) (s : ChangeSpec) (c : OpenClaim) => ((P.make == some c.make) : Bool)) Tryz.pinned.checked.prog 3 Tryz.f3 Rows.topSureSpec Rows.topSureRow = true := by kernel_rfl
theorem topSure_k28 : (fun (P : Program) (f : FuncId) (fn : Func) (s : ChangeSpec) (c : OpenClaim) => ((c.kinds == (if c.domain.isEmpty then [] else fn.params.toList.map fun t => match P.underlying t with | some (.int k) => some k | _ => none)) : Bool)) Tryz.pinned.checked.prog 3 Tryz.f3 Rows.topSureSpec Rows.topSureRow = true := by kernel_rfl
theorem topSure_k29 : (fun (P : Program) (f : FuncId) (fn : Func) (s : ChangeSpec) (c : OpenClaim) => ((c.pinned == c.pinnedBy) : Bool)) Tryz.pinned.checked.prog 3 Tryz.f3 Rows.topSureSpec Rows.topSureRow = true := by kernel_rfl
theorem topSure_k30 : (fun (P : Program) (f : FuncId) (fn : Func) (s : ChangeSpec) (c : OpenClaim) => ((c.veiled == (fn.params.toList ++ s.plain.varTypes P ++ fn.resultTypes.toList).any (P.veiledRec ·)) : Bool)) Tryz.pinned.checked.prog 3 Tryz.f3 Rows.topSureSpec Rows.topSureRow = true := by kernel_rfl
theorem topSure_k31 : (fun (P : Program) (f : FuncId) (fn : Func) (s : ChangeSpec) (c : OpenClaim) => (c.veiledFits P fn.params.toList (fn.params.toList ++ s.plain.varTypes P ++ fn.resultTypes.toList) : Bool)) Tryz.pinned.checked.prog 3 Tryz.f3 Rows.topSureSpec Rows.topSureRow = true := by kernel_rfl
end Go.Proofs.YtkkjonkcjlnohaaGreatDoor

/- The closed facts of TopSure's row. -/
namespace Go.Proofs.YtkkjonkcjlnohaaGreatDoor
open Go Go.ChangeShapes Go.WideShapes Go.ChangeAt Go.WideMaps Go.WideElems Go.RowKit
set_option linter.all false

theorem andT {a b : Bool} (ha : a = true) (hb : b = true) : (a && b) = true := by rw [ha, hb]; rfl
set_option maxRecDepth 1000000 in
theorem topSure_closed : joinedFacts Tryz.pinned.checked.prog 3 Tryz.f3 Rows.topSureSpec Rows.topSureRow = true := by
  unfold joinedFacts
  exact andT (andT (andT (andT (andT (andT (andT (andT (andT (andT (andT (andT (andT (andT (andT (andT (andT (andT (andT (andT (andT (andT (andT (andT (andT (andT (andT (andT (andT (andT (andT topSure_k0 topSure_k1) topSure_k2) topSure_k3) topSure_k4) topSure_k5) topSure_k6) topSure_k7) topSure_k8) topSure_k9) topSure_k10) topSure_k11) topSure_k12) topSure_k13) topSure_k14) topSure_k15) topSure_k16) topSure_k17) topSure_k18) topSure_k19) topSure_k20) topSure_k21) topSure_k22) topSure_k23) topSure_k24) topSure_k25) topSure_k26) topSure_k27) topSure_k28) topSure_k29) topSure_k30) topSure_k31
end Go.Proofs.YtkkjonkcjlnohaaGreatDoor
