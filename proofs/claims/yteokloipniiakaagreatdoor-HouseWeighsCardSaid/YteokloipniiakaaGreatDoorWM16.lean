/- From a walk to a row of this seat, where the clocks may go on. -/
import Derived.Test.YteokloipniiakaaGreatDoorWM6
import Derived.Clock

/- From a walk to a row of this seat, where the clocks may go on. -/
namespace Go.Proofs.YteokloipniiakaaGreatDoor
set_option linter.unusedSimpArgs false
set_option linter.unusedVariables false
set_option linter.unnecessarySimpa false
open Go Go.ChangeShapes Go.WideShapes Go.ChangeAt Go.WideMaps Go.WideElems Go.RowKit

set_option maxRecDepth 100000 in
theorem lift_time {f : FuncId} {fn : Func} {s : ChangeSpec} {H : Type} {enc : TypeId × Value → H} {os : Os} (F : Stop.Interp) (started : os.Started) (hfn : Tryz.prog.funcs[f]? = some fn) (noInit : Tryz.prog.inits.idxOf? f = none)
    (hvars : s.vars = []) (hres : fn.resultTypes = #[4]) (hpar : (fn.params.toList.all fun t => Tryz.prog.readableRec t && decide (t < Tryz.prog.types.size)) = true)
    (hspec : ∀ ds : List (DataW H), ds.length = fn.params.toList.length → s.fn H ds = { results := [.lit (.bool true)], args := ds, vars := [] })
    (witness : ∃ (w : World) (tape : Tape) (i : Input), w.os = os ∧ (w.forCall tape i).Shaped Tryz.prog ∧ i.vars = [] ∧ Input.okWide Tryz.prog (w.forCall tape i) .any w.heap.size f i ∧
      ((s.pre enc Tryz.prog fn [] false (w.forCall tape i).memory i.args ∧ laidMetH Tryz.prog laidL (w.forCall tape i).memory) ∧ sizedMet enc Tryz.prog fn (OpenSpec.ofChange s) false (w.forCall tape i).memory i.args) ∧
      ({ calm := true } : Assume).holds Tryz.prog (lone (Frame.enter Tryz.prog f i.args .normal) [] (w.forCall tape i)))
    (walk : ∀ (W : World) (base : Nat) (args : Array Value) (ds : List (DataW H)) (ps : List MemPlace), (∀ (j : Nat) t v, fn.params[j]? = some t → args[j]? = some v → Value.okWide Tryz.prog W .any base t v) →
      DataW.TrodAll enc Tryz.prog W 0 (fun _ => true) true fn.params.toList args.toList ds ps → (∀ x ∈ ps, x.block < W.heap.size) → (∀ (j : Nat) (t : TypeId) (d : DataW H), fn.params.toList[j]? = some t → ds[j]? = some d → ∀ n ∈ d.weights Tryz.prog t, n ≤ reachBytes) → Glob W → Calls Tryz.prog f args W (IdxPost W (.bool true))) :
    ReturnsInHanded { calm := true } Tryz.checked os f .any (fun w args => (s.pre enc Tryz.prog fn [] false w args ∧ laidMetH Tryz.prog laidL w) ∧ sizedMet enc Tryz.prog fn (OpenSpec.ofChange s) false w args)
      ((OpenSpec.ofChange s).postWith enc Tryz.prog fn F (outsideKept [.timePasses]) false true false) := by
  refine Go.Clock.returns_of_change (C := Tryz.checked) (X := fun w _ => laidMetH Tryz.prog laidL w) (fun w w' _ hh hx => hx.of_heap hh) own started noInit hfn witness ?_
  intro W base args ds gs before hval hW' hc hwt hL hsh
  have hG := glob_of_laid hL hsh
  have hW := hW'
  obtain ⟨p, q, hA, hV, rfl, _, _⟩ := hW
  rw [hvars] at hV
  obtain ⟨rfl, rfl⟩ := trodVars_none hV
  have hlt : ∀ x ∈ p, x.block < W.heap.size := fun x hx => hW'.lt x (by simpa using hx)
  have hlen : ds.length = fn.params.toList.length := trodAll_length hA
  have hwt2 : ∀ (j : Nat) (t : TypeId) (d : DataW H), fn.params.toList[j]? = some t → ds[j]? = some d → ∀ n ∈ d.weights Tryz.prog t, n ≤ reachBytes := fun j t d h1 h2 n hn => by
    have hj := (List.getElem?_eq_some_iff.1 h1).1
    have hj2 := (List.getElem?_eq_some_iff.1 h2).1
    have := DataW.weights_mem_each (P := Tryz.prog) (ts := fn.params.toList ++ s.plain.varTypes Tryz.prog) (ds := ds ++ []) (j := j) (by rw [List.getElem?_append_left hj]; exact h1) (by rw [List.getElem?_append_left hj2]; exact h2) n hn
    have h3 := List.all_eq_true.1 hwt n this
    simpa using h3
  refine (walk W base args ds p hval hA hlt hwt2 hG).mono fun e W' ⟨he, hk⟩ => ?_
  subst he
  have e : { W' with os := W.os } = W' := by rw [← hk.os]
  refine ⟨_, rfl, ?_, hk.os ▸ Go.Clock.Later.refl _⟩
  rw [e]
  refine ⟨ds, [], p ++ [], [], p, [], hW', ?_, ?_, ?_, hk.toBelow.frame _, fun h => by cases h⟩
  · rw [List.append_nil, hspec ds hlen, hres]
    exact trodAll_mk1 (shut_bool Tryz.underlying4 true)
  · rw [List.append_nil, hspec ds hlen]
    exact args_stay hk.toBelow hpar hA hlt
  · rw [List.append_nil, hspec ds hlen, hvars]
    exact rfl
end Go.Proofs.YteokloipniiakaaGreatDoor
