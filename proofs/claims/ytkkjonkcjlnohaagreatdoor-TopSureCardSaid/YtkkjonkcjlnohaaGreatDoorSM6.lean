/- A world that meets the rows' condition: the door's own heap, the one great table laid on it. -/
import Derived.Test.YtkkjonkcjlnohaaGreatDoorSM4
import Derived.Test.YtkkjonkcjlnohaaGreatDoorSM2
import Derived.Test.YtkkjonkcjlnohaaGreatDoorSM5
import Derived.Stop.Joined
import Derived.HandedShaped
import Derived.Carry
import Derived.Lay

/- A world that meets the rows' condition: the door's own heap, the one great table laid on it. -/
namespace Go.Proofs.YtkkjonkcjlnohaaGreatDoor
set_option linter.unusedSimpArgs false
set_option linter.unusedVariables false
set_option linter.unnecessarySimpa false
open Go Go.ChangeShapes Go.WideShapes Go.ChangeAt Go.WideMaps Go.WideElems Go.RowKit

theorem own : ownKnob Tryz.prog.godebug = none := by kernel_rfl
theorem laidOut : laidOutB Tryz.prog = true := by kernel_rfl

/-- What is listed as plain data; the one great table; the rest. -/
def plainL : List (String × DataW Unit) := laidL.filter fun x => x.2.handleName?.isNone
def greatL : List (String × DataW Unit) := plainL.filter fun x => ["unicode/utf8.first"].contains x.1
def restL : List (String × DataW Unit) := plainL.filter fun x => !["unicode/utf8.first"].contains x.1
/-- The witness's world: the door's own heap, the great table laid on it. -/
noncomputable def WL (os : Os) : World := (World.doorLaid Tryz.prog 166 os).layVars Tryz.prog greatL
noncomputable def Bl (os : Os) : List Nat := ((DataW.laidRun Tryz.prog (WL os) 8 (restL.map (·.1))).map fun x => x.2.map (·.block)).getD []
theorem WL_os (os : Os) : (WL os).os = os := by
  unfold WL
  rw [World.layVars_os]; rfl
set_option maxRecDepth 100000 in
theorem fits_first (os : Os) : (World.doorLaid Tryz.prog 166 os).layFits Tryz.prog greatL (Bl os) = true := by kernel_rfl
set_option maxRecDepth 100000 in
theorem ifaces_first (os : Os) : (World.doorLaid Tryz.prog 166 os).layIfaces Tryz.prog greatL (WL os) = true := by kernel_rfl
set_option maxRecDepth 100000 in
theorem rest_in (os : Os) : LaidIn Tryz.prog (WL os) restL (Bl os) := LaidIn.of_run (Bl os) 8 (by kernel_rfl) (by kernel_rfl) (by kernel_rfl) (by kernel_rfl)
theorem funcs_in (os : Os) : funcsRun Tryz.prog (WL os) 8 ((funcsListed laidL).map (·.1)) = some ((funcsListed laidL).map (·.2.funcsOut)) := by kernel_rfl
set_option maxRecDepth 100000 in
/-- The witness's world meets the condition. -/
theorem met_WL (os : Os) : laidMetH Tryz.prog laidL (WL os) :=
  laidMetH_of_parts3 (fuel := 8) (laidMet_layVars (w0 := World.doorLaid Tryz.prog 166 os) ["unicode/utf8.first"] (Bl os) rfl (fits_first os) (ifaces_first os) (rest_in os)) (by kernel_rfl) (funcs_in os)
theorem door_met (os : Os) (args : Array Value) : laidMetH Tryz.prog laidL ((WL os).forCall (fun _ _ => 0) ⟨#[], args, []⟩).memory :=
  (met_WL os).of_heap (by simp [World.memory, World.forCall, Input.heap])
end Go.Proofs.YtkkjonkcjlnohaaGreatDoor

/- From a walk to a row of this seat: one frame for all nine laws. -/
namespace Go.Proofs.YtkkjonkcjlnohaaGreatDoor
set_option linter.unusedSimpArgs false
set_option linter.unusedVariables false
set_option linter.unnecessarySimpa false
open Go Go.ChangeShapes Go.WideShapes Go.ChangeAt Go.WideMaps Go.WideElems Go.RowKit

theorem trodAll_length {H : Type} {enc : TypeId × Value → H} {P : Program} {w : World} {base : Nat} {sp : Nat → Bool} {held : Bool} : ∀ {ts : List TypeId} {vs : List Value} {ds : List (DataW H)} {ps : List MemPlace}, DataW.TrodAll enc P w base sp held ts vs ds ps → ds.length = ts.length := by
  intro ts
  induction ts with
  | nil =>
    intro vs ds ps h
    obtain ⟨rfl, rfl, rfl⟩ := trodAll_nil h
    rfl
  | cons t ts ih =>
    intro vs ds ps h
    obtain ⟨v, vs1, d, ds1, a, b, rfl, rfl, rfl, h1, h2⟩ := trodAll_cons h
    simp [ih h2]
/-- Arguments read behind the call as they did. -/
theorem args_stay {H : Type} {enc : TypeId × Value → H} {W W' : World} (hb : Below W.heap.size W W') : ∀ {ts : List TypeId} {vs : List Value} {ds : List (DataW H)} {ps : List MemPlace},
    (ts.all fun t => Tryz.prog.readableRec t && decide (t < Tryz.prog.types.size)) = true → DataW.TrodAll enc Tryz.prog W 0 (fun _ => true) true ts vs ds ps → (∀ x ∈ ps, x.block < W.heap.size) →
    DataW.TrodAll enc Tryz.prog W' 0 (fun b => decide (b < W.heap.size)) true ts vs ds ps := by
  intro ts
  induction ts with
  | nil =>
    intro vs ds ps _ h _
    obtain ⟨rfl, rfl, rfl⟩ := trodAll_nil h
    exact h
  | cons t ts ih =>
    intro vs ds ps ht h hlt
    obtain ⟨v, vs1, d, ds1, a, b, rfl, rfl, rfl, h1, h2⟩ := trodAll_cons h
    simp only [List.all_cons, Bool.and_eq_true, decide_eq_true_eq] at ht
    exact ⟨a, b, Below.trod laidOut ht.1.1 ht.1.2 h1 hb (fun x hx => hlt x (List.mem_append_left _ hx)), ih (by simpa using ht.2) h2 (fun x hx => hlt x (List.mem_append_right _ hx)), rfl⟩

set_option maxRecDepth 100000 in
theorem lift_law {f : FuncId} {fn : Func} {s : ChangeSpec} {H : Type} {enc : TypeId × Value → H} {os : Os} (started : os.Started) (hfn : Tryz.prog.funcs[f]? = some fn) (noInit : Tryz.prog.inits.idxOf? f = none)
    (hvars : s.vars = []) (hres : fn.resultTypes = #[4]) (hpar : (fn.params.toList.all fun t => Tryz.prog.readableRec t && decide (t < Tryz.prog.types.size)) = true)
    (hspec : ∀ ds : List (DataW H), ds.length = fn.params.toList.length → s.fn H ds = { results := [.lit (.bool true)], args := ds, vars := [] })
    (witness : ∃ (w : World) (tape : Tape) (i : Input), w.os = os ∧ (w.forCall tape i).Shaped Tryz.prog ∧ i.vars = [] ∧ Input.okWide Tryz.prog (w.forCall tape i) .any w.heap.size f i ∧
      ((s.pre enc Tryz.prog fn [] false (w.forCall tape i).memory i.args ∧ laidMetH Tryz.prog laidL (w.forCall tape i).memory) ∧ sizedMet enc Tryz.prog fn (OpenSpec.ofChange s) false (w.forCall tape i).memory i.args) ∧
      ({} : Assume).holds Tryz.prog (lone (Frame.enter Tryz.prog f i.args .normal) [] (w.forCall tape i)))
    (walk : ∀ (W : World) (base : Nat) (args : Array Value) (ds : List (DataW H)) (ps : List MemPlace), (∀ (j : Nat) t v, fn.params[j]? = some t → args[j]? = some v → Value.okWide Tryz.prog W .any base t v) →
      DataW.TrodAll enc Tryz.prog W 0 (fun _ => true) true fn.params.toList args.toList ds ps → (∀ x ∈ ps, x.block < W.heap.size) → (∀ (j : Nat) (t : TypeId) (d : DataW H), fn.params.toList[j]? = some t → ds[j]? = some d → ∀ n ∈ d.weights Tryz.prog t, n ≤ reachBytes) → Glob W → Calls Tryz.prog f args W (IdxPost W (.bool true))) :
    ReturnsInHanded {} Tryz.checked os f .any (fun w args => (s.pre enc Tryz.prog fn [] false w args ∧ laidMetH Tryz.prog laidL w) ∧ sizedMet enc Tryz.prog fn (OpenSpec.ofChange s) false w args)
      (s.post enc Tryz.prog fn false true false false) := by
  refine returnsInHanded_of_calls (C := Tryz.checked) own started noInit witness ?_
  intro w tape i _ hsh _ hok hpre _
  obtain ⟨_, _, _, fn', hfn', _, _, _, _, hval⟩ := hok
  obtain rfl : fn' = fn := Option.some.inj (hfn'.symm.trans hfn)
  obtain ⟨⟨⟨ds, gs, before, hw, _⟩, hx⟩, hz⟩ := hpre
  have hwt := hz.weights hw
  have hW := DataW.Whole.of_heap (w' := w.forCall tape i) (by rfl) hw
  have hL : laidMetH Tryz.prog laidL (w.forCall tape i) := hx.of_heap (by rfl)
  have hG := glob_of_laid hL hsh
  have hW' := hW
  obtain ⟨p, q, hA, hV, rfl, _, _⟩ := hW
  rw [hvars] at hV
  obtain ⟨rfl, rfl⟩ := trodVars_none hV
  have hlt : ∀ x ∈ p, x.block < (w.forCall tape i).heap.size := fun x hx => hW'.lt x (by simpa using hx)
  have hlen : ds.length = fn'.params.toList.length := trodAll_length hA
  have hwt2 : ∀ (j : Nat) (t : TypeId) (d : DataW H), fn'.params.toList[j]? = some t → ds[j]? = some d → ∀ n ∈ d.weights Tryz.prog t, n ≤ reachBytes := fun j t d h1 h2 n hn => by
    have hj := (List.getElem?_eq_some_iff.1 h1).1
    have hj2 := (List.getElem?_eq_some_iff.1 h2).1
    have := DataW.weights_mem_each (P := Tryz.prog) (ts := fn'.params.toList ++ (OpenSpec.ofChange s).bare.plain.varTypes Tryz.prog) (ds := ds ++ []) (j := j) (by rw [List.getElem?_append_left hj]; exact h1) (by rw [List.getElem?_append_left hj2]; exact h2) n hn
    have h3 := List.all_eq_true.1 hwt n this
    simpa using h3
  refine (walk (w.forCall tape i) w.heap.size i.args ds p hval hA hlt hwt2 hG).mono fun e W' ⟨he, hk⟩ => ?_
  subst he
  refine ChangeSpec.post_blind ⟨ds, [], p ++ [], [], p, [], hW', ?_, ?_, ?_, hk.toBelow.frame _, fun h => by cases h⟩
  · rw [List.append_nil, hspec ds hlen, hres]
    exact trodAll_mk1 (shut_bool Tryz.underlying4 true)
  · rw [List.append_nil, hspec ds hlen]
    exact args_stay hk.toBelow hpar hA hlt
  · rw [List.append_nil, hspec ds hlen, hvars]
    exact rfl
end Go.Proofs.YtkkjonkcjlnohaaGreatDoor
