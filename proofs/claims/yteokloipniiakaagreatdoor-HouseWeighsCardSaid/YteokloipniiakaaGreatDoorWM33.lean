/- HouseWeighs: for every input the law returns true and leaves its arguments as they were, where the listed package-level variables hold what the program's text lays, whatever the two variables that are not listed hold; the clocks alone may go on; the tied card. -/
import Derived.Test.YteokloipniiakaaGreatDoorWM15
import Derived.Test.YteokloipniiakaaGreatDoorWM16
import Derived.Test.YteokloipniiakaaGreatDoorWM25
import Derived.Test.YteokloipniiakaaGreatDoorWM29
import Derived.Test.YteokloipniiakaaGreatDoorWM30
import Derived.Test.YteokloipniiakaaGreatDoorWM31
import Derived.Test.YteokloipniiakaaGreatDoorWM32
import Derived.Test.YteokloipniiakaaGreatDoorCards
import Derived.SevenTiedAt

/- HouseWeighs: for every input the law returns true and leaves its arguments as they were, where the listed package-level variables hold what the program's text lays, whatever the two variables that are not listed hold; the clocks alone may go on; the tied card. -/
namespace Go.Proofs.YteokloipniiakaaGreatDoor
set_option linter.unusedSimpArgs false
set_option linter.unusedVariables false
set_option linter.unnecessarySimpa false
open Go Go.ChangeShapes Go.WideShapes Go.ChangeAt Go.WideMaps Go.WideElems Go.RowKit

set_option maxRecDepth 100000 in
theorem houseWeighs_lifted (os : Os) (started : os.Started) (H : Type) (enc : TypeId × Value → H) (F : Stop.Interp) :
    ReturnsInHanded { calm := true } Tryz.checked os 3 .any (fun w args => (Rows.houseWeighsSpec.pre enc Tryz.prog Tryz.f3 [] false w args ∧ laidMetH Tryz.prog laidL w) ∧ sizedMet enc Tryz.prog Tryz.f3 (OpenSpec.ofChange Rows.houseWeighsSpec) false w args)
      ((OpenSpec.ofChange Rows.houseWeighsSpec).postWith enc Tryz.prog Tryz.f3 F (outsideKept [.timePasses]) false true false) := by
  refine lift_time F started Tryz.func3 (by kernel_rfl) rfl (by kernel_rfl) (by kernel_rfl) (fun ds hd => ?_)
    (Go.Clock.witness_at (enc := enc) (C := Tryz.checked) (os := os) (X := fun w _ => laidMetH Tryz.prog laidL w) (WL os) #[.slice none 0 0, .slice none 0 0] 8 (WL_os os) (World.shaped_of_ZipB (by kernel_rfl) (by kernel_rfl)) (by kernel_rfl) (by kernel_rfl) (by kernel_rfl) (door_met os _)) ?_
  · rw [Tryz.params3] at hd
    match ds, hd with
    | [d0, d1], _ => rfl
  intro W base args ds ps hval0 hA0 _ hwt hG
  have hval : ∀ (j : Nat) t v, Tryz.f3.params[j]? = some t → args[j]? = some v → Value.okWide Tryz.prog W .any base t v := hval0
  have hA : DataW.TrodAll enc Tryz.prog W 0 (fun _ => true) true Tryz.f3.params.toList args.toList ds ps := hA0
  rw [Tryz.params3] at hA hval
  obtain ⟨v0, v1, d0, d1, p0, p1, rfl, rfl, rfl, h0, h1⟩ := trodAll_two hA
  obtain ⟨g, _, hgl, hgr⟩ := ints_arg Tryz.underlying23 (hval 0 23 v0 rfl rfl) h0 (hwt 0 23 d0 rfl rfl)
  obtain ⟨l, hl, hll, hlr⟩ := strs_arg Tryz.underlying24 (hval 1 24 v1 rfl rfl) h1 (hwt 1 24 d1 rfl rfl)
  exact houseWeighs_any hG hgr (by omega) hlr hl (by omega)

theorem houseWeighs_row : Rows.HouseWeighsSaid :=
  Go.Clock.holds_of_wide_time 3 Tryz.f3 rfl rfl rfl rfl rfl rfl rfl ⟨rfl, rfl, rfl, rfl, rfl⟩ rfl rfl rfl rfl rfl houseWeighs_name Tryz.func3 houseWeighs_closed houseWeighs_inst houseWeighs_wrap
    (fun os started H enc _ F => houseWeighs_lifted os started H enc F)
theorem houseWeighs_card : Rows.HouseWeighsCardSaid :=
  Claim7.holds_tied_plain_at .later [] [.data, .data, .data, .data, .sentinel, .sentinel, .mapped, .funcs, .pinned] true (true, "e39b39f8af8238861c004f67cdbb0539010000a56b826b63aa76dc71177ab5be") true
    houseWeighs_row (fun _ h => by cases h) houseWeighs_wf (fun _ h => by cases h) houseWeighs_row_tie rfl ⟨rfl, rfl⟩ houseWeighs_main rfl
    (fun f fn hf hfn => by
      obtain rfl : f = 3 := Option.some.inj (houseWeighs_fname.symm.trans hf) |>.symm
      obtain rfl : fn = Tryz.f3 := (Option.some.inj (Tryz.func3.symm.trans hfn)).symm
      exact ⟨houseWeighs_looks, fun j t ht => by
        rw [Tryz.params3] at ht
        have hm : t ∈ [23, 24] := by simpa using Array.mem_of_getElem? ht
        have hall : ([23, 24].all fun u => !Tryz.prog.wantsStandIn u) = true := by kernel_rfl
        exact (show Tryz.prog.wantsStandIn t = false by simpa using List.all_eq_true.1 hall t hm)⟩)
    houseWeighs_goes
#print axioms houseWeighs_card
end Go.Proofs.YteokloipniiakaaGreatDoor
