/- HouseAssigns: for every input the law returns true and leaves its arguments as they were, where the listed package-level variables hold what the program's text lays; the tied card. -/
import Derived.Test.YthdkamnclbfehaaGreatDoorAssigns15
import Derived.Test.YthdkamnclbfehaaGreatDoorAssigns26
import Derived.Test.YthdkamnclbfehaaGreatDoorCards
import Derived.SevenTiedAt

/- HouseAssigns: for every input the law returns true and leaves its arguments as they were, where the listed package-level variables hold what the program's text lays; the tied card. -/
namespace Go.Proofs.YthdkamnclbfehaaGreatDoor
set_option linter.unusedSimpArgs false
set_option linter.unusedVariables false
set_option linter.unnecessarySimpa false
open Go Go.ChangeShapes Go.WideShapes Go.ChangeAt Go.WideMaps Go.WideElems Go.RowKit

set_option maxRecDepth 100000 in
theorem houseAssigns_lifted (os : Os) (started : os.Started) (H : Type) (enc : TypeId × Value → H) :
    ReturnsInHanded {} Tryz.checked os 5 .any (fun w args => (Rows.houseAssignsSpec.pre enc Tryz.prog Tryz.f5 [] false w args ∧ laidMetH Tryz.prog laidL w) ∧ sizedMet enc Tryz.prog Tryz.f5 (OpenSpec.ofChange Rows.houseAssignsSpec) false w args)
      (Rows.houseAssignsSpec.post enc Tryz.prog Tryz.f5 false true false false) := by
  refine lift_law started Tryz.func5 (by kernel_rfl) rfl (by kernel_rfl) (by kernel_rfl) (fun ds hd => ?_)
    (ChangeSpec.witness_shaped (enc := enc) (C := Tryz.checked) (os := os) (X := fun w _ => laidMetH Tryz.prog laidL w) false (WL os) #[.slice none 0 0, .int .i64 0] 8 (WL_os os) (World.shaped_of_ZipB (by kernel_rfl) (by kernel_rfl)) (by kernel_rfl) (by kernel_rfl) (by kernel_rfl) (door_met os _)) ?_
  · rw [Tryz.params5] at hd
    match ds, hd with
    | [d0, d1], _ => rfl
  intro W base args ds ps hval0 hA0 _ hwt hG
  have hval : ∀ (j : Nat) t v, Tryz.f5.params[j]? = some t → args[j]? = some v → Value.okWide Tryz.prog W .any base t v := hval0
  have hA : DataW.TrodAll enc Tryz.prog W 0 (fun _ => true) true Tryz.f5.params.toList args.toList ds ps := hA0
  rw [Tryz.params5] at hA hval
  obtain ⟨v0, v1, d0, d1, p0, p1, rfl, rfl, rfl, h0, h1⟩ := trodAll_two hA
  obtain ⟨g, _, hgl, hgr⟩ := ints_arg Tryz.underlying35 (hval 0 35 v0 rfl rfl) h0 (hwt 0 35 d0 rfl rfl)
  obtain ⟨kinds, rfl, rfl, rfl, _⟩ := open_int Tryz.underlying3 (hval 1 3 v1 rfl rfl) h1
  exact houseAssigns_any kinds hG hgr (by omega)

theorem houseAssigns_row : Rows.HouseAssignsSaid :=
  OpenClaim.holds_of_wide 5 Tryz.f5 rfl rfl rfl rfl rfl rfl rfl ⟨rfl, rfl, rfl, rfl, rfl⟩ rfl rfl rfl rfl rfl (by kernel_rfl) Tryz.func5 (by kernel_rfl)
    (of_decide_eq_true (by kernel_rfl)) (by unfold Func.isWrapper; first | (rw [if_pos (by decide +kernel)]; kernel_rfl) | (rw [if_neg (by decide +kernel)]; exact ⟨rfl, rfl⟩))
    (fun os started H enc _ => houseAssigns_lifted os started H enc)
theorem houseAssigns_card : Rows.HouseAssignsCardSaid :=
  Claim7.holds_tied_plain_at .later [] [.data, .data, .data, .data, .sentinel, .sentinel, .funcs, .pinned] true (true, "e1f9eaf7faf200dff0944b4f49cc5ee0ac1904f278e3ecd769f4d01c586ff77e") true
    houseAssigns_row (fun _ h => by cases h) (by kernel_rfl) (fun _ h => by cases h) houseAssigns_row_tie rfl ⟨rfl, rfl⟩ (by kernel_rfl) rfl
    (fun f fn hf hfn => by
      obtain rfl : f = 5 := Option.some.inj ((show Tryz.prog.funcNamed "cubeb/cubeblaw09.HouseAssigns" = some 5 by kernel_rfl).symm.trans hf) |>.symm
      obtain rfl : fn = Tryz.f5 := (Option.some.inj (Tryz.func5.symm.trans hfn)).symm
      exact ⟨by kernel_rfl, fun j t ht => by
        rw [Tryz.params5] at ht
        have hm : t ∈ [35, 3] := by simpa using Array.mem_of_getElem? ht
        have hall : ([35, 3].all fun u => !Tryz.prog.wantsStandIn u) = true := by kernel_rfl
        exact (show Tryz.prog.wantsStandIn t = false by simpa using List.all_eq_true.1 hall t hm)⟩)
    (by kernel_rfl)
#print axioms houseAssigns_card
end Go.Proofs.YthdkamnclbfehaaGreatDoor
