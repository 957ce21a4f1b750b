/- HouseOpens: for every input the law returns true and leaves its arguments as they were, where the listed package-level variables hold what the program's text lays; the tied card. -/
import Derived.Test.YthdkamnclbfehaaGreatDoorO15
import Derived.Test.YthdkamnclbfehaaGreatDoorO16
import Derived.Test.YthdkamnclbfehaaGreatDoorO29
import Derived.Test.YthdkamnclbfehaaGreatDoorCards
import Derived.SevenTiedAt
/- HouseOpens: for every input the law returns true and leaves its arguments as they were, where the listed package-level variables hold what the program's text lays; the tied card. -/
namespace Go.Proofs.YthdkamnclbfehaaGreatDoor
set_option linter.unusedSimpArgs false
set_option linter.unusedVariables false
set_option linter.unnecessarySimpa false
open Go Go.ChangeShapes Go.WideShapes Go.ChangeAt Go.WideMaps Go.WideElems Go.RowKit
set_option maxRecDepth 100000 in
theorem houseOpens_lifted (os : Os) (started : os.Started) (H : Type) (enc : TypeId × Value → H) :
    ReturnsInHanded {} Tryz.checked os 9 .any (fun w args => (Rows.houseOpensSpec.pre enc Tryz.prog Tryz.f9 [] false w args ∧ laidMetH Tryz.prog laidL w) ∧ sizedMet enc Tryz.prog Tryz.f9 (OpenSpec.ofChange Rows.houseOpensSpec) false w args)
      (Rows.houseOpensSpec.post enc Tryz.prog Tryz.f9 false true false false) := by
  refine lift_law started Tryz.func9 (by kernel_rfl) rfl (by kernel_rfl) (by kernel_rfl) (fun ds hd => ?_)
    (ChangeSpec.witness_shaped (enc := enc) (C := Tryz.checked) (os := os) (X := fun w _ => laidMetH Tryz.prog laidL w) false (WL os) #[.string ⟨#[]⟩, .slice none 0 0, .int .i64 0] 8 (WL_os os) (World.shaped_of_ZipB (by kernel_rfl) (by kernel_rfl)) (by kernel_rfl) (by kernel_rfl) (by kernel_rfl) (door_met os _)) ?_
  · rw [Tryz.params9] at hd
    match ds, hd with
    | [d0, d1, d2], _ => rfl
  intro W base args ds ps hval0 hA0 _ hwt hG
  have hval : ∀ (j : Nat) t v, Tryz.f9.params[j]? = some t → args[j]? = some v → Value.okWide Tryz.prog W .any base t v := hval0
  have hA : DataW.TrodAll enc Tryz.prog W 0 (fun _ => true) true Tryz.f9.params.toList args.toList ds ps := hA0
  rw [Tryz.params9] at hA hval
  obtain ⟨v0, v1, v2, d0, d1, d2, p0, p1, p2, rfl, rfl, rfl, h0, h1, h2⟩ := trodAll_three hA
  obtain ⟨s, rfl, e0, rfl, _⟩ := Go.ChangeMaps.open_string Tryz.underlying9 (hval 0 9 v0 rfl rfl) h0
  have hs := str_weight e0 (hwt 0 9 d0 rfl rfl)
  obtain ⟨g, _, hgl, hgr⟩ := ints_arg Tryz.underlying35 (hval 1 35 v1 rfl rfl) h1 (hwt 1 35 d1 rfl rfl)
  obtain ⟨k, rfl, _, rfl, hk⟩ := open_int Tryz.underlying3 (hval 2 3 v2 rfl rfl) h2
  exact houseOpens_any hG hs hgr (by omega) (wf_i64b hk).2
theorem houseOpens_row : Rows.HouseOpensSaid :=
  OpenClaim.holds_of_wide 9 Tryz.f9 rfl rfl rfl rfl rfl rfl rfl ⟨rfl, rfl, rfl, rfl, rfl⟩ rfl rfl rfl rfl rfl houseOpens_name Tryz.func9 houseOpens_closed houseOpens_inst houseOpens_wrap
    (fun os started H enc _ => houseOpens_lifted os started H enc)
theorem houseOpens_card : Rows.HouseOpensCardSaid :=
  Claim7.holds_tied_plain_at .later [] [.data, .data, .data, .data, .sentinel, .sentinel, .funcs, .pinned] true (true, "e1f9eaf7faf200dff0944b4f49cc5ee0ac1904f278e3ecd769f4d01c586ff77e") true
    houseOpens_row (fun _ h => by cases h) (by kernel_rfl) (fun _ h => by cases h) houseOpens_row_tie rfl ⟨rfl, rfl⟩ (by kernel_rfl) rfl
    (fun f fn hf hfn => by
      obtain rfl : f = 9 := Option.some.inj ((show Tryz.prog.funcNamed "cubeb/cubeblaw09.HouseOpens" = some 9 by kernel_rfl).symm.trans hf) |>.symm
      obtain rfl : fn = Tryz.f9 := (Option.some.inj (Tryz.func9.symm.trans hfn)).symm
      exact ⟨by kernel_rfl, fun j t ht => by
        rw [Tryz.params9] at ht
        have hm : t ∈ [9, 35, 3] := by simpa using Array.mem_of_getElem? ht
        have hall : ([9, 35, 3].all fun u => !Tryz.prog.wantsStandIn u) = true := by kernel_rfl
        exact (show Tryz.prog.wantsStandIn t = false by simpa using List.all_eq_true.1 hall t hm)⟩)
    (by kernel_rfl)
#print axioms houseOpens_card
end Go.Proofs.YthdkamnclbfehaaGreatDoor
