/- TopSure: for every input the law returns true and leaves its arguments as they were, where the listed package-level variables hold what the program's text lays, whatever the two variables that are not listed hold; the tied card. -/
import Derived.Test.YtkkjonkcjlnohaaGreatDoorSM15
import Derived.Test.YtkkjonkcjlnohaaGreatDoorSM32
import Derived.Test.YtkkjonkcjlnohaaGreatDoorSM35
import Derived.Test.YtkkjonkcjlnohaaGreatDoorSM36
import Derived.Test.YtkkjonkcjlnohaaGreatDoorSM37
import Derived.Test.YtkkjonkcjlnohaaGreatDoorCards
import Derived.SevenTiedAt

/- TopSure: for every input the law returns true and leaves its arguments as they were, where the listed package-level variables hold what the program's text lays, whatever the two variables that are not listed hold; the tied card. -/
namespace Go.Proofs.YtkkjonkcjlnohaaGreatDoor
set_option linter.unusedSimpArgs false
set_option linter.unusedVariables false
set_option linter.unnecessarySimpa false
open Go Go.ChangeShapes Go.WideShapes Go.ChangeAt Go.WideMaps Go.WideElems Go.RowKit

set_option maxRecDepth 100000 in
theorem topSure_lifted (os : Os) (started : os.Started) (H : Type) (enc : TypeId × Value → H) :
    ReturnsInHanded {} Tryz.checked os 3 .any (fun w args => (Rows.topSureSpec.pre enc Tryz.prog Tryz.f3 [] false w args ∧ laidMetH Tryz.prog laidL w) ∧ sizedMet enc Tryz.prog Tryz.f3 (OpenSpec.ofChange Rows.topSureSpec) false w args)
      (Rows.topSureSpec.post enc Tryz.prog Tryz.f3 false true false false) := by
  refine lift_law started Tryz.func3 (by kernel_rfl) rfl (by kernel_rfl) (by kernel_rfl) (fun ds hd => ?_)
    (ChangeSpec.witness_shaped (enc := enc) (C := Tryz.checked) (os := os) (X := fun w _ => laidMetH Tryz.prog laidL w) false (WL os) #[.slice none 0 0, .slice none 0 0] 8 (WL_os os) (World.shaped_of_ZipB (by kernel_rfl) (by kernel_rfl)) (by kernel_rfl) (by kernel_rfl) (by kernel_rfl) (door_met os _)) ?_
  · rw [Tryz.params3] at hd
    match ds, hd with
    | [d0, d1], _ => rfl
  intro W base args ds ps hval0 hA0 _ hwt hG
  have hval : ∀ (j : Nat) t v, Tryz.f3.params[j]? = some t → args[j]? = some v → Value.okWide Tryz.prog W .any base t v := hval0
  have hA : DataW.TrodAll enc Tryz.prog W 0 (fun _ => true) true Tryz.f3.params.toList args.toList ds ps := hA0
  rw [Tryz.params3] at hA hval
  obtain ⟨v0, v1, d0, d1, p0, p1, rfl, rfl, rfl, h0, h1⟩ := trodAll_two hA
  obtain ⟨g, _, hgl, hgr⟩ := ints_arg Tryz.underlying23 (hval 0 23 v0 rfl rfl) h0 (hwt 0 23 d0 rfl rfl)
  obtain ⟨l, hl, hll, hlr⟩ := strs_arg Tryz.underlying24 (hval 1 24 v1 rfl rfl) h1 (hwt 1 24 d1 rfl rfl)
  exact topSure_any hG hgr (by omega) hlr hl (by omega)

theorem topSure_row : Rows.TopSureSaid :=
  OpenClaim.holds_of_wide 3 Tryz.f3 rfl rfl rfl rfl rfl rfl rfl ⟨rfl, rfl, rfl, rfl, rfl⟩ rfl rfl rfl rfl rfl topSure_name Tryz.func3 topSure_closed topSure_inst topSure_wrap
    (fun os started H enc _ => topSure_lifted os started H enc)
theorem topSure_card : Rows.TopSureCardSaid :=
  Claim7.holds_tied_plain_at .later [] [.data, .data, .data, .data, .sentinel, .sentinel, .mapped, .funcs, .pinned] true (true, "d60ce362717ef28328d9e45d615cf41fa34828e074e5cf5f1901fb4af5603612") true
    topSure_row (fun _ h => by cases h) topSure_wf (fun _ h => by cases h) topSure_row_tie rfl ⟨rfl, rfl⟩ topSure_main rfl
    (fun f fn hf hfn => by
      obtain rfl : f = 3 := Option.some.inj (topSure_fname.symm.trans hf) |>.symm
      obtain rfl : fn = Tryz.f3 := (Option.some.inj (Tryz.func3.symm.trans hfn)).symm
      exact ⟨topSure_looks, fun j t ht => by
        rw [Tryz.params3] at ht
        have hm : t ∈ [23, 24] := by simpa using Array.mem_of_getElem? ht
        have hall : ([23, 24].all fun u => !Tryz.prog.wantsStandIn u) = true := by kernel_rfl
        exact (show Tryz.prog.wantsStandIn t = false by simpa using List.all_eq_true.1 hall t hm)⟩)
    topSure_goes
#print axioms topSure_card
end Go.Proofs.YtkkjonkcjlnohaaGreatDoor
