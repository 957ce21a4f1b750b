/- TopFinds: for every input of bulk 1048576 at most the law returns true and leaves its arguments as they were, where the listed package-level variables hold what the program's text lays, whatever the variables that are not listed hold; the tied card of the second form. -/
import Derived.Test.YteommegadhipkaaGreatDoorFM16
import Derived.Test.YteommegadhipkaaGreatDoorFM19
import Derived.Test.YteommegadhipkaaGreatDoorFM20
import Derived.Test.YteommegadhipkaaGreatDoorFM52
import Derived.Test.YteommegadhipkaaGreatDoorCards
import Derived.SevenTiedAt
import Derived.Stop.Joined

/- TopFinds: for every input of bulk 1048576 at most the law returns true and leaves its arguments as they were, where the listed package-level variables hold what the program's text lays, whatever the variables that are not listed hold; the tied card of the second form. -/
namespace Go.Proofs.YteommegadhipkaaGreatDoor
set_option linter.unusedSimpArgs false
set_option linter.unusedVariables false
set_option linter.unnecessarySimpa false
open Go Go.ChangeShapes Go.WideShapes Go.ChangeAt Go.WideMaps Go.WideElems Go.RowKit

set_option maxRecDepth 100000 in
theorem topFinds_reads (os : Os) {H : Type} (enc : TypeId × Value → H) : ∃ places, DataW.whole enc Tryz.prog ((WL os).forCall (fun _ _ => 0) ⟨#[], #[.slice none 0 0, .slice none 0 0, .string ⟨#[]⟩], []⟩).memory Tryz.f3.params.toList (Rows.OpenSpec.upto Rows.topFindsSpec).vars false #[Value.slice none 0 0, Value.slice none 0 0, Value.string ⟨#[]⟩].toList 8 = some ([.nil, .nil, .lit (.string [])], [], places) :=
  ⟨[], by kernel_rfl⟩
set_option maxRecDepth 100000 in
theorem topFinds_witness (os : Os) (H : Type) (enc : TypeId × Value → H) : ∃ (w : World) (tape : Tape) (i : Input), w.os = os ∧ (w.forCall tape i).Shaped Tryz.prog ∧ i.vars = [] ∧ Input.okWide Tryz.prog (w.forCall tape i) .any w.heap.size 3 i ∧
      (Rows.OpenSpec.upto Rows.topFindsSpec).preRow enc Tryz.prog Tryz.f3 [] false laidL (w.forCall tape i).memory i.args ∧ ({} : Assume).holds Tryz.prog (lone (Frame.enter Tryz.prog 3 i.args .normal) [] (w.forCall tape i)) := by
  obtain ⟨places, hx⟩ := topFinds_reads os enc
  have hok : Input.okWideB Tryz.prog ((WL os).forCall (fun _ _ => 0) ⟨#[], #[.slice none 0 0, .slice none 0 0, .string ⟨#[]⟩], []⟩) 3 ⟨#[], #[.slice none 0 0, .slice none 0 0, .string ⟨#[]⟩], []⟩ = true := by kernel_rfl
  exact ⟨WL os, fun _ _ => 0, ⟨#[], #[.slice none 0 0, .slice none 0 0, .string ⟨#[]⟩], []⟩, WL_os os, World.shaped_of_ZipB (by kernel_rfl) (by kernel_rfl), (Input.okWide_of_okWideB (base := 0) hok).1, (Input.okWide_of_okWideB hok).2,
    OpenSpec.preRow_of_cond 8 hx rfl (fun k hk => by cases hk; kernel_rfl) (by kernel_rfl) (door_met os _), by
    simp only [Assume.holds]
    exact ⟨by simp, by simp, fun _ => Modest.zero, by simp, by simp⟩⟩
set_option maxRecDepth 100000 in
theorem topFinds_lifted (os : Os) (started : os.Started) (H : Type) (enc : TypeId × Value → H) (F : Stop.Interp) :
    ReturnsInHanded {} Tryz.checked os 3 .any ((Rows.OpenSpec.upto Rows.topFindsSpec).preRow enc Tryz.prog Tryz.f3 [] false laidL) (((Rows.OpenSpec.upto Rows.topFindsSpec).at F).post enc Tryz.prog Tryz.f3 false true false false) := by
  refine lift_upto started Tryz.func3 (by kernel_rfl) rfl (by kernel_rfl) (by kernel_rfl) (fun ds hd => ?_) (topFinds_witness os H enc) ?_
  · rw [Tryz.params3] at hd
    match ds, hd with
    | [d0, d1, d2], _ => rfl
  intro W base args ds ps hval0 hA0 _ hwt hbk hG
  have hval : ∀ (j : Nat) t v, Tryz.f3.params[j]? = some t → args[j]? = some v → Value.okWide Tryz.prog W .any base t v := hval0
  have hA : DataW.TrodAll enc Tryz.prog W 0 (fun _ => true) true Tryz.f3.params.toList args.toList ds ps := hA0
  rw [Tryz.params3] at hA hval
  obtain ⟨v0, v1, v2, d0, d1, d2, p0, p1, p2, rfl, rfl, rfl, h0, h1, h2⟩ := trodAll_three hA
  obtain ⟨g, _, hgl, hgr⟩ := ints_arg Tryz.underlying23 (hval 0 23 v0 rfl rfl) h0 (hwt 0 23 d0 rfl rfl)
  obtain ⟨l, hl, hll, hlr⟩ := strs_argS Tryz.underlying24 (hval 1 24 v1 rfl rfl) h1 (hwt 1 24 d1 rfl rfl) (Nat.le_trans (bulk_at (j := 1) rfl) hbk)
  obtain ⟨s, rfl, e2, rfl, _⟩ := Go.ChangeMaps.open_string Tryz.underlying9 (hval 2 9 v2 rfl rfl) h2
  have hs : s.size ≤ 1048576 := small_str e2 (Nat.le_trans (bulk_at (j := 2) rfl) hbk)
  exact topFinds_any hG hgr (by omega) hlr (fun x hx => by have := hl x hx; omega) (by omega) hs

theorem topFinds_row : Rows.TopFindsUptoSaid :=
  OpenClaim.holds_of_cond 3 Tryz.f3 rfl rfl rfl rfl rfl rfl rfl ⟨rfl, rfl, rfl, rfl, rfl⟩ rfl rfl rfl rfl rfl topFinds_name Tryz.func3 topFinds_closed topFinds_inst topFinds_wrap
    (fun os started H enc _ F => by rw [OpenClaim.pre_eq_preRow]; exact topFinds_lifted os started H enc F)
theorem topFinds_card : Rows.TopFindsUptoCardSaid :=
  Claim7.holds_tied_plain_at .later [] [.data, .data, .data, .data, .sentinel, .sentinel, .mapped, .funcs, .pinned] true (true, "c665d3540088ac835243ba652d6aff514967a73654a50065f2022064e8a9651d") true
    topFinds_row (fun _ h => by cases h) topFinds_wf (fun _ h => by cases h) topFindsUpto_row_tie rfl ⟨rfl, rfl⟩ topFinds_main rfl
    (fun f fn hf hfn => by
      obtain rfl : f = 3 := Option.some.inj (topFinds_fname.symm.trans hf) |>.symm
      obtain rfl : fn = Tryz.f3 := (Option.some.inj (Tryz.func3.symm.trans hfn)).symm
      exact ⟨topFinds_looks, fun j t ht => by
        rw [Tryz.params3] at ht
        have hm : t ∈ [23, 24, 9] := by simpa using Array.mem_of_getElem? ht
        have hall : ([23, 24, 9].all fun u => !Tryz.prog.wantsStandIn u) = true := by kernel_rfl
        exact (show Tryz.prog.wantsStandIn t = false by simpa using List.all_eq_true.1 hall t hm)⟩)
    topFinds_goes
#print axioms topFinds_card
end Go.Proofs.YteommegadhipkaaGreatDoor
