/- HouseKept: for every input the law returns true and leaves its arguments as they were, where the listed package-level variables hold what the program's text lays; the tied card. -/
import Derived.Test.YthdkamnclbfehaaGreatDoorArgsB
import Derived.Test.YthdkamnclbfehaaGreatDoorKept
import Derived.Test.YthdkamnclbfehaaGreatDoorCards
import Derived.SevenTiedAt
namespace Go.Proofs.YthdkamnclbfehaaGreatDoor
set_option linter.unusedSimpArgs false
set_option linter.unusedVariables false
set_option linter.unnecessarySimpa false
open Go Go.ChangeShapes Go.WideShapes Go.ChangeAt Go.WideMaps Go.WideElems Go.RowKit

theorem cells42 : Tryz.prog.cellsOf 42 = 4 := by kernel_rfl
theorem cells4 : Tryz.prog.cellsOf 4 = 1 := by kernel_rfl
theorem bytes42 : 1 ≤ Tryz.prog.bytesOf 42 := of_decide_eq_true (by kernel_rfl)
set_option maxRecDepth 100000 in
theorem turn_of {H : Type} {enc : TypeId × Value → H} {W : World} {n : Nat} {cs : List Value} {y : DataW H × List MemPlace} (h : DataW.trod enc Tryz.prog W 0 (fun _ => true) true n 42 cs = some y) (hl : cs.length = 4) (hwt : ∀ m ∈ y.1.weights Tryz.prog 42, m ≤ reachBytes) :
    ∃ a : TurnV, cs = turnCell a ∧ i64b a.fuse ∧ i64b a.keep ∧ a.line.size ≤ 140737488355328 := by
  obtain ⟨xs, m, _, hy, _, hxl, hf⟩ := DataW.trod_struct Tryz.underlying42 h
  match cs, hl with
  | [c0, c1, c2, c3], _ =>
    have f0 : DataW.trod enc Tryz.prog W 0 (fun _ => true) true m 9 (([c0, c1, c2, c3].drop 0).take (Tryz.prog.cellsOf 9)) = xs[0]? := hf 0 _ rfl
    have f1 : DataW.trod enc Tryz.prog W 0 (fun _ => true) true m 3 (([c0, c1, c2, c3].drop 1).take (Tryz.prog.cellsOf 3)) = xs[1]? := hf 1 _ rfl
    have f2 : DataW.trod enc Tryz.prog W 0 (fun _ => true) true m 3 (([c0, c1, c2, c3].drop 2).take (Tryz.prog.cellsOf 3)) = xs[2]? := hf 2 _ rfl
    have f3 : DataW.trod enc Tryz.prog W 0 (fun _ => true) true m 4 (([c0, c1, c2, c3].drop 3).take (Tryz.prog.cellsOf 4)) = xs[3]? := hf 3 _ rfl
    rw [cellsInt] at f1 f2
    rw [cellsStr] at f0
    rw [cells4] at f3
    match xs, hxl with
    | [x0, x1, x2, x3], _ =>
      simp only [List.drop_zero, List.take_succ_cons, List.take_zero, List.drop_succ_cons, List.getElem?_cons_zero, List.getElem?_cons_succ] at f0 f1 f2 f3
      obtain ⟨s, e0, hx0, _⟩ := DataW.trod_string Tryz.underlying9 f0
      obtain ⟨fu, e1, _, hw1⟩ := DataW.trod_int Tryz.underlying3 f1
      obtain ⟨kp, e2, _, hw2⟩ := DataW.trod_int Tryz.underlying3 f2
      obtain ⟨ag, e3, _⟩ := DataW.trod_bool Tryz.underlying4 f3
      simp only [List.cons.injEq, and_true] at e0 e1 e2 e3
      subst e0 e1 e2 e3
      have hs : s.size ≤ 140737488355328 := by
        have hm : s.data.toList.length ∈ y.1.weights Tryz.prog 42 := by
          rw [hy]
          unfold DataW.weights
          rw [Tryz.underlying42]
          refine DataW.weights_mem_each (j := 0) (t := 9) (d := x0.1) rfl rfl _ ?_
          rw [hx0]
          exact List.mem_singleton.2 rfl
        have := hwt _ hm
        have e : s.data.toList.length = s.size := by simp
        unfold reachBytes at this
        omega
      exact ⟨⟨s, fu, kp, ag⟩, rfl, wf_i64b hw1, wf_i64b hw2, hs⟩
theorem turnCell_one (a : TurnV) : ∀ u ∈ turnCell a, u.oneCell' = true := by
  intro u hu
  simp [turnCell] at hu
  rcases hu with rfl | rfl | rfl | rfl <;> rfl

set_option maxRecDepth 100000 in
theorem kept_lifted (os : Os) (started : os.Started) (H : Type) (enc : TypeId × Value → H) :
    ReturnsInHanded {} Tryz.checked os 4 .any (fun w args => (Rows.houseKeptSpec.pre enc Tryz.prog Tryz.f4 [] false w args ∧ laidMetH Tryz.prog laidL w) ∧ sizedMet enc Tryz.prog Tryz.f4 (OpenSpec.ofChange Rows.houseKeptSpec) false w args)
      (Rows.houseKeptSpec.post enc Tryz.prog Tryz.f4 false true false false) := by
  refine lift_law started Tryz.func4 (by kernel_rfl) rfl (by kernel_rfl) (by kernel_rfl) (fun ds hd => ?_)
    (ChangeSpec.witness_shaped (enc := enc) (C := Tryz.checked) (os := os) (X := fun w _ => laidMetH Tryz.prog laidL w) false (WL os) #[.slice none 0 0, .slice none 0 0] 8 (WL_os os) (World.shaped_of_ZipB (by kernel_rfl) (by kernel_rfl)) (by kernel_rfl) (by kernel_rfl) (by kernel_rfl) (door_met os _)) ?_
  · rw [Tryz.params4] at hd
    match ds, hd with
    | [d0, d1], _ => rfl
  intro W base args ds ps hval0 hA0 _ hwt hG
  have hval : ∀ (j : Nat) t v, Tryz.f4.params[j]? = some t → args[j]? = some v → Value.okWide Tryz.prog W .any base t v := hval0
  have hA : DataW.TrodAll enc Tryz.prog W 0 (fun _ => true) true Tryz.f4.params.toList args.toList ds ps := hA0
  rw [Tryz.params4] at hA hval
  obtain ⟨v0, v1, d0, d1, p0, p1, rfl, rfl, rfl, h0, h1⟩ := trodAll_two hA
  obtain ⟨g, _, hgl, hgr⟩ := ints_arg Tryz.underlying35 (hval 0 35 v0 rfl rfl) h0 (hwt 0 35 d0 rfl rfl)
  obtain ⟨xss, hall, hlen, hrd⟩ := rd_arg Tryz.underlying36 cells42 (by omega) (hval 1 36 v1 rfl rfl) h1 (hwt 1 36 d1 rfl rfl) (fun c => ∃ a : TurnV, c = turnCell a ∧ (i64b a.fuse ∧ i64b a.keep ∧ a.line.size ≤ 140737488355328)) (fun n cs y h hl hw => by
    obtain ⟨a, rfl, h2⟩ := turn_of h hl hw
    exact ⟨⟨a, rfl, h2⟩, turnCell_one a⟩)
  obtain ⟨l, rfl, hl⟩ := map_of turnCell _ xss hall
  rw [List.length_map] at hlen hrd
  refine houseKept_any hG hgr (by omega) ?_ hl (by unfold maxLen at hlen; omega)
  exact hrd

theorem houseKept_row : Rows.HouseKeptSaid :=
  OpenClaim.holds_of_wide 4 Tryz.f4 rfl rfl rfl rfl rfl rfl rfl ⟨rfl, rfl, rfl, rfl, rfl⟩ rfl rfl rfl rfl rfl (by kernel_rfl) Tryz.func4 (by kernel_rfl)
    (of_decide_eq_true (by kernel_rfl)) (by unfold Func.isWrapper; first | (rw [if_pos (by decide +kernel)]; kernel_rfl) | (rw [if_neg (by decide +kernel)]; exact ⟨rfl, rfl⟩))
    (fun os started H enc _ => kept_lifted os started H enc)
theorem houseKept_card : Rows.HouseKeptCardSaid :=
  Claim7.holds_tied_plain_at .later [] [.data, .data, .data, .data, .sentinel, .sentinel, .funcs, .pinned] true (true, "e1f9eaf7faf200dff0944b4f49cc5ee0ac1904f278e3ecd769f4d01c586ff77e") true
    houseKept_row (fun _ h => by cases h) (by kernel_rfl) (fun _ h => by cases h) houseKept_row_tie rfl ⟨rfl, rfl⟩ (by kernel_rfl) rfl
    (fun f fn hf hfn => by
      obtain rfl : f = 4 := Option.some.inj ((show Tryz.prog.funcNamed "cubeb/cubeblaw09.HouseKept" = some 4 by kernel_rfl).symm.trans hf) |>.symm
      obtain rfl : fn = Tryz.f4 := (Option.some.inj (Tryz.func4.symm.trans hfn)).symm
      exact ⟨by kernel_rfl, fun j t ht => by
        rw [Tryz.params4] at ht
        have hm : t ∈ [35, 36] := by simpa using Array.mem_of_getElem? ht
        have hall : ([35, 36].all fun u => !Tryz.prog.wantsStandIn u) = true := by kernel_rfl
        exact (show Tryz.prog.wantsStandIn t = false by simpa using List.all_eq_true.1 hall t hm)⟩)
    (by kernel_rfl)
#print axioms houseKept_card
end Go.Proofs.YthdkamnclbfehaaGreatDoor
