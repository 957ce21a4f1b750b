/- HouseDisks: for every input the law returns true and leaves its arguments as they were, where the listed package-level variables hold what the program's text lays; the tied card. -/
import Derived.Test.YthdkamnclbfehaaGreatDoorArgs
import Derived.Test.YthdkamnclbfehaaGreatDoorLawDisks
import Derived.Test.YthdkamnclbfehaaGreatDoorCards
import Derived.SevenTiedAt
namespace Go.Proofs.YthdkamnclbfehaaGreatDoor
set_option linter.unusedSimpArgs false
set_option linter.unusedVariables false
set_option linter.unnecessarySimpa false
open Go Go.ChangeShapes Go.WideShapes Go.ChangeAt Go.WideMaps Go.WideElems Go.RowKit

theorem cells30 : Tryz.prog.cellsOf 30 = 4 := by kernel_rfl
theorem cells3 : Tryz.prog.cellsOf 3 = 1 := by kernel_rfl
theorem cells28 : Tryz.prog.cellsOf 28 = 1 := by kernel_rfl
theorem cells9' : Tryz.prog.cellsOf 9 = 1 := by kernel_rfl
set_option maxRecDepth 100000 in
theorem act_of {H : Type} {enc : TypeId × Value → H} {W : World} {n : Nat} {cs : List Value} {y : DataW H × List MemPlace} (h : DataW.trod enc Tryz.prog W 0 (fun _ => true) true n 30 cs = some y) (hl : cs.length = 4) (hwt : ∀ m ∈ y.1.weights Tryz.prog 30, m ≤ reachBytes) :
    ∃ a : ActV, cs = actCell a ∧ a.n ≤ 9223372036854775807 ∧ a.line.size ≤ 140737488355328 := by
  obtain ⟨xs, m, _, hy, _, hxl, hf⟩ := DataW.trod_struct Tryz.underlying30 h
  match cs, hl with
  | [c0, c1, c2, c3], _ =>
    have f0 : DataW.trod enc Tryz.prog W 0 (fun _ => true) true m 3 (([c0, c1, c2, c3].drop 0).take (Tryz.prog.cellsOf 3)) = xs[0]? := hf 0 _ rfl
    have f1 : DataW.trod enc Tryz.prog W 0 (fun _ => true) true m 3 (([c0, c1, c2, c3].drop 1).take (Tryz.prog.cellsOf 3)) = xs[1]? := hf 1 _ rfl
    have f2 : DataW.trod enc Tryz.prog W 0 (fun _ => true) true m 9 (([c0, c1, c2, c3].drop 2).take (Tryz.prog.cellsOf 9)) = xs[2]? := hf 2 _ rfl
    have f3 : DataW.trod enc Tryz.prog W 0 (fun _ => true) true m 28 (([c0, c1, c2, c3].drop 3).take (Tryz.prog.cellsOf 28)) = xs[3]? := hf 3 _ rfl
    rw [cells3] at f0 f1
    rw [cells9'] at f2
    rw [cells28] at f3
    match xs, hxl with
    | [x0, x1, x2, x3], _ =>
      simp only [List.drop_zero, List.take_succ_cons, List.take_zero, List.drop_succ_cons, List.getElem?_cons_zero, List.getElem?_cons_succ] at f0 f1 f2 f3
      obtain ⟨k, e0, _, _⟩ := DataW.trod_int Tryz.underlying3 f0
      obtain ⟨n, e1, _, hw⟩ := DataW.trod_int Tryz.underlying3 f1
      obtain ⟨s, e2, hx2, _⟩ := DataW.trod_string Tryz.underlying9 f2
      have e3 : ∃ co cn cc, c3 = .slice co cn cc := by
        rcases Deep.open_slice Tryz.underlying28 f3 with ⟨e, _⟩ | ⟨a, len, cap, _, _, _, _, e, _⟩
        · exact ⟨none, 0, 0, by simpa using e⟩
        · exact ⟨some a, len, cap, by simpa using e⟩
      obtain ⟨co, cn, cc, rfl⟩ := e3
      simp only [List.cons.injEq, and_true] at e0 e1 e2
      subst e0 e1 e2
      have hn : n ≤ 9223372036854775807 := by
        simp only [Lit.wf, Bool.and_eq_true, decide_eq_true_eq] at hw
        exact hw.2
      have hs : s.size ≤ 140737488355328 := by
        have hm : s.data.toList.length ∈ y.1.weights Tryz.prog 30 := by
          rw [hy]
          unfold DataW.weights
          rw [Tryz.underlying30]
          refine DataW.weights_mem_each (j := 2) (t := 9) (d := x2.1) rfl rfl _ ?_
          rw [hx2]
          exact List.mem_singleton.2 rfl
        have := hwt _ hm
        have e : s.data.toList.length = s.size := by simp
        unfold reachBytes at this
        omega
      exact ⟨⟨k, n, s, co, cn, cc⟩, rfl, hn, hs⟩
theorem actCell_one (a : ActV) : ∀ u ∈ actCell a, u.oneCell' = true := by
  intro u hu
  simp [actCell] at hu
  rcases hu with rfl | rfl | rfl | rfl <;> rfl

set_option maxRecDepth 100000 in
theorem disks_lifted (os : Os) (started : os.Started) (H : Type) (enc : TypeId × Value → H) :
    ReturnsInHanded {} Tryz.checked os 3 .any (fun w args => (Rows.houseDisksSpec.pre enc Tryz.prog Tryz.f3 [] false w args ∧ laidMetH Tryz.prog laidL w) ∧ sizedMet enc Tryz.prog Tryz.f3 (OpenSpec.ofChange Rows.houseDisksSpec) false w args)
      (Rows.houseDisksSpec.post enc Tryz.prog Tryz.f3 false true false false) := by
  refine lift_law started Tryz.func3 (by kernel_rfl) rfl (by kernel_rfl) (by kernel_rfl) (fun ds hd => ?_)
    (ChangeSpec.witness_shaped (enc := enc) (C := Tryz.checked) (os := os) (X := fun w _ => laidMetH Tryz.prog laidL w) false (WL os) #[.int .i64 0, .slice none 0 0] 8 (WL_os os) (World.shaped_of_ZipB (by kernel_rfl) (by kernel_rfl)) (by kernel_rfl) (by kernel_rfl) (by kernel_rfl) (door_met os _)) ?_
  · rw [Tryz.params3] at hd
    match ds, hd with
    | [d0, d1], _ => rfl
  intro W base args ds ps hval0 hA0 _ hwt hG
  have hval : ∀ (j : Nat) t v, Tryz.f3.params[j]? = some t → args[j]? = some v → Value.okWide Tryz.prog W .any base t v := hval0
  have hA : DataW.TrodAll enc Tryz.prog W 0 (fun _ => true) true Tryz.f3.params.toList args.toList ds ps := hA0
  rw [Tryz.params3] at hA hval
  obtain ⟨v0, v1, d0, d1, p0, p1, rfl, rfl, rfl, h0, h1⟩ := trodAll_two hA
  obtain ⟨size, rfl, rfl, rfl, _⟩ := open_int Tryz.underlying3 (hval 0 3 v0 rfl rfl) h0
  obtain ⟨xss, hall, hlen, hrd⟩ := rd_arg Tryz.underlying22 cells30 (by omega) (hval 1 22 v1 rfl rfl) h1 (hwt 1 22 d1 rfl rfl) (fun c => ∃ a : ActV, c = actCell a ∧ (a.n ≤ 9223372036854775807 ∧ a.line.size ≤ 140737488355328)) (fun n cs y h hl hw => by
    obtain ⟨a, rfl, h2⟩ := act_of h hl hw
    exact ⟨⟨a, rfl, h2⟩, actCell_one a⟩)
  obtain ⟨l, rfl, hl⟩ := map_of actCell _ xss hall
  rw [List.length_map] at hlen hrd
  refine houseDisks_any hG ?_ hl (by unfold maxLen at hlen; omega)
  exact hrd

theorem houseDisks_row : Rows.HouseDisksSaid :=
  OpenClaim.holds_of_wide 3 Tryz.f3 rfl rfl rfl rfl rfl rfl rfl ⟨rfl, rfl, rfl, rfl, rfl⟩ rfl rfl rfl rfl rfl (by kernel_rfl) Tryz.func3 (by kernel_rfl)
    (of_decide_eq_true (by kernel_rfl)) (by unfold Func.isWrapper; first | (rw [if_pos (by decide +kernel)]; kernel_rfl) | (rw [if_neg (by decide +kernel)]; exact ⟨rfl, rfl⟩))
    (fun os started H enc _ => disks_lifted os started H enc)
theorem houseDisks_card : Rows.HouseDisksCardSaid :=
  Claim7.holds_tied_plain_at .later [] [.data, .data, .data, .data, .sentinel, .sentinel, .funcs, .pinned] true (true, "e1f9eaf7faf200dff0944b4f49cc5ee0ac1904f278e3ecd769f4d01c586ff77e") true
    houseDisks_row (fun _ h => by cases h) (by kernel_rfl) (fun _ h => by cases h) houseDisks_row_tie rfl ⟨rfl, rfl⟩ (by kernel_rfl) rfl
    (fun f fn hf hfn => by
      obtain rfl : f = 3 := Option.some.inj ((show Tryz.prog.funcNamed "cubeb/cubeblaw09.HouseDisks" = some 3 by kernel_rfl).symm.trans hf) |>.symm
      obtain rfl : fn = Tryz.f3 := (Option.some.inj (Tryz.func3.symm.trans hfn)).symm
      exact ⟨by kernel_rfl, fun j t ht => by
        rw [Tryz.params3] at ht
        have hm : t ∈ [3, 22] := by simpa using Array.mem_of_getElem? ht
        have hall : ([3, 22].all fun u => !Tryz.prog.wantsStandIn u) = true := by kernel_rfl
        exact (show Tryz.prog.wantsStandIn t = false by simpa using List.all_eq_true.1 hall t hm)⟩)
    (by kernel_rfl)
#print axioms houseDisks_card
end Go.Proofs.YthdkamnclbfehaaGreatDoor
