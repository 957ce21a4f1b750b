/- HouseNobody: for every input the law returns true and leaves its arguments as they were, where the listed package-level variables hold what the program's text lays, whatever the two variables that are not listed hold; the tied card. -/
import Derived.Test.YtmiencgloondjaaGreatDoorNN14
import Derived.Test.YtmiencgloondjaaGreatDoorNN20
import Derived.Test.YtmiencgloondjaaGreatDoorNN24
import Derived.Test.YtmiencgloondjaaGreatDoorNN27
import Derived.Test.YtmiencgloondjaaGreatDoorNN25
import Derived.Test.YtmiencgloondjaaGreatDoorNN26
import Derived.Test.YtmiencgloondjaaGreatDoorCards
import Derived.SevenTiedAt

/- HouseNobody: for every input the law returns true and leaves its arguments as they were, where the listed package-level variables hold what the program's text lays, whatever the two variables that are not listed hold; the tied card. -/
namespace Go.Proofs.YtmiencgloondjaaGreatDoor
set_option linter.unusedSimpArgs false
set_option linter.unusedVariables false
set_option linter.unnecessarySimpa false
open Go Go.ChangeShapes Go.WideShapes Go.ChangeAt Go.WideMaps Go.WideElems Go.RowKit

theorem cells84 : Tryz.prog.cellsOf 93 = 2 := by kernel_rfl
theorem bytes84 : 1 ≤ Tryz.prog.bytesOf 93 := of_decide_eq_true (by kernel_rfl)
theorem flat_calls (l : List CallR) : (l.map callC).flatten = callsC l := by
  induction l with
  | nil => rfl
  | cons x l ih => simp only [List.map_cons, List.flatten_cons, ih]; rfl
set_option maxRecDepth 100000 in
theorem call_of {H : Type} {enc : TypeId × Value → H} {W : World} {n : Nat} {cs : List Value} {y : DataW H × List MemPlace} (h : DataW.trod enc Tryz.prog W 0 (fun _ => true) true n 93 cs = some y) (hl : cs.length = 2) (hwt : ∀ m ∈ y.1.weights Tryz.prog 93, m ≤ reachBytes) :
    ∃ a : CallR, cs = callC a ∧ a.2.size ≤ 140737488355328 := by
  obtain ⟨xs, m, _, hy, _, hxl, hf⟩ := DataW.trod_struct Tryz.underlying93 h
  match cs, hl with
  | [c0, c1], _ =>
    have f0 : DataW.trod enc Tryz.prog W 0 (fun _ => true) true m 3 (([c0, c1].drop 0).take (Tryz.prog.cellsOf 3)) = xs[0]? := hf 0 _ rfl
    have f1 : DataW.trod enc Tryz.prog W 0 (fun _ => true) true m 9 (([c0, c1].drop 1).take (Tryz.prog.cellsOf 9)) = xs[1]? := hf 1 _ rfl
    rw [cellsInt] at f0
    rw [cellsStr] at f1
    match xs, hxl with
    | [x0, x1], _ =>
      simp only [List.drop_zero, List.take_succ_cons, List.take_zero, List.drop_succ_cons, List.getElem?_cons_zero, List.getElem?_cons_succ] at f0 f1
      obtain ⟨k, e0, _, hw0⟩ := DataW.trod_int Tryz.underlying3 f0
      obtain ⟨s, e1, hx1, _⟩ := DataW.trod_string Tryz.underlying9 f1
      simp only [List.cons.injEq, and_true] at e0 e1
      subst e0 e1
      have hs : s.size ≤ 140737488355328 := by
        have hm : s.data.toList.length ∈ y.1.weights Tryz.prog 93 := by
          rw [hy]
          unfold DataW.weights
          rw [Tryz.underlying93]
          refine DataW.weights_mem_each (j := 1) (t := 9) (d := x1.1) rfl rfl _ ?_
          rw [hx1]
          exact List.mem_singleton.2 rfl
        have := hwt _ hm
        have e : s.data.toList.length = s.size := by simp
        unfold reachBytes at this
        omega
      exact ⟨(k, s), rfl, hs⟩
set_option maxRecDepth 100000 in
theorem calls_arg {H : Type} {enc : TypeId × Value → H} {W : World} {base : Nat} {v : Value} {d : DataW H} {ps : List MemPlace}
    (hval : Value.okWide Tryz.prog W .any base 24 v) (h : DataW.Trod enc Tryz.prog W 0 (fun _ => true) true 24 v d ps) (hwt : ∀ n ∈ d.weights Tryz.prog 24, n ≤ reachBytes) :
    ∃ l : List CallR, (∀ c ∈ l, c.2.size ≤ 140737488355328) ∧ l.length ≤ 140737488355328 ∧ Rd W 2 v l.length (callsC l) := by
  obtain ⟨xss, hall, hlen, hrd⟩ := rd_arg Tryz.underlying24 cells84 (by omega) hval h hwt (fun c => ∃ a : CallR, c = callC a ∧ a.2.size ≤ 140737488355328) (fun n cs y h hl hw => by
    obtain ⟨a, rfl, h2⟩ := call_of h hl hw
    exact ⟨⟨a, rfl, h2⟩, fun u hu => by simp [callC] at hu; rcases hu with rfl | rfl <;> rfl⟩)
  obtain ⟨l, rfl, hl⟩ := map_of callC _ xss hall
  rw [List.length_map, flat_calls] at hrd
  obtain ⟨ao, len, cap, hve, hb⟩ := arg_len Tryz.underlying24 bytes84 hval h hwt
  obtain ⟨ao', cap', hve', _⟩ := hrd.shape
  rw [hve] at hve'
  injection hve' with _ e _
  exact ⟨l, hl, by omega, hrd⟩

set_option maxRecDepth 100000 in
theorem houseNobody_lifted (os : Os) (started : os.Started) (H : Type) (enc : TypeId × Value → H) :
    ReturnsInHanded {} Tryz.checked os 3 .any (fun w args => (Rows.houseNobodySpec.pre enc Tryz.prog Tryz.f3 [] false w args ∧ laidMetH Tryz.prog laidL w) ∧ sizedMet enc Tryz.prog Tryz.f3 (OpenSpec.ofChange Rows.houseNobodySpec) false w args)
      (Rows.houseNobodySpec.post enc Tryz.prog Tryz.f3 false true false false) := by
  refine lift_law started Tryz.func3 (by kernel_rfl) rfl (by kernel_rfl) (by kernel_rfl) (fun ds hd => ?_)
    (ChangeSpec.witness_shaped (enc := enc) (C := Tryz.checked) (os := os) (X := fun w _ => laidMetH Tryz.prog laidL w) false (WL os) #[.slice none 0 0, .string ⟨#[]⟩, .int .i64 0, .slice none 0 0] 8 (WL_os os) (World.shaped_of_ZipB (by kernel_rfl) (by kernel_rfl)) (by kernel_rfl) (by kernel_rfl) (by kernel_rfl) (door_met os _)) ?_
  · rw [Tryz.params3] at hd
    match ds, hd with
    | [d0, d1, d2, d3], _ => rfl
  intro W base args ds ps hval0 hA0 _ hwt hG
  have hval : ∀ (j : Nat) t v, Tryz.f3.params[j]? = some t → args[j]? = some v → Value.okWide Tryz.prog W .any base t v := hval0
  have hA : DataW.TrodAll enc Tryz.prog W 0 (fun _ => true) true Tryz.f3.params.toList args.toList ds ps := hA0
  rw [Tryz.params3] at hA hval
  obtain ⟨v0, v1, v2, v3, d0, d1, d2, d3, p0, p1, p2, p3, rfl, rfl, rfl, h0, h1, h2, h3⟩ := trodAll_four hA
  obtain ⟨g, _, hgl, hgr⟩ := ints_arg Tryz.underlying23 (hval 0 23 v0 rfl rfl) h0 (hwt 0 23 d0 rfl rfl)
  obtain ⟨s, rfl, e1, rfl, _⟩ := Go.ChangeMaps.open_string Tryz.underlying9 (hval 1 9 v1 rfl rfl) h1
  have hs := str_weight e1 (hwt 1 9 d1 rfl rfl)
  obtain ⟨n, rfl, _, rfl, hn⟩ := open_int Tryz.underlying3 (hval 2 3 v2 rfl rfl) h2
  obtain ⟨cl, hcs, hcl, hcr⟩ := calls_arg (hval 3 24 v3 rfl rfl) h3 (hwt 3 24 d3 rfl rfl)
  exact houseNobody_any hG hgr (by omega) hs hcr (by omega)

theorem houseNobody_row : Rows.HouseNobodySaid :=
  OpenClaim.holds_of_wide 3 Tryz.f3 rfl rfl rfl rfl rfl rfl rfl ⟨rfl, rfl, rfl, rfl, rfl⟩ rfl rfl rfl rfl rfl houseNobody_name Tryz.func3 houseNobody_closed houseNobody_inst houseNobody_wrap
    (fun os started H enc _ => houseNobody_lifted os started H enc)
theorem houseNobody_card : Rows.HouseNobodyCardSaid :=
  Claim7.holds_tied_plain_at .later [] [.data, .data, .data, .data, .sentinel, .sentinel, .mapped, .funcs, .pinned] true (true, "a245d7e15bbf80e4a57d052e8149d1fddcafaf424d28f1f4a365a21e36ac9e75") true
    houseNobody_row (fun _ h => by cases h) houseNobody_wf (fun _ h => by cases h) houseNobody_row_tie rfl ⟨rfl, rfl⟩ houseNobody_main rfl
    (fun f fn hf hfn => by
      obtain rfl : f = 3 := Option.some.inj (houseNobody_fname.symm.trans hf) |>.symm
      obtain rfl : fn = Tryz.f3 := (Option.some.inj (Tryz.func3.symm.trans hfn)).symm
      exact ⟨houseNobody_looks, fun j t ht => by
        rw [Tryz.params3] at ht
        have hm : t ∈ [23, 9, 3, 24] := by simpa using Array.mem_of_getElem? ht
        have hall : ([23, 9, 3, 24].all fun u => !Tryz.prog.wantsStandIn u) = true := by kernel_rfl
        exact (show Tryz.prog.wantsStandIn t = false by simpa using List.all_eq_true.1 hall t hm)⟩)
    houseNobody_goes
#print axioms houseNobody_card
end Go.Proofs.YtmiencgloondjaaGreatDoor
