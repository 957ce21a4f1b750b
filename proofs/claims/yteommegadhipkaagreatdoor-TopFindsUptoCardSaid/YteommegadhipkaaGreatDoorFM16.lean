/- From a walk to a row of the second form; arguments of a bound bulk, opened. -/
import Derived.Test.YteommegadhipkaaGreatDoorFM15
import Derived.Test.YteommegadhipkaaGreatDoorCards
import Derived.JoinedCond

/- From a walk to a row of the second form; arguments of a bound bulk, opened. -/
namespace Go.Proofs.YteommegadhipkaaGreatDoor
set_option linter.unusedSimpArgs false
set_option linter.unusedVariables false
set_option linter.unnecessarySimpa false
open Go Go.ChangeShapes Go.WideShapes Go.ChangeAt Go.WideMaps Go.WideElems Go.RowKit

set_option maxRecDepth 100000 in
theorem lift_upto {f : FuncId} {fn : Func} {s : ChangeSpec} {H : Type} {enc : TypeId × Value → H} {os : Os} {F : Stop.Interp} (started : os.Started) (hfn : Tryz.prog.funcs[f]? = some fn) (noInit : Tryz.prog.inits.idxOf? f = none)
    (hvars : s.vars = []) (hres : fn.resultTypes = #[4]) (hpar : (fn.params.toList.all fun t => Tryz.prog.readableRec t && decide (t < Tryz.prog.types.size)) = true)
    (hspec : ∀ ds : List (DataW H), ds.length = fn.params.toList.length → s.fn H ds = { results := [.lit (.bool true)], args := ds, vars := [] })
    (witness : ∃ (w : World) (tape : Tape) (i : Input), w.os = os ∧ (w.forCall tape i).Shaped Tryz.prog ∧ i.vars = [] ∧ Input.okWide Tryz.prog (w.forCall tape i) .any w.heap.size f i ∧
      (Rows.OpenSpec.upto s).preRow enc Tryz.prog fn [] false laidL (w.forCall tape i).memory i.args ∧ ({} : Assume).holds Tryz.prog (lone (Frame.enter Tryz.prog f i.args .normal) [] (w.forCall tape i)))
    (walk : ∀ (W : World) (base : Nat) (args : Array Value) (ds : List (DataW H)) (ps : List MemPlace), (∀ (j : Nat) t v, fn.params[j]? = some t → args[j]? = some v → Value.okWide Tryz.prog W .any base t v) →
      DataW.TrodAll enc Tryz.prog W 0 (fun _ => true) true fn.params.toList args.toList ds ps → (∀ x ∈ ps, x.block < W.heap.size) → (∀ (j : Nat) (t : TypeId) (d : DataW H), fn.params.toList[j]? = some t → ds[j]? = some d → ∀ n ∈ d.weights Tryz.prog t, n ≤ reachBytes) → Rows.uptoBulkAll ds ≤ 1048576 → Glob W → Calls Tryz.prog f args W (IdxPost W (.bool true))) :
    ReturnsInHanded {} Tryz.checked os f .any ((Rows.OpenSpec.upto s).preRow enc Tryz.prog fn [] false laidL) (((Rows.OpenSpec.upto s).at F).post enc Tryz.prog fn false true false false) := by
  refine returnsInHanded_of_calls (C := Tryz.checked) own started noInit witness ?_
  intro w tape i _ hsh _ hok hpre _
  obtain ⟨_, _, _, fn', hfn', _, _, _, _, hval⟩ := hok
  obtain rfl : fn' = fn := Option.some.inj (hfn'.symm.trans hfn)
  obtain ⟨⟨hp, hx⟩, hz⟩ := hpre
  obtain ⟨ds, gs, before, hw, _, hk⟩ := OpenSpec.pre_parts hp
  have hkk : Rows.uptoSmall H (ds ++ gs) = true := hk _ rfl
  have hwt := hz.weights hw
  have hW := DataW.Whole.of_heap (w' := w.forCall tape i) (by rfl) hw
  have hL : laidMetH Tryz.prog laidL (w.forCall tape i) := hx.of_heap (by rfl)
  have hG := glob_of_laid hL hsh
  have hW' := hW
  obtain ⟨p, q, hA, hV, rfl, _, _⟩ := hW
  have hv2 : (Rows.OpenSpec.upto s).vars = [] := hvars
  rw [hv2] at hV
  obtain ⟨rfl, rfl⟩ := trodVars_none hV
  rw [List.append_nil] at hkk
  unfold Rows.uptoSmall at hkk
  have hbk := of_decide_eq_true hkk
  have hlt : ∀ x ∈ p, x.block < (w.forCall tape i).heap.size := fun x hx => hW'.lt x (by simpa using hx)
  have hlen : ds.length = fn'.params.toList.length := trodAll_length hA
  have hwt2 : ∀ (j : Nat) (t : TypeId) (d : DataW H), fn'.params.toList[j]? = some t → ds[j]? = some d → ∀ n ∈ d.weights Tryz.prog t, n ≤ reachBytes := fun j t d h1 h2 n hn => by
    have hj := (List.getElem?_eq_some_iff.1 h1).1
    have hj2 := (List.getElem?_eq_some_iff.1 h2).1
    have := DataW.weights_mem_each (P := Tryz.prog) (ts := fn'.params.toList ++ (Rows.OpenSpec.upto s).bare.plain.varTypes Tryz.prog) (ds := ds ++ []) (j := j) (by rw [List.getElem?_append_left hj]; exact h1) (by rw [List.getElem?_append_left hj2]; exact h2) n hn
    have h3 := List.all_eq_true.1 hwt n this
    simpa using h3
  refine (walk (w.forCall tape i) w.heap.size i.args ds p hval hA hlt hwt2 hbk hG).mono fun e W' ⟨he, hk⟩ => ?_
  subst he
  have hs : ∀ es : List (DataW H), ((Rows.OpenSpec.upto s).at F).fn H es = s.fn H es := fun _ => rfl
  refine ChangeSpec.post_blind ⟨ds, [], p ++ [], [], p, [], hW', ?_, ?_, ?_, hk.toBelow.frame _, fun h => by cases h⟩
  · rw [List.append_nil, hs, hspec ds hlen, hres]
    exact trodAll_mk1 (shut_bool Tryz.underlying4 true)
  · rw [List.append_nil, hs, hspec ds hlen]
    exact args_stay hk.toBelow hpar hA hlt
  · rw [List.append_nil, hs, hspec ds hlen]
    have hv3 : ((Rows.OpenSpec.upto s).at F).vars = [] := hvars
    rw [hv3]
    exact rfl
theorem bulk_mem {H : Type} {d : DataW H} : ∀ {l : List (DataW H)}, d ∈ l → Rows.uptoBulk d ≤ Rows.uptoBulkAll l
  | x :: r, h => by
    simp only [Rows.uptoBulkAll]
    rcases List.mem_cons.1 h with rfl | q
    · omega
    · have := bulk_mem q; omega
theorem bulk_at {H : Type} {l : List (DataW H)} {j : Nat} {d : DataW H} (h : l[j]? = some d) : Rows.uptoBulk d ≤ Rows.uptoBulkAll l := bulk_mem (List.mem_of_getElem? h)
/-- The elements of a slice, each of a bound bulk. -/
def small {H : Type} (d : DataW H) : Prop := Rows.uptoBulk d ≤ 1048576
theorem small_elems {H : Type} {d : DataW H} (h : small d) {elems spare : List (DataW H)} (e : d = .slice elems spare) : ∀ y ∈ elems, small y := fun y hy => by
  subst e
  have h1 : Rows.uptoBulk (.slice elems spare) ≤ 1048576 := h
  simp only [Rows.uptoBulk] at h1
  have := bulk_mem hy
  unfold small
  omega
theorem small_str {H : Type} {y : DataW H} {s : ByteArray} (hy : y = .lit (.string s.data.toList)) (h : small y) : s.size ≤ 1048576 := by
  subst hy
  have h1 : Rows.uptoBulk (DataW.lit (H := H) (.string s.data.toList)) ≤ 1048576 := h
  simp only [Rows.uptoBulk] at h1
  have e : s.data.toList.length = s.size := by simp
  omega
set_option maxRecDepth 100000 in
theorem rd_argS {H : Type} {enc : TypeId × Value → H} {W : World} {base size : Nat} {t e : TypeId} {v : Value} {d : DataW H} {ps : List MemPlace} (ht : Tryz.prog.underlying t = some (.slice e)) (hc : Tryz.prog.cellsOf e = size) (h0 : 0 < size)
    (hval : Value.okWide Tryz.prog W .any base t v) (h : DataW.Trod enc Tryz.prog W 0 (fun _ => true) true t v d ps) (hsm : small d) (G : List Value → Prop)
    (hG : ∀ n cs y, DataW.trod enc Tryz.prog W 0 (fun _ => true) true n e cs = some y → cs.length = size → small y.1 → G cs ∧ ∀ u ∈ cs, u.oneCell' = true) :
    ∃ xss : List (List Value), (∀ c ∈ xss, G c) ∧ xss.length ≤ maxLen ∧ Rd W size v xss.length xss.flatten := by
  obtain ⟨ao, len, cap, rfl⟩ := okWide_slice ht hval
  obtain ⟨fuel, hf⟩ := h
  have hs : ∀ a, ao = some a → a.spot = none := fun a e => by
    subst e
    simp only [Value.okWide, ht, Cell.okWide, Cell.ok] at hval
    exact hval.2.2.2.1
  rcases Deep.open_slice ht hf with ⟨hcs, _⟩ | ⟨a, len', cap', m, n, D, Pl, hcs, _, hl, hm, hmm, hx, hel⟩
  · simp [Value.cells] at hcs
    obtain ⟨rfl, rfl, rfl⟩ := hcs
    exact ⟨[], (fun c hc => absurd hc (List.not_mem_nil)), Nat.zero_le _, Rd.nil _ _⟩
  · simp [Value.cells] at hcs
    obtain ⟨rfl, rfl, rfl⟩ := hcs
    simp only [if_true] at hmm
    rw [hc] at hel
    obtain ⟨b, o, sp⟩ := a
    obtain rfl : sp = none := hs _ rfl
    have hfi : ∀ i, i < len → ∃ cs', W.cells? 0 ((⟨b, o, none⟩ : Addr).add (i * size)) size = some cs' ∧ cs'.length = size ∧ (G cs' ∧ ∀ u ∈ cs', u.oneCell' = true) ∧ ∀ r, r < size → W.cell? ⟨b, o + (i * size + r), none⟩ = cs'[r]? := fun i hi => by
      obtain ⟨cs', h1, h2⟩ := hel i (by omega)
      obtain ⟨_, h3, h4⟩ := World.cells?_some h1
      have hd : d = .slice ((List.range len).map D) ((List.range (m - len)).map fun j => D (len + j)) := (Prod.mk.inj hx).1
      refine ⟨cs', h1, h3, hG _ _ _ h2 h3 (small_elems hsm hd (D i) (List.mem_map.2 ⟨i, List.mem_range.2 hi, rfl⟩)), fun r hr => ?_⟩
      rw [← h4 r hr, add_lit, add_lit, Nat.add_assoc]
    obtain ⟨f, hf'⟩ : ∃ f : Nat → List Value, ∀ i, i < len → (f i).length = size ∧ (G (f i) ∧ ∀ u ∈ f i, u.oneCell' = true) ∧ ∀ r, r < size → W.cell? ⟨b, o + (i * size + r), none⟩ = (f i)[r]? :=
      ⟨fun i => (W.cells? 0 ((⟨b, o, none⟩ : Addr).add (i * size)) size).getD [], fun i hi => by
        obtain ⟨cs', h1, h2, h3, h4⟩ := hfi i hi
        simp only [h1, Option.getD_some]
        exact ⟨h2, h3, h4⟩⟩
    have hmem : ∀ c ∈ (List.range len).map f, ∃ i, i < len ∧ f i = c := fun c hc' => by
      obtain ⟨i, hi, e⟩ := List.mem_map.1 hc'
      exact ⟨i, List.mem_range.1 hi, e⟩
    have hlen : ∀ c ∈ (List.range len).map f, c.length = size := fun c hc' => by
      obtain ⟨i, hi, rfl⟩ := hmem c hc'
      exact (hf' i hi).1
    have hll : ((List.range len).map f).length = len := by simp
    refine ⟨(List.range len).map f, fun c hc' => ?_, by rw [hll]; omega, ?_⟩
    · obtain ⟨i, hi, rfl⟩ := hmem c hc'
      exact (hf' i hi).2.1.1
    · refine ⟨flatten_len _ hlen, fun u hu => ?_, .inr ⟨b, o, cap, by rw [hll], by rw [hll]; exact hl, by omega, fun j u hu => ?_⟩⟩
      · obtain ⟨c, hc', hu'⟩ := List.mem_flatten.1 hu
        obtain ⟨i, hi, rfl⟩ := hmem c hc'
        exact (hf' i hi).2.1.2 u hu'
      · obtain ⟨i, r, c, rfl, hr, h1, h2⟩ := flatten_at h0 _ hlen j u hu
        have hi : i < len := by
          have := (List.getElem?_eq_some_iff.1 h1).1
          rwa [hll] at this
        have hci : f i = c := by
          rw [List.getElem?_map, List.getElem?_range hi] at h1
          exact Option.some.inj h1
        rw [(hf' i hi).2.2 r hr, hci]
        exact h2
set_option maxRecDepth 100000 in
theorem strs_argS {H : Type} {enc : TypeId × Value → H} {W : World} {base : Nat} {t : TypeId} {v : Value} {d : DataW H} {ps : List MemPlace} (ht : Tryz.prog.underlying t = some (.slice 9))
    (hval : Value.okWide Tryz.prog W .any base t v) (h : DataW.Trod enc Tryz.prog W 0 (fun _ => true) true t v d ps) (hwt : ∀ n ∈ d.weights Tryz.prog t, n ≤ reachBytes) (hsm : small d) :
    ∃ l : List ByteArray, (∀ s ∈ l, s.size ≤ 1048576) ∧ l.length ≤ 140737488355328 ∧ Rd W 1 v l.length (strCells l) := by
  obtain ⟨xss, hall, hlen, hrd⟩ := rd_argS ht cellsStr (by omega) hval h hsm (fun c => ∃ s : ByteArray, c = [.string s] ∧ s.size ≤ 1048576) (fun n cs y h hl hw => by
    obtain ⟨s, e, hy, _⟩ := DataW.trod_string Tryz.underlying9 h
    subst e
    exact ⟨⟨s, rfl, small_str (y := y.1) (by rw [hy]) hw⟩, fun u hu => by rw [List.mem_singleton.1 hu]; rfl⟩)
  obtain ⟨l, rfl, hl⟩ := map_of (fun s : ByteArray => [Value.string s]) _ xss hall
  rw [List.length_map, flat_strs] at hrd
  obtain ⟨ao, len, cap, hve, hb⟩ := arg_len ht bytesStr hval h hwt
  obtain ⟨ao', cap', hve', _⟩ := hrd.shape
  rw [hve] at hve'
  injection hve' with _ e _
  exact ⟨l, hl, by omega, hrd⟩
end Go.Proofs.YteommegadhipkaaGreatDoor
