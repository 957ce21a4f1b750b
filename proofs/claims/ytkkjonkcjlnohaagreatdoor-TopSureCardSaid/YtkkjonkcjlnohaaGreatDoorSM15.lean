/- Arguments of a law, opened: slices of numbers and of strings, with their lengths' bounds. -/
import Derived.Test.YtkkjonkcjlnohaaGreatDoorSM7
import Derived.Test.YtkkjonkcjlnohaaGreatDoorSM13

/- Arguments of a law, opened: slices of numbers and of strings, with their lengths' bounds. -/
namespace Go.Proofs.YtkkjonkcjlnohaaGreatDoor
set_option linter.unusedSimpArgs false
set_option linter.unusedVariables false
set_option linter.unnecessarySimpa false
open Go Go.ChangeShapes Go.WideShapes Go.ChangeAt Go.WideMaps Go.WideElems Go.RowKit

set_option maxRecDepth 100000 in
theorem arg_len {H : Type} {enc : TypeId × Value → H} {W : World} {base : Nat} {t e : TypeId} {v : Value} {d : DataW H} {ps : List MemPlace} (ht : Tryz.prog.underlying t = some (.slice e)) (hb : 1 ≤ Tryz.prog.bytesOf e)
    (hval : Value.okWide Tryz.prog W .any base t v) (h : DataW.Trod enc Tryz.prog W 0 (fun _ => true) true t v d ps) (hwt : ∀ n ∈ d.weights Tryz.prog t, n ≤ reachBytes) : ∃ ao len cap, v = .slice ao len cap ∧ len ≤ 140737488355328 := by
  obtain ⟨ao, len, cap, rfl⟩ := okWide_slice ht hval
  obtain ⟨fuel, hf⟩ := h
  refine ⟨ao, len, cap, rfl, ?_⟩
  rcases Deep.open_slice ht hf with ⟨hcs, _⟩ | ⟨a, len', cap', m, n, D, Pl, hcs, _, hl, hm, hmm, hx, hel⟩
  · simp [Value.cells] at hcs
    obtain ⟨rfl, rfl, rfl⟩ := hcs
    exact Nat.zero_le _
  · simp [Value.cells] at hcs
    obtain ⟨rfl, rfl, rfl⟩ := hcs
    have hd : d = .slice ((List.range len).map D) ((List.range (m - len)).map fun j => D (len + j)) := (Prod.mk.inj hx).1
    have hw := hwt ((((List.range len).map D).length + ((List.range (m - len)).map fun j => D (len + j)).length) * Tryz.prog.bytesOf e) (by
      rw [hd]
      unfold DataW.weights
      rw [ht]
      exact List.mem_cons_self ..)
    simp only [List.length_map, List.length_range] at hw
    unfold reachBytes at hw
    have h2 : len * 1 ≤ (len + (m - len)) * Tryz.prog.bytesOf e := Nat.mul_le_mul (by omega) hb
    omega
theorem flat_ints (l : List Int) : (l.map fun n => [Value.int .i64 n]).flatten = icells l := by
  induction l with
  | nil => rfl
  | cons x l ih => simp only [List.map_cons, List.flatten_cons, ih]; rfl
theorem flat_strs (l : List ByteArray) : (l.map fun s => [Value.string s]).flatten = strCells l := by
  induction l with
  | nil => rfl
  | cons x l ih => simp only [List.map_cons, List.flatten_cons, ih]; rfl
theorem cellsInt : Tryz.prog.cellsOf 3 = 1 := by kernel_rfl
theorem cellsStr : Tryz.prog.cellsOf 9 = 1 := by kernel_rfl
theorem bytesInt : 1 ≤ Tryz.prog.bytesOf 3 := of_decide_eq_true (by kernel_rfl)
theorem bytesStr : 1 ≤ Tryz.prog.bytesOf 9 := of_decide_eq_true (by kernel_rfl)
theorem wf_i64b {n : Int} (h : (Lit.int .i64 n).wf = true) : i64b n := by
  simp only [Lit.wf, Bool.and_eq_true, decide_eq_true_eq] at h
  exact h
theorem str_weight {H : Type} {y : DataW H} {s : ByteArray} {t : TypeId} (hy : y = .lit (.string s.data.toList)) (hw : ∀ m ∈ y.weights Tryz.prog t, m ≤ reachBytes) : s.size ≤ 140737488355328 := by
  have := hw s.data.toList.length (by rw [hy]; unfold DataW.weights; exact List.mem_singleton.2 rfl)
  have e : s.data.toList.length = s.size := by simp
  unfold reachBytes at this
  omega
set_option maxRecDepth 100000 in
theorem ints_arg {H : Type} {enc : TypeId × Value → H} {W : World} {base : Nat} {t : TypeId} {v : Value} {d : DataW H} {ps : List MemPlace} (ht : Tryz.prog.underlying t = some (.slice 3))
    (hval : Value.okWide Tryz.prog W .any base t v) (h : DataW.Trod enc Tryz.prog W 0 (fun _ => true) true t v d ps) (hwt : ∀ n ∈ d.weights Tryz.prog t, n ≤ reachBytes) :
    ∃ l : List Int, (∀ n ∈ l, i64b n) ∧ l.length ≤ 140737488355328 ∧ Rd W 1 v l.length (icells l) := by
  obtain ⟨xss, hall, hlen, hrd⟩ := rd_arg ht cellsInt (by omega) hval h hwt (fun c => ∃ n : Int, c = [.int .i64 n] ∧ i64b n) (fun n cs y h hl hw => by
    obtain ⟨k, e, _, hk⟩ := DataW.trod_int Tryz.underlying3 h
    subst e
    exact ⟨⟨k, rfl, wf_i64b hk⟩, fun u hu => by rw [List.mem_singleton.1 hu]; rfl⟩)
  obtain ⟨l, rfl, hl⟩ := map_of (fun n : Int => [Value.int .i64 n]) _ xss hall
  rw [List.length_map, flat_ints] at hrd
  obtain ⟨ao, len, cap, hve, hb⟩ := arg_len ht bytesInt hval h hwt
  obtain ⟨ao', cap', hve', _⟩ := hrd.shape
  rw [hve] at hve'
  injection hve' with _ e _
  exact ⟨l, hl, by omega, hrd⟩
set_option maxRecDepth 100000 in
theorem strs_arg {H : Type} {enc : TypeId × Value → H} {W : World} {base : Nat} {t : TypeId} {v : Value} {d : DataW H} {ps : List MemPlace} (ht : Tryz.prog.underlying t = some (.slice 9))
    (hval : Value.okWide Tryz.prog W .any base t v) (h : DataW.Trod enc Tryz.prog W 0 (fun _ => true) true t v d ps) (hwt : ∀ n ∈ d.weights Tryz.prog t, n ≤ reachBytes) :
    ∃ l : List ByteArray, (∀ s ∈ l, s.size ≤ 140737488355328) ∧ l.length ≤ 140737488355328 ∧ Rd W 1 v l.length (strCells l) := by
  obtain ⟨xss, hall, hlen, hrd⟩ := rd_arg ht cellsStr (by omega) hval h hwt (fun c => ∃ s : ByteArray, c = [.string s] ∧ s.size ≤ 140737488355328) (fun n cs y h hl hw => by
    obtain ⟨s, e, hy, _⟩ := DataW.trod_string Tryz.underlying9 h
    subst e
    exact ⟨⟨s, rfl, str_weight (y := y.1) (by rw [hy]) hw⟩, fun u hu => by rw [List.mem_singleton.1 hu]; rfl⟩)
  obtain ⟨l, rfl, hl⟩ := map_of (fun s : ByteArray => [Value.string s]) _ xss hall
  rw [List.length_map, flat_strs] at hrd
  obtain ⟨ao, len, cap, hve, hb⟩ := arg_len ht bytesStr hval h hwt
  obtain ⟨ao', cap', hve', _⟩ := hrd.shape
  rw [hve] at hve'
  injection hve' with _ e _
  exact ⟨l, hl, by omega, hrd⟩
end Go.Proofs.YtkkjonkcjlnohaaGreatDoor
