/- The label of all spices and the reply to find: plain Lean. -/
import Derived.Test.YteommegadhipkaaGreatDoorFM37
import Derived.Test.YteommegadhipkaaGreatDoorFM27

/- The label of all spices and the reply to find: plain Lean. -/
namespace Go.Proofs.YteommegadhipkaaGreatDoor
set_option linter.unusedSimpArgs false
set_option linter.unusedVariables false
set_option linter.unnecessarySimpa false
open Go.RowKit

/-- A lot as the label needs it. -/
def LotZ (x : Lot) : Prop := LotK x ∧ x.spice.size ≤ 8
def labL (l : List Lot) : List UInt8 := l.flatMap fun x => x.spice.data.toList ++ [32]
theorem labL_take {l : List Lot} {k : Nat} (h : k < l.length) : labL (l.take (k + 1)) = labL (l.take k) ++ ((l.getD k d0).spice.data.toList ++ [32]) := by
  have e : l.getD k d0 = l[k] := by simp [List.getD, h]
  rw [List.take_succ_eq_append_getElem h, e]
  unfold labL
  rw [List.flatMap_append]
  simp
theorem labL_len {l : List Lot} (h : ∀ x ∈ l, LotZ x) : (labL l).length ≤ 9 * l.length := by
  induction l with
  | nil => simp [labL]
  | cons a l ih =>
    have h1 := ih (fun x hx => h x (List.mem_cons_of_mem _ hx))
    have h2 := (h a (List.mem_cons_self ..)).2
    have hz : a.spice.data.toList.length = a.spice.size := by simp
    show ((a.spice.data.toList ++ [32]) ++ labL l).length ≤ _
    rw [List.length_append, List.length_append, List.length_cons]
    simp only [List.length_cons, List.length_nil]
    omega
theorem spice_good {s : ByteArray} (h : s.data.toList.any badS = false) : s.data.toList.any badB = false := by
  rw [List.any_eq_false] at h ⊢
  intro c hc
  have := h c hc
  unfold badS at this
  unfold badB
  simp only [Bool.or_eq_true, decide_eq_true_eq, not_or] at this ⊢
  omega
theorem labL_good {l : List Lot} (h : ∀ x ∈ l, LotZ x) : (labL l).any badB = false := by
  rw [List.any_eq_false]
  intro c hc
  obtain ⟨x, hx, hc⟩ := List.mem_flatMap.1 hc
  rcases List.mem_append.1 hc with hc | hc
  · exact List.any_eq_false.1 (spice_good (h x hx).1.1) c hc
  · rw [List.mem_singleton.1 hc]; decide
def labB (l : List Lot) : ByteArray := ⟨(labL l).toArray⟩
theorem labB_size (l : List Lot) : (labB l).size = (labL l).length := by simp [labB, ByteArray.size]
theorem labB_valid {l : List Lot} (h : ∀ x ∈ l, LotZ x) (hl : l.length ≤ 20) : validT (labB l) = true := by
  have h1 := labL_len h
  have h2 := labL_good h
  unfold validT
  rw [labB_size]
  have e : (labB l).data.toList = labL l := by simp [labB]
  rw [e, h2]
  simp
  omega
theorem labB_take {l : List Lot} {k : Nat} (h : k < l.length) : labB (l.take (k + 1)) = labB (l.take k) ++ ((l.getD k d0).spice ++ bs [32]) := by
  apply ByteArray.ext; apply Array.toList_inj.1
  simp [labB, labL_take h, bs]

/-- The reply's text. -/
def findN (l : List Int) : Nat → ByteArray
  | 0 => bs [102, 105, 110, 100]
  | k + 1 => findN l k ++ (bs [32] ++ itoaB (l.getD k 0))
def locB (l : List Lot) (p : ByteArray) : List Int := locI (labL l) (Lib.bitLen ((labL l).length + 1)) p.data.toList
def fndF (l : List Lot) (p : ByteArray) : ByteArray := findN (locB l p) (locB l p).length
theorem locB_mem (l : List Lot) (p : ByteArray) : ∀ x ∈ locB l p, ∃ m : Nat, x = m ∧ m ≤ (labL l).length := by
  intro x hx
  unfold locB locI at hx
  have h1 := (List.mergeSort_perm _ _).mem_iff.1 hx
  obtain ⟨m, hm, rfl⟩ := List.mem_map.1 h1
  refine ⟨m, rfl, ?_⟩
  unfold locR at hm
  exact sufL_le _ _ m (List.mem_of_mem_take (List.mem_of_mem_drop hm))
theorem locB_len (l : List Lot) (p : ByteArray) : (locB l p).length ≤ (labL l).length + 1 := by
  unfold locB locI
  rw [sortI_length, List.length_map]
  exact locR_len _ _ _
theorem findN_size {l : List Int} (h : ∀ x ∈ l, ∃ m : Nat, x = m ∧ m ≤ 200) : ∀ k, k ≤ l.length → (findN l k).size ≤ 4 + 22 * k := by
  intro k
  induction k with
  | zero => intro _; simp [findN, bs, ByteArray.size]
  | succ k ih =>
    intro hk
    have h1 := ih (by omega)
    have e : l.getD k 0 = l[k] := by simp [List.getD, show k < l.length by omega]
    obtain ⟨m, hm, hm2⟩ := h l[k] (List.getElem_mem _)
    have h2 := itoaB_size (l.getD k 0) (by rw [e, hm]; omega) (by rw [e, hm]; omega)
    show (findN l k ++ (bs [32] ++ itoaB (l.getD k 0))).size ≤ _
    rw [ByteArray.size_append, ByteArray.size_append]
    have h3 : (bs [32]).size = 1 := rfl
    omega
/-- A lot's word with two colons behind it, split. -/
theorem parts_cc {i : Nat} {x : Lot} (h : LotK x) : splC 58 (lotS i x ++ ⟨#[58, 58]⟩) = partsOf i x ++ [bs [], bs []] := by
  have e : lotS i x ++ ⟨#[58, 58]⟩ = jbs (partsOf i x ++ [bs [], bs []]) (bs [58]) := by
    apply ByteArray.ext; apply Array.toList_inj.1
    simp [lotS, partsOf, jbs, Lib.join_cons, Lib.joinTail, bs]
  rw [e]
  refine splC_join 58 _ _ (fun y hy hc => ?_)
  have hy' : y ∈ partsOf i x ++ [bs [], bs []] := by simpa [partsOf] using hy
  rcases List.mem_append.1 hy' with hy2 | hy2
  · exact (parts_ok (i := i) h y hy2 58 hc).1 rfl
  · simp at hy2; subst hy2; simp [bs] at hc
end Go.Proofs.YteommegadhipkaaGreatDoor
