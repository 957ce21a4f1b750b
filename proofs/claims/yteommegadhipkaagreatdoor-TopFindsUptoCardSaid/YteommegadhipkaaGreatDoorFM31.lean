/- The different bytes of a list, rising. No Go function stands here. -/
import Derived.Test.YteommegadhipkaaGreatDoorFM28
import Derived.Lib.SlicesCompact

/- The different bytes of a list, rising. No Go function stands here. -/
namespace Go.Proofs.YteommegadhipkaaGreatDoor
set_option linter.unusedSimpArgs false
set_option linter.unusedVariables false
set_option linter.unnecessarySimpa false
open Go.RowKit

def intsB (l : List UInt8) : List Int := l.map fun c => (c.toNat : Int)
def srtI (l : List UInt8) : List Int := (intsB l).mergeSort fun x y => decide (x ≤ y)
def alI (l : List UInt8) : List Int := Lib.compact (srtI l)
def alB (l : List UInt8) : List UInt8 := (alI l).map fun z => UInt8.ofNat z.toNat
theorem compactUpTo_sorted (d : Array Int) (hs : ∀ i j, i ≤ j → j < d.size → d[i]! ≤ d[j]!) :
    ∀ m, m ≤ d.size → (Lib.compactUpTo d m).Pairwise (· < ·) ∧ (∀ j, j < m → d[j]! ∈ Lib.compactUpTo d m) ∧ ∀ x ∈ Lib.compactUpTo d m, ∃ j, j < m ∧ x = d[j]! := by
  intro m
  induction m with
  | zero => intro _; simp [Lib.compactUpTo]
  | succ m ih =>
    intro hm
    obtain ⟨h1, h2, h3⟩ := ih (by omega)
    rw [Lib.compactUpTo_succ]
    by_cases hk : Lib.keeps d m = true
    · rw [if_pos hk]
      refine ⟨List.pairwise_append.2 ⟨h1, by simp, fun x hx y hy => ?_⟩, fun j hj => ?_, fun x hx => ?_⟩
      · obtain rfl : y = d[m]! := by simpa using hy
        obtain ⟨j, hj, rfl⟩ := h3 x hx
        have hk' : m = 0 ∨ d[m]! ≠ d[m - 1]! := of_decide_eq_true hk
        rcases hk' with h | h
        · omega
        · have a := hs j (m - 1) (by omega) (by omega)
          have b := hs (m - 1) m (by omega) (by omega)
          omega
      · by_cases e : j = m
        · subst e; simp
        · exact List.mem_append_left _ (h2 j (by omega))
      · rcases List.mem_append.1 hx with h | h
        · obtain ⟨j, hj, e⟩ := h3 x h; exact ⟨j, by omega, e⟩
        · exact ⟨m, by omega, by simpa using h⟩
    · rw [if_neg hk, List.append_nil]
      have hk' : ¬ (m = 0 ∨ d[m]! ≠ d[m - 1]!) := fun h => hk (decide_eq_true h)
      have hm0 : m ≠ 0 := fun h => hk' (.inl h)
      have he : d[m]! = d[m - 1]! := Classical.byContradiction fun h => hk' (.inr h)
      refine ⟨h1, fun j hj => ?_, fun x hx => ?_⟩
      · by_cases e : j = m
        · subst e; rw [he]; exact h2 _ (by omega)
        · exact h2 j (by omega)
      · obtain ⟨j, hj, e⟩ := h3 x hx; exact ⟨j, by omega, e⟩
theorem srtI_perm (l : List UInt8) : (srtI l).Perm (intsB l) := List.mergeSort_perm _ _
theorem srtI_length (l : List UInt8) : (srtI l).length = l.length := by rw [(srtI_perm l).length_eq]; simp [intsB]
theorem srtI_rising (l : List UInt8) : ∀ i j, i ≤ j → j < (srtI l).toArray.size → (srtI l).toArray[i]! ≤ (srtI l).toArray[j]! := by
  have hp : (srtI l).Pairwise fun x y => decide (x ≤ y) = true := List.pairwise_mergeSort (fun a b c h1 h2 => by simp at *; omega) (fun a b => by simp; omega) _
  intro i j hij hj
  have hj' : j < (srtI l).length := by simpa using hj
  rw [getElem!_pos _ i (by simp; omega), getElem!_pos _ j hj]
  simp only [List.getElem_toArray]
  by_cases e : i = j
  · subst e; exact Int.le_refl _
  · have := List.pairwise_iff_getElem.1 hp i j (by omega) hj' (by omega)
    simpa using this
theorem alI_spec (l : List UInt8) : (alI l).Pairwise (· < ·) ∧ (∀ c ∈ l, (c.toNat : Int) ∈ alI l) ∧ ∀ z ∈ alI l, ∃ c ∈ l, z = (c.toNat : Int) := by
  have h := compactUpTo_sorted (srtI l).toArray (srtI_rising l) (srtI l).length (by simp)
  obtain ⟨h1, h2, h3⟩ := h
  have mem : ∀ z, z ∈ srtI l ↔ ∃ c ∈ l, z = (c.toNat : Int) := fun z => by
    rw [(srtI_perm l).mem_iff]
    unfold intsB
    rw [List.mem_map]
    exact ⟨fun ⟨c, hc, e⟩ => ⟨c, hc, e.symm⟩, fun ⟨c, hc, e⟩ => ⟨c, hc, e.symm⟩⟩
  refine ⟨h1, fun c hc => ?_, fun z hz => ?_⟩
  · obtain ⟨j, hj, e⟩ := List.getElem_of_mem ((mem _).2 ⟨c, hc, rfl⟩)
    have := h2 j hj
    rw [getElem!_pos _ j (by simpa using hj)] at this
    simp only [List.getElem_toArray] at this
    rw [e] at this
    exact this
  · obtain ⟨j, hj, e⟩ := h3 z hz
    refine (mem z).1 ?_
    rw [e, getElem!_pos _ j (by simpa using hj)]
    simp
theorem ofNat_toNat8 (c : UInt8) : UInt8.ofNat ((c.toNat : Int)).toNat = c := by simp
theorem alB_ints (l : List UInt8) : intsB (alB l) = alI l := by
  unfold intsB alB
  rw [List.map_map]
  conv => rhs; rw [← List.map_id (alI l)]
  apply List.map_congr_left
  intro z hz
  obtain ⟨c, _, rfl⟩ := (alI_spec l).2.2 z hz
  simp
theorem alB_rising (l : List UInt8) : (alB l).Pairwise (· < ·) := by
  unfold alB
  rw [List.pairwise_map]
  refine (alI_spec l).1.imp_of_mem ?_
  intro a b ha hb hab
  obtain ⟨c, _, rfl⟩ := (alI_spec l).2.2 a ha
  obtain ⟨d, _, rfl⟩ := (alI_spec l).2.2 b hb
  rw [ofNat_toNat8, ofNat_toNat8]
  have : c.toNat < d.toNat := by omega
  exact UInt8.lt_iff_toNat_lt.2 this
theorem alB_mem (l : List UInt8) : ∀ c ∈ l, c ∈ alB l := fun c hc => by
  unfold alB
  rw [List.mem_map]
  exact ⟨_, (alI_spec l).2.1 c hc, ofNat_toNat8 c⟩
theorem alB_length (l : List UInt8) : (alB l).length = (alI l).length := by simp [alB]
theorem alB_pos {l : List UInt8} (h : l ≠ []) : 1 ≤ (alB l).length := by
  obtain ⟨c, r, rfl⟩ := List.exists_cons_of_ne_nil h
  have := alB_mem (c :: r) c (by simp)
  exact List.length_pos_of_mem this
/-- The tree of a whole list. -/
def treeF (l : List UInt8) : WT := growF l (alB l)
theorem treeF_rank (l : List UInt8) (c : UInt8) {i : Nat} (hi : i ≤ l.length) : rankF (treeF l) c i = (l.take i).count c := rankF_count (alB_rising l) (alB_mem l) c hi
end Go.Proofs.YteommegadhipkaaGreatDoor
