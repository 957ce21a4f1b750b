/- slices.Sort and slices.Compact of a slice of the call's own; the items of a change. -/
import Derived.Test.YteommegadhipkaaGreatDoorFM13
import Derived.Test.YteommegadhipkaaGreatDoorFM24
import Derived.Shelf.SlicesE.Compact
import Derived.Sort.OwnSortedInts

/- slices.Sort and slices.Compact of a slice of the call's own; the items of a change. -/
namespace Go.Proofs.YteommegadhipkaaGreatDoor
set_option linter.unusedSimpArgs false
set_option linter.unusedVariables false
set_option linter.unnecessarySimpa false
open Go.RowKit

def sortI (zs : List Int) : List Int := zs.mergeSort fun x y => decide (x ≤ y)
theorem sortI_length (zs : List Int) : (sortI zs).length = zs.length := List.length_mergeSort _

theorem sort_own {w : World} {base : Nat} {v : Value} {zs : List Int} (h : w.ownsRow base 3 1 v zs.length (icells zs)) (hl : zs.length < 4611686018427387904) :
    Calls Tryz.prog 29 #[v] w (fun e w' => e = .returned (.tuple #[]) ∧ w'.ownsRow base 3 1 v zs.length (icells (sortI zs)) ∧ Keep (fun k => v.ownBlock = some k) w w') := by
  rcases h.2 with ⟨rfl, h0⟩ | ⟨g, cap, cur, rfl, hb, hgg, hnc, hcm, hcs, htake⟩
  · have hz : zs = [] := List.eq_nil_of_length_eq_zero h0
    subst hz
    refine (Tryz.slices_Sort_int_none none 0 w).mono ?_
    rintro e w' ⟨rfl, rfl⟩
    have e0 : sortI [] = [] := by simp [sortI]
    rw [e0]
    exact ⟨rfl, World.ownsRow_nil _ _ _ _, Keep.refl _ _⟩
  · have ht : cur.toList.take zs.length = zs.map (Value.int .i64) := by rw [Nat.mul_one] at htake; exact htake
    have hlt : g < w.heap.size := (Array.getElem?_eq_some_iff.1 hgg).1
    refine (Tryz.slices_Sort_int g 0 cap zs w (holds_of_blockI hgg ht) hlt hl).mono ?_
    rintro e w' ⟨rfl, n, os, rfl⟩
    exact ⟨rfl, ownsRow_sortedI (sortI_length zs) hb hgg hnc hcm hcs, Keep.grown (grownBy_sortedI _)⟩

end Go.Proofs.YteommegadhipkaaGreatDoor
