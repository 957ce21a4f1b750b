/- strconv.Atoi and Itoa as the laws meet them. -/
import Derived.Test.YtmiencgloondjaaGreatDoorNN11
import Derived.Lib.AtoiAllCases
import Derived.Lib.ItoaLen

/- strconv.Atoi and Itoa as the laws meet them. -/
namespace Go.Proofs.YtmiencgloondjaaGreatDoor
set_option linter.unusedSimpArgs false
set_option linter.unusedVariables false
set_option linter.unnecessarySimpa false
open Go.RowKit

def atoiN (s : ByteArray) : Int := match Lib.atoiAll s.data.toList with | .ok v => v | .range => Lib.atoiSat s.data.toList | _ => 0
def atoiOk (s : ByteArray) : Bool := match Lib.atoiAll s.data.toList with | .ok _ => true | _ => false
def errV (b : Bool) (N : Nat) : Value := if b then .nilIface else .iface 250 (.pointer (some ⟨N, 0, none⟩))
def AtoiPost (w : World) (s : ByteArray) (e : Ending) (w' : World) : Prop :=
  ∃ N, e = .returned (.tuple #[.int .i64 (atoiN s), errV (atoiOk s) N]) ∧ Keep (fun _ => False) w w'
theorem atoi_any {w : World} {s : ByteArray} (hG : Glob w) (hs : s.size ≤ 4096) : Calls Tryz.prog 51 #[.string s] w (AtoiPost w s) := by
  rcases h : Lib.atoiAll s.data.toList with v | _ | _
  · refine (Tryz.strconv_Atoi_ok s (by omega) v h w).mono ?_
    rintro e w' ⟨rfl, hw⟩
    refine ⟨0, by simp [atoiN, atoiOk, h, errV], ?_⟩
    rcases hw with rfl | ⟨t, rfl⟩
    · exact Keep.refl _ _
    · exact convKeep _ _ _
  · obtain ⟨ev, h1, h2⟩ := hG.esyn
    refine (Any.strconv_Atoi_syntax Tryz.laysC172 s (by omega) h ev w h1 h2).mono ?_
    rintro e w' ⟨N, rfl, _, _, hk⟩
    exact ⟨N, by unfold atoiN atoiOk errV; rw [h]; rfl, Keep.ofBelow hk _⟩
  · obtain ⟨ev, h1, h2⟩ := hG.eran
    refine (Tryz.strconv_Atoi_range s (by omega) h ev w h1 h2).mono ?_
    rintro e w' ⟨N, rfl, _, _, hk⟩
    exact ⟨N, by simp [atoiN, atoiOk, h, errV], Keep.ofBelow hk _⟩

theorem atoiN_bounds (s : ByteArray) : -9223372036854775808 ≤ atoiN s ∧ atoiN s ≤ 9223372036854775807 := by
  unfold atoiN
  split
  · rename_i h; exact Lib.atoiAll_bounds h
  · exact Lib.atoiSat_bounds _
  · omega
theorem growB (w : World) (k : Nat) (os : Array Obj) : Below w.heap.size w (Sort.grow (w.drewN k) os) :=
  ⟨rfl, rfl, rfl, by simp [Sort.grow], fun i hi => by simp only [Sort.grow]; exact Array.getElem?_append_left hi⟩
/-- The decimal numeral of a number. -/
def itoaB (n : Int) : ByteArray := ⟨(Lib.itoa n).toArray⟩
theorem itoaB_size (n : Int) (h0 : -9223372036854775808 ≤ n) (h1 : n ≤ 9223372036854775807) : (itoaB n).size ≤ 21 := by
  have := Lib.itoa_length_le n h0 h1
  simpa [itoaB, ByteArray.size] using this
def ItoaPost (w : World) (n : Int) (e : Ending) (w' : World) : Prop := e = .returned (.string (itoaB n)) ∧ Keep (fun _ => False) w w'
theorem itoa_any {w : World} {n : Int} (hG : Glob w) (h0 : -9223372036854775808 ≤ n) (h1 : n ≤ 9223372036854775807) : Calls Tryz.prog 52 #[.int .i64 n] w (ItoaPost w n) := by
  refine (Tryz.strconv_Itoa n h0 h1 w hG.pow).mono ?_
  rintro e w' ⟨rfl, k, os, rfl⟩
  exact ⟨rfl, Keep.ofBelow (growB w k os) _⟩
end Go.Proofs.YtmiencgloondjaaGreatDoor
