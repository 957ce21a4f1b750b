/- strconv.Atoi and Itoa as the laws meet them. -/
import Derived.Test.YtkkjonkcjlnohaaGreatDoorSM11
import Derived.Lib.AtoiAllCases
import Derived.Lib.ItoaLen

/- strconv.Atoi and Itoa as the laws meet them. -/
namespace Go.Proofs.YtkkjonkcjlnohaaGreatDoor
set_option linter.unusedSimpArgs false
set_option linter.unusedVariables false
set_option linter.unnecessarySimpa false
open Go.RowKit

def atoiN (s : ByteArray) : Int := match Lib.atoiAll s.data.toList with | .ok v => v | .range => Lib.atoiSat s.data.toList | _ => 0
def atoiOk (s : ByteArray) : Bool := match Lib.atoiAll s.data.toList with | .ok _ => true | _ => false
def errV (b : Bool) (N : Nat) : Value := if b then .nilIface else .iface 230 (.pointer (some ⟨N, 0, none⟩))
def AtoiPost (w : World) (s : ByteArray) (e : Ending) (w' : World) : Prop :=
  ∃ N, e = .returned (.tuple #[.int .i64 (atoiN s), errV (atoiOk s) N]) ∧ Keep (fun _ => False) w w'
theorem atoi_any {w : World} {s : ByteArray} (hG : Glob w) (hs : s.size ≤ 4096) : Calls Tryz.prog 63 #[.string s] w (AtoiPost w s) := by
  rcases h : Lib.atoiAll s.data.toList with v | _ | _
  · refine (Tryz.strconv_Atoi_ok s (by omega) v h w).mono ?_
    rintro e w' ⟨rfl, hw⟩
    refine ⟨0, by simp [atoiN, atoiOk, h, errV], ?_⟩
    rcases hw with rfl | ⟨t, rfl⟩
    · exact Keep.refl _ _
    · exact convKeep _ _ _
  · obtain ⟨ev, h1, h2⟩ := hG.esyn
    refine (Any.strconv_Atoi_syntax Tryz.laysC172 s (by omega) h ev w h1 h2).mono ?_
    rintro e w' ⟨N, rfl, _, _, hk⟩
    exact ⟨N, by unfold atoiN atoiOk errV; rw [h]; rfl, Keep.ofBelow hk _⟩
  · obtain ⟨ev, h1, h2⟩ := hG.eran
    refine (Tryz.strconv_Atoi_range s (by omega) h ev w h1 h2).mono ?_
    rintro e w' ⟨N, rfl, _, _, hk⟩
    exact ⟨N, by simp [atoiN, atoiOk, h, errV], Keep.ofBelow hk _⟩

theorem atoiN_bounds (s : ByteArray) : -9223372036854775808 ≤ atoiN s ∧ atoiN s ≤ 9223372036854775807 := by
  unfold atoiN
  split
  · rename_i h; exact Lib.atoiAll_bounds h
  · exact Lib.atoiSat_bounds _
  · omega
theorem growB (w : World) (k : Nat) (os : Array Obj) : Below w.heap.size w (Sort.grow (w.drewN k) os) :=
  ⟨rfl, rfl, rfl, by simp [Sort.grow], fun i hi => by simp only [Sort.grow]; exact Array.getElem?_append_left hi⟩
/-- The decimal numeral of a number. -/
def itoaB (n : Int) : ByteArray := ⟨(Lib.itoa n).toArray⟩
theorem itoaB_size (n : Int) (h0 : -9223372036854775808 ≤ n) (h1 : n ≤ 9223372036854775807) : (itoaB n).size ≤ 21 := by
  have := Lib.itoa_length_le n h0 h1
  simpa [itoaB, ByteArray.size] using this
def ItoaPost (w : World) (n : Int) (e : Ending) (w' : World) : Prop := e = .returned (.string (itoaB n)) ∧ Keep (fun _ => False) w w'
theorem itoa_any {w : World} {n : Int} (hG : Glob w) (h0 : -9223372036854775808 ≤ n) (h1 : n ≤ 9223372036854775807) : Calls Tryz.prog 64 #[.int .i64 n] w (ItoaPost w n) := by
  refine (Tryz.strconv_Itoa n h0 h1 w hG.pow).mono ?_
  rintro e w' ⟨rfl, k, os, rfl⟩
  exact ⟨rfl, Keep.ofBelow (growB w k os) _⟩
end Go.Proofs.YtkkjonkcjlnohaaGreatDoor

/- The law's own decimal, at a number that is not negative: the same text as strconv.Itoa. -/
namespace Go.Proofs.YtkkjonkcjlnohaaGreatDoor
set_option linter.unusedSimpArgs false
set_option linter.unusedVariables false
set_option linter.unnecessarySimpa false
open Go.RowKit

theorem digit_cut (d : Nat) (h : d < 10) : (⟨#[48, 49, 50, 51, 52, 53, 54, 55, 56, 57]⟩ : ByteArray).extract d (d + 1) = ⟨#[UInt8.ofNat (48 + d)]⟩ := by
  match d, h with
  | 0, _ | 1, _ | 2, _ | 3, _ | 4, _ | 5, _ | 6, _ | 7, _ | 8, _ | 9, _ => decide
def DRel (n : Nat) (w : World) (v0 v3 : Value) (w' : World) : Prop :=
  ∃ (m : Nat) (s : ByteArray), v0 = .int .i64 m ∧ v3 = .string s ∧ m ≤ n ∧ s.size ≤ n - m ∧ Lib.decDigits m ++ s.data.toList = Lib.decDigits n ∧ w = w'
set_option maxHeartbeats 1000000 in
set_option maxRecDepth 100000 in
theorem decimalT_any {w : World} {n : Nat} (hn : n ≤ 1000) : Calls Tryz.prog 17 #[.int .i64 n] w fun e w' => e = .returned (.string (itoaB n)) ∧ w = w' := by
  go_enter Tryz.func17, Tryz.ntmps17
  go_wp2
  go_loopw [0, 3] (DRel n w) (fun v _ _ => (intOf v).toNat)
  case atStart => exact ⟨n, ⟨#[]⟩, rfl, rfl, Nat.le_refl _, Nat.zero_le _, List.append_nil _, rfl⟩
  case round =>
    obtain ⟨m, s, rfl, rfl, hm, hs, hd, rfl⟩ := hrel
    have HD := Lib.hid hd; clear hd
    by_cases h9 : 9 < m
    · have h9' : ((9 : Int) < (m : Int)) = True := by simp; omega
      go_wp2
      have hdm : Lib.decDigits m = Lib.decDigits (m / 10) ++ [UInt8.ofNat (48 + m % 10)] := by rw [Lib.decDigits, dif_neg (by omega)]
      rw [digit_cut (m % 10) (by omega)]
      have e : (m : Int) / 10 = ((m / 10 : Nat) : Int) := by omega
      rw [e]
      refine ⟨⟨m / 10, _, rfl, rfl, by omega, ?_, ?_, rfl⟩, ?_⟩
      · rw [ByteArray.size_append]
        show 1 + s.size ≤ _
        omega
      · rw [← HD.out, hdm]
        simp
      · simp only [intOf]; omega
    · have h9' : ((9 : Int) < (m : Int)) = False := by simp; omega
      go_wp2
      go_ret
      have hdm : Lib.decDigits m = [UInt8.ofNat (48 + m)] := by rw [Lib.decDigits, dif_pos (by omega)]
      refine ⟨?_, rfl⟩
      show Ending.returned (.string _) = _
      rw [digit_cut m (by omega)]
      have h := HD.out
      rw [hdm] at h
      congr 2
      apply ByteArray.ext; apply Array.toList_inj.1
      unfold itoaB
      rw [show Lib.itoa (n : Int) = Lib.decDigits n by simp [Lib.itoa_nonneg], ← h]
      simp
end Go.Proofs.YtkkjonkcjlnohaaGreatDoor
