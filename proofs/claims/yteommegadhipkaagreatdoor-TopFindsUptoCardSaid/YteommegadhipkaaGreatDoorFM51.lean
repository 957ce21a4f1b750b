/- cubebref09.spice, decimal, Line. -/
import Derived.Test.YteommegadhipkaaGreatDoorFM14
import Derived.Test.YteommegadhipkaaGreatDoorFM26
import Derived.Shelf.Strings.SlTrimAscii
import Derived.Deep.LoopGhost

/- cubebref09.spice, decimal, Line. -/
namespace Go.Proofs.YteommegadhipkaaGreatDoor
set_option linter.unusedSimpArgs false
set_option linter.unusedVariables false
set_option linter.unnecessarySimpa false
open Go.RowKit

theorem any_at {p : UInt8 → Bool} {l : List UInt8} {i : Nat} {x : UInt8} (h : l[i]? = some x) (hp : p x = true) : l.any p = true := List.any_eq_true.2 ⟨x, List.mem_of_getElem? h, hp⟩
theorem any_none {p : UInt8 → Bool} {l : List UInt8} (h : ∀ (i : Nat) (x : UInt8), l[i]? = some x → p x = false) : l.any p = false := by
  rw [List.any_eq_false]
  intro x hx
  obtain ⟨i, hi⟩ := List.getElem?_of_mem hx
  rw [h i x hi]
  exact Bool.false_ne_true
theorem splitL_any {w : World} {s : ByteArray} (hG : Glob w) (hs : s.size ≤ 2000000) : Calls Tryz.prog 8 #[.string s, .string ⟨#[32]⟩] w (SplitPost w s) := by
  obtain ⟨m, hm⟩ := hG.maxlen
  refine (Tryz.strings_Split s ⟨#[32]⟩ m w (by omega) hm (by decide)).mono ?_
  rintro e w' ⟨rfl, rfl⟩
  exact ⟨by rw [words_length], rfl⟩
set_option maxHeartbeats 1500000 in
set_option maxRecDepth 100000 in
theorem line_any {w : World} {s : ByteArray} (hG : Glob w) (hs : s.size ≤ 2000000) : Calls Tryz.prog 9 #[.string s] w (IdxPost w (.bool (isLineB s))) := by
  have hz : s.data.toList.length = s.size := by simp
  have HZ := Lib.hid hz
  have H101 := Lib.hid (splitL_any hG hs)
  obtain ⟨R, hR⟩ : ∃ R, isLineB s = R := ⟨_, rfl⟩
  have HR := Lib.hid hR
  rw [hR]
  clear hG hz hR
  go_enter Tryz.func9, Tryz.ntmps9
  go_wp2
  go_loopg [8] s.size (fun gh s8 wx => ∃ i : Nat, gh = s.size - i ∧ i ≤ s.size ∧ s8 = .int .i64 (i : Nat) ∧ w = wx ∧ ∀ j x, j < i → s.data.toList[j]? = some x → badB x = false)
  case atStart => exact ⟨0, rfl, Nat.zero_le _, rfl, rfl, fun j x h => by omega⟩
  case round =>
    obtain ⟨i, rfl, hi, rfl, rfl, h0⟩ := hrel
    have H0 := Lib.hid h0; clear h0
    by_cases hlt : i < s.size
    · have hjl : ((i : Int) < (s.size : Int)) = True := by simp; omega
      obtain ⟨x, hx⟩ : ∃ x : UInt8, s[i] = x := ⟨_, rfl⟩
      have hxl : s.data.toList[i]? = some x := by rw [← hx]; exact Lib.data_getElem? s i hlt
      have HXL := Lib.hid hxl
      by_cases h32 : x.toNat < 32
      · have hl32 : (((x.toNat : Nat) : Int) < 32) = True := by simp; omega
        have hr : R = false := by
          rw [← HR.out]; unfold isLineB
          rw [any_at hxl (show badB x = true by unfold badB; simp [h32])]
          simp
        have HRF := Lib.hid hr
        clear hxl hr h32
        go_wp2
        go_ret
        exact ⟨by rw [HRF.out]; rfl, Keep.refl _ _⟩
      · have hl32 : (((x.toNat : Nat) : Int) < 32) = False := by simp; omega
        by_cases h126 : 126 < x.toNat
        · have hg126 : ((126 : Int) < ((x.toNat : Nat) : Int)) = True := by simp; omega
          have hr : R = false := by
            rw [← HR.out]; unfold isLineB
            rw [any_at hxl (show badB x = true by unfold badB; simp [h126])]
            simp
          have HRF := Lib.hid hr
          clear hxl hr h32 h126
          go_wp2
          go_ret
          exact ⟨by rw [HRF.out]; rfl, Keep.refl _ _⟩
        · have hg126 : ((126 : Int) < ((x.toNat : Nat) : Int)) = False := by simp; omega
          have HB := Lib.hid (show badB x = false by unfold badB; simp [h32, h126])
          clear hxl h32 h126
          go_wp2
          go_roundg (s.size - (i + 1))
          case measure => omega
          case rel => exact ⟨i + 1, rfl, by omega, by go_num, rfl, fun j y hj hy => by
            (by_cases e : j = i
             · subst e; rw [HXL.out] at hy; cases hy; exact HB.out
             · exact H0.out j y (by omega) hy)⟩
    · have hie : i = s.size := by omega
      subst hie
      have hjl : ((s.size : Int) < (s.size : Int)) = False := by simp
      have HANY := Lib.hid (any_none (p := badB) (l := s.data.toList) (fun j x hj => H0.out j x (by have := (List.getElem?_eq_some_iff.1 hj).1; rw [HZ.out] at this; exact this) hj))
      obtain ⟨ws, hws⟩ : ∃ ws, words s = ws := ⟨_, rfl⟩
      have hwl : ws.length ≤ 2000001 := by
        have := Lib.countB_le ⟨#[32]⟩ (by decide) s.size s (Nat.le_refl _)
        rw [← hws, words_length]
        omega
      have HWS := Lib.hid hws
      go_wp2_with (go_at_call 8; refine H101.out.mono ?_; unfold SplitPost; rw [hws]; rintro e w1 ⟨rfl, hw1⟩; have hcell : ∀ j, j < ws.length → w1.cell? ⟨w.heap.size, 0 + j, none⟩ = some (.string (ws.getD j ByteArray.empty)) := (fun j hj => by rw [hw1, ← hws]; exact words_cell w s j (by rw [hws]; exact hj)); have HCE := Lib.hid hcell; have HK1 := Lib.hid (show Keep (fun _ => False) w w1 by rw [hw1]; exact (Keep.refl _ _).alloc _); clear hw1 hcell)
      clear hws
      go_loopg [25] ws.length (fun gh s25 wx => ∃ i : Nat, gh = ws.length - i ∧ i ≤ ws.length ∧ s25 = .int .i64 (i : Nat) ∧ w1 = wx ∧ ∀ j, j < i → ws.getD j ByteArray.empty ≠ ⟨#[]⟩)
      case atStart => exact ⟨0, rfl, Nat.zero_le _, rfl, rfl, fun j h => by omega⟩
      case round =>
        obtain ⟨i, rfl, hi, rfl, rfl, h0⟩ := hrel
        have H1 := Lib.hid h0; clear h0
        by_cases hlt2 : i < ws.length
        · have hjl2 : ((i : Int) < (ws.length : Int)) = True := by simp; omega
          have ci := HCE.out i hlt2
          rw [Nat.zero_add] at ci
          obtain ⟨x, hx⟩ : ∃ x, ws.getD i ByteArray.empty = x := ⟨_, rfl⟩
          rw [hx] at ci
          have HX := Lib.hid hx
          clear hx
          by_cases hxe : x = ⟨#[]⟩
          · have hxl : (x.toList == []) = true := by rw [hxe, Lib.toList_data]; rfl
            have hr : R = false := by
              rw [← HR.out]; unfold isLineB
              rw [HWS.out, (Lib.containsS_iff ws ⟨#[]⟩).2 (by rw [← hxe, ← HX.out]; simp [List.getD, List.getElem?_eq_getElem hlt2])]
              simp
            have HRF := Lib.hid hr
            clear hr hxe
            go_wp2
            go_ret
            exact ⟨by rw [HRF.out]; rfl, HK1.out⟩
          · have hxl : (x.toList == []) = false := by
              rw [beq_eq_false_iff_ne]
              intro e
              exact hxe (by rw [Lib.toList_data] at e; exact ByteArray.ext (Array.toList_inj.1 e))
            have HNE := Lib.hid hxe
            clear hxe
            go_wp2
            go_roundg (ws.length - (i + 1))
            case measure => omega
            case rel => exact ⟨i + 1, rfl, by omega, by go_num, rfl, fun j hj => by
              (by_cases e : j = i
               · subst e; rw [HX.out]; exact HNE.out
               · exact H1.out j (by omega))⟩
        · have hie : i = ws.length := by omega
          subst hie
          have hjl2 : ((ws.length : Int) < (ws.length : Int)) = False := by simp
          have hc : Lib.containsS ws ⟨#[]⟩ = false := by
            cases hc : Lib.containsS ws ⟨#[]⟩ with
            | false => rfl
            | true =>
              obtain ⟨j, hj, e⟩ := List.getElem_of_mem ((Lib.containsS_iff ws ⟨#[]⟩).1 hc)
              exact absurd (by simp [List.getD, List.getElem?_eq_getElem hj, e]) (H1.out j hj)
          have hr : R = decide (s.size ≤ 200) := by rw [← HR.out]; unfold isLineB; rw [HWS.out, hc, HANY.out]; simp
          by_cases h200 : s.size ≤ 200
          · have hle : ((s.size : Int) ≤ 200) = True := by simp; omega
            have HRF := Lib.hid (show R = true by rw [hr]; simpa using h200)
            clear hr hc h200
            go_wp2
            go_ret
            exact ⟨by rw [HRF.out]; rfl, HK1.out⟩
          · have hle : ((s.size : Int) ≤ 200) = False := by simp; omega
            have HRF := Lib.hid (show R = false by rw [hr]; simpa using h200)
            clear hr hc h200
            go_wp2
            go_ret
            exact ⟨by rw [HRF.out]; rfl, HK1.out⟩
end Go.Proofs.YteommegadhipkaaGreatDoor
