/- slices.Equal at []string. -/
import Derived.Test.YthdkamnclbfehaaGreatDoorHouse
import Derived.Test.YthdkamnclbfehaaGreatDoorValid
namespace Go.Proofs.YthdkamnclbfehaaGreatDoor
set_option linter.unusedSimpArgs false
set_option linter.unusedVariables false
set_option linter.unnecessarySimpa false
open Go.RowKit

theorem strCells_length (l : List ByteArray) : (strCells l).length = l.length := by simp [strCells]
theorem strCells_get (l : List ByteArray) (j : Nat) (h : j < l.length) : (strCells l)[j]? = some (.string (l.getD j ByteArray.empty)) := by
  simp [strCells, List.getD, h]
def eqL (l m : List ByteArray) : Bool := decide (l = m)
theorem eqL_of {l m : List ByteArray} (hl : l.length = m.length) (h : ∀ i, i < l.length → l.getD i ByteArray.empty = m.getD i ByteArray.empty) : eqL l m = true := by
  unfold eqL
  refine decide_eq_true (List.ext_getElem hl fun i h1 h2 => ?_)
  have := h i h1
  simpa [List.getD, h1, h2] using this
theorem eqL_ne {l m : List ByteArray} {i : Nat} (h : l.getD i ByteArray.empty ≠ m.getD i ByteArray.empty) : eqL l m = false := decide_eq_false fun e => h (by rw [e])

set_option maxHeartbeats 1000000 in
set_option maxRecDepth 100000 in
theorem eqS_any {w : World} {u v : Value} {l m : List ByteArray} (hu : Rd w 1 u l.length (strCells l)) (hv : Rd w 1 v m.length (strCells m)) (hl : l.length < 9223372036854775807) :
    Calls Tryz.prog 21 #[u, v] w (DrawPost w (.bool (eqL l m))) := by
  obtain ⟨ao, cap, hue, _⟩ := hu.shape
  obtain ⟨bo, cap2, hve, _⟩ := hv.shape
  subst hue hve
  have HU := Lib.hid hu; clear hu
  have HV := Lib.hid hv; clear hv
  by_cases hlen : l.length = m.length
  · obtain ⟨n, hn⟩ : ∃ n, n = l.length := ⟨_, rfl⟩
    have hm : m.length = n := by omega
    rw [← hn] at hl
    have HN := Lib.hid hn
    have HM := Lib.hid hm
    rw [← hn, hm]
    clear hlen hn hm
    go_enter Tryz.func21, Tryz.ntmps21
    go_wp2
    go_loopw [13] (fun i wr => ∃ k q : Nat, k ≤ n ∧ i = .int .i64 k ∧ wr = w.drewN q ∧ ∀ i, i < k → l.getD i ByteArray.empty = m.getD i ByteArray.empty) (fun i _ => n - (intOf i).toNat)
    case atStart => exact ⟨0, 0, Nat.zero_le _, rfl, rfl, fun i h => by omega⟩
    case round =>
      obtain ⟨k, q, hk, rfl, rfl, h0⟩ := hrel
      have H0 := Lib.hid h0; clear h0
      by_cases hlt : k < n
      · obtain ⟨b, o, hao, ha⟩ : ∃ b o, ao = some ⟨b, o, none⟩ ∧ w.cell? ⟨b, o + k, none⟩ = some (.string (l.getD k ByteArray.empty)) := by
          rcases HU.out.2.2 with ⟨h, h'⟩ | ⟨b, o, c, h, _, _, hx⟩
          · have := HN.out; omega
          · cases h
            exact ⟨b, o, rfl, hx k _ (strCells_get l k (by have := HN.out; omega))⟩
        obtain ⟨b2, o2, hbo, hb⟩ : ∃ b o, bo = some ⟨b, o, none⟩ ∧ w.cell? ⟨b, o + k, none⟩ = some (.string (m.getD k ByteArray.empty)) := by
          rcases HV.out.2.2 with ⟨h, h'⟩ | ⟨b, o, c, h, _, _, hx⟩
          · have := HM.out; omega
          · cases h
            exact ⟨b, o, rfl, hx k _ (strCells_get m k (by have := HM.out; omega))⟩
        subst hao hbo
        obtain ⟨x, hx⟩ : ∃ x, l.getD k ByteArray.empty = x := ⟨_, rfl⟩
        obtain ⟨y, hy⟩ : ∃ x, m.getD k ByteArray.empty = x := ⟨_, rfl⟩
        rw [hx] at ha
        rw [hy] at hb
        have HX := Lib.hid hx
        have HY := Lib.hid hy
        clear hx hy
        have hlti : ((k : Int) < (n : Int)) = True := by simp; omega
        by_cases hne : x = y
        · have hne' : (x.toList == y.toList) = true := by rw [beq_dec]; exact decide_eq_true hne
          have HNE := Lib.hid hne; clear hne
          go_wp2
          go_quiet (fail)
          go_wp2
          go_roundw
          case rel =>
            refine ⟨k + 1, _, by omega, by go_num, rfl, fun i hi => ?_⟩
            by_cases hij : i = k
            · subst hij; rw [HX.out, HY.out]; exact HNE.out
            · exact H0.out i (by omega)
          case measure => simp [intOf]; omega
        · have hne' : (x.toList == y.toList) = false := by rw [beq_dec]; exact decide_eq_false hne
          have hF := Lib.hid (eqL_ne (l := l) (m := m) (i := k) (by rw [HX.out, HY.out]; exact hne))
          clear hne
          go_wp2
          go_quiet (fail)
          go_wp2
          go_ret
          exact ⟨by rw [hF.out]; rfl, q + nq, by simp [World.drewN, Nat.add_assoc]⟩
      · have hlti : ((k : Int) < (n : Int)) = False := by simp; omega
        have hF := Lib.hid (eqL_of (l := l) (m := m) (by rw [← HN.out, HM.out]) fun i hi => H0.out i (by have := HN.out; omega))
        go_wp2
        go_ret
        exact ⟨by rw [hF.out]; rfl, q, rfl⟩
  · have hF := Lib.hid (show eqL l m = false from decide_eq_false fun e => hlen (by rw [e]))
    have hd : ((l.length : Int) == (m.length : Int)) = false := by simp; omega
    have hd2 : ((l.length : Int) = (m.length : Int)) = False := by simp; omega
    clear hlen
    go_enter Tryz.func21, Tryz.ntmps21
    go_wp2
    go_ret
    exact ⟨by rw [hF.out]; rfl, 0, rfl⟩
end Go.Proofs.YthdkamnclbfehaaGreatDoor
