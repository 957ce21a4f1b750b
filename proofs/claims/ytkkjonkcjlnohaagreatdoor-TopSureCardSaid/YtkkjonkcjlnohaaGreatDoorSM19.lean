/- chordal.Graph's valid: it answers whether the slice is a graph, for every slice of ints. -/
import Derived.Test.YtkkjonkcjlnohaaGreatDoorSM5
import Derived.Test.YtkkjonkcjlnohaaGreatDoorSM16

/- chordal.Graph's valid: it answers whether the slice is a graph, for every slice of ints. -/
namespace Go.Proofs.YtkkjonkcjlnohaaGreatDoor
set_option linter.unusedSimpArgs false
set_option linter.unusedVariables false
set_option linter.unnecessarySimpa false
open Go.RowKit

def rowOk (g : List Int) (i : Nat) : Prop :=
  0 ≤ g.getD i 0 ∧ g.getD i 0 < 2 ^ g.length ∧ g.getD i 0 / 2 ^ i % 2 ≠ 1 ∧ ∀ j, j < g.length → g.getD i 0 / 2 ^ j % 2 = g.getD j 0 / 2 ^ i % 2
instance (g : List Int) (i : Nat) : Decidable (rowOk g i) := by unfold rowOk; infer_instance
def Graph (g : List Int) : Prop := 1 ≤ g.length ∧ g.length ≤ 12 ∧ ∀ i, i < g.length → rowOk g i
instance (g : List Int) : Decidable (Graph g) := by unfold Graph; infer_instance
def validB (g : List Int) : Bool := decide (Graph g)

theorem validB_true {g : List Int} : validB g = true ↔ Graph g := by unfold validB; exact decide_eq_true_iff
theorem validB_false {g : List Int} : validB g = false ↔ ¬ Graph g := by unfold validB; exact decide_eq_false_iff_not

theorem wrap64_pow {n : Nat} (h : n ≤ 12) : wrap64 (2 ^ n) = 2 ^ n := by
  have h1 : (2 : Int) ^ n = ((2 ^ n : Nat) : Int) := by push_cast; rfl
  have h2 : (2 : Nat) ^ n ≤ 2 ^ 12 := Nat.pow_le_pow_right (by decide) h
  rw [h1]
  generalize (2 : Nat) ^ n = q at *
  unfold wrap64
  omega

def DrawPost (w : World) (r : Value) (e : Ending) (w' : World) : Prop := e = .returned r ∧ ∃ n, w' = w.drewN n
theorem DrawPost.keep {w w' : World} {r : Value} {e : Ending} (h : DrawPost w r e w') : e = .returned r ∧ Keep (fun _ => False) w w' := by
  obtain ⟨h, n, rfl⟩ := h; exact ⟨h, (Keep.refl _ _).drewN n⟩

set_option maxHeartbeats 2000000 in
set_option maxRecDepth 100000 in
theorem valid_any {w : World} {v : Value} {g : List Int} (hv : Rd w 1 v g.length (icells g)) (hlen : g.length < 9223372036854775807) :
    Calls Tryz.prog 93 #[v] w (DrawPost w (.bool (validB g))) := by
  obtain ⟨ao, cap, hve, hn, hm, hsp⟩ := hv.shape
  subst hve
  have HV := Lib.hid hv; clear hv
  by_cases hl : g.length < 1
  · have hF := Lib.hid (show validB g = false from validB_false.2 fun h => by have := h.1; have := h.2.1; omega)
    go_enter Tryz.func93, Tryz.ntmps93
    go_wp2
    go_ret
    exact ⟨by rw [hF.out]; rfl, 0, rfl⟩
  have hl' : decide ((g.length : Int) < 1) = false := by simp; omega
  by_cases hl2 : 12 < g.length
  · have hF := Lib.hid (show validB g = false from validB_false.2 fun h => by have := h.1; have := h.2.1; omega)
    go_enter Tryz.func93, Tryz.ntmps93
    go_wp2
    go_ret
    exact ⟨by rw [hF.out]; rfl, 0, rfl⟩
  have hl2' : decide ((12 : Int) < (g.length : Int)) = false := by simp; omega
  have a1 := i64_and_one
  have HP := Lib.hid (wrap64_pow (show g.length ≤ 12 by omega))
  have hl3 : g.length ≤ 12 := by omega
  have hl1 : 1 ≤ g.length := by omega
  clear hl hl2
  go_enter Tryz.func93, Tryz.ntmps93
  go_wp2
  go_loopw [17] (fun i wr => ∃ k n : Nat, k ≤ g.length ∧ i = .int .i64 k ∧ wr = w.drewN n ∧ ∀ i, i < k → rowOk g i) (fun i _ => g.length - (intOf i).toNat)
  case atStart => exact ⟨0, 0, Nat.zero_le _, rfl, rfl, fun i h => by omega⟩
  case round =>
    obtain ⟨k, n, hk, rfl, rfl, h0⟩ := hrel
    have H0 := Lib.hid h0; clear h0
    by_cases hlt : k < g.length
    · obtain ⟨b, o, hao, hcells⟩ : ∃ b o, ao = some ⟨b, o, none⟩ ∧ ∀ j, j < g.length → w.cell? ⟨b, o + j, none⟩ = some (.int .i64 (g.getD j 0)) := by
        rcases HV.out.2.2 with ⟨h, h'⟩ | ⟨b, o, c, h, _, _, hx⟩
        · omega
        · cases h
          exact ⟨b, o, rfl, fun j hj => hx j _ (icells_get g j hj)⟩
      subst hao
      have HC := Lib.hid hcells; clear hcells
      have hcell := HC.out k hlt
      have HBAD : Hid (¬ rowOk g k → validB g = false) := Lib.hid (fun h => validB_false.2 fun hg => h (hg.2.2 k hlt))
      obtain ⟨x, hx⟩ : ∃ x : Int, g.getD k 0 = x := ⟨_, rfl⟩
      rw [hx] at hcell
      have HX := Lib.hid hx; clear hx
      by_cases hneg : x < 0
      · have hF := Lib.hid (HBAD.out (fun h => by have := h.1; rw [HX.out] at this; omega))
        go_wp2
        go_ret
        exact ⟨by rw [hF.out]; rfl, n, rfl⟩
      have hneg' : decide (x < 0) = false := by simp; omega
      by_cases hbig : 2 ^ g.length ≤ x
      · have hF := Lib.hid (HBAD.out (fun h => by have := h.2.1; rw [HX.out] at this; omega))
        have hbig' : decide (wrap64 (2 ^ g.length) ≤ x) = true := by rw [HP.out]; simpa using hbig
        clear hneg hbig
        go_wp2
        go_ret
        exact ⟨by rw [hF.out]; rfl, n, rfl⟩
      have hbig' : decide (wrap64 (2 ^ g.length) ≤ x) = false := by rw [HP.out]; simpa using hbig
      by_cases hself : x / 2 ^ k % 2 = 1
      · have hF := Lib.hid (HBAD.out (fun h => by have := h.2.2.1; rw [HX.out] at this; exact this hself))
        have hself' : (x / 2 ^ k % 2 == 1) = true := by simpa using hself
        clear hneg hbig hself
        go_wp2
        go_ret
        exact ⟨by rw [hF.out]; rfl, n, rfl⟩
      have hself' : (x / 2 ^ k % 2 == 1) = false := by simpa using hself
      have HOK : Hid (0 ≤ x ∧ x < 2 ^ g.length ∧ x / 2 ^ k % 2 ≠ 1) := Lib.hid ⟨by omega, by omega, hself⟩
      clear hneg hbig hself
      go_wp2
      go_loopw [38] (fun i wr => ∃ j m : Nat, j ≤ g.length ∧ i = .int .i64 j ∧ wr = w.drewN m ∧ ∀ i, i < j → x / 2 ^ i % 2 = g.getD i 0 / 2 ^ k % 2) (fun i _ => g.length - (intOf i).toNat)
      case atStart => exact ⟨0, n, Nat.zero_le _, rfl, rfl, fun i h => by omega⟩
      case round =>
        obtain ⟨j, m, hj, rfl, rfl, h1⟩ := hrel
        have H1 := Lib.hid h1; clear h1
        by_cases hjl : j < g.length
        · have hcellj := HC.out j hjl
          obtain ⟨y, hy⟩ : ∃ y : Int, g.getD j 0 = y := ⟨_, rfl⟩
          rw [hy] at hcellj
          have HY := Lib.hid hy; clear hy
          have hjI : (j : Int) < g.length := by omega
          by_cases hne : x / 2 ^ j % 2 = y / 2 ^ k % 2
          · have hne' : (x / 2 ^ j % 2 != y / 2 ^ k % 2) = false := by simpa using hne
            have HNE := Lib.hid hne; clear hne
            go_wp2
            go_quiet (fail)
            go_wp2
            go_roundw
            case rel =>
              refine ⟨j + 1, _, by omega, by go_num, rfl, fun i hi => ?_⟩
              by_cases hij : i = j
              · subst hij; rw [HY.out]; exact HNE.out
              · exact H1.out i (by omega)
            case measure => simp [intOf]; omega
          · have hne' : (x / 2 ^ j % 2 != y / 2 ^ k % 2) = true := by simpa using hne
            have hF := Lib.hid (HBAD.out (fun h => by have := h.2.2.2 j hjl; rw [HX.out, HY.out] at this; exact hne this))
            clear hne
            go_wp2
            go_quiet (fail)
            go_wp2
            go_ret
            exact ⟨by rw [hF.out]; rfl, m + nq, by simp [World.drewN, Nat.add_assoc]⟩
        · go_wp2
          go_roundw
          case rel =>
            refine ⟨k + 1, m, by omega, by go_num, rfl, fun i hi => ?_⟩
            by_cases hik : i = k
            · subst hik
              obtain ⟨q1, q2, q3⟩ := HOK.out
              unfold rowOk
              rw [HX.out]
              exact ⟨q1, q2, q3, fun j' hj' => H1.out j' (by omega)⟩
            · exact H0.out i (by omega)
          case measure => simp [intOf]; omega
    · have hF := Lib.hid (show validB g = true from validB_true.2 (by
        exact ⟨hl1, hl3, fun i hi => H0.out i (by omega)⟩))
      go_wp2
      go_ret
      exact ⟨by rw [hF.out]; rfl, n, rfl⟩
end Go.Proofs.YtkkjonkcjlnohaaGreatDoor
