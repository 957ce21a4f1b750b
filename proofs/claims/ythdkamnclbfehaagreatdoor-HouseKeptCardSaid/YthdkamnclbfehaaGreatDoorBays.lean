/- chordal: all, best, Clique, and house.bays: of every slice it answers whether it is a graph of eight nodes. -/
import Derived.Test.YthdkamnclbfehaaGreatDoorClique
namespace Go.Proofs.YthdkamnclbfehaaGreatDoor
set_option linter.unusedSimpArgs false
set_option linter.unusedVariables false
set_option linter.unnecessarySimpa false
open Go.RowKit

theorem all_any {w : World} {ao : Option Addr} {n c : Nat} (hn : n ≤ 12) : Calls Tryz.prog 124 #[.slice ao n c] w fun e w' => e = .returned (.int .i64 (((2 ^ n : Nat) : Int) - 1)) ∧ w = w' := by
  have hp := pow_le_4096 hn
  have h1 : 1 ≤ 2 ^ n := Nat.one_le_two_pow
  have e1 : wrap64 ((2 : Int) ^ n) = ((2 ^ n : Nat) : Int) := by rw [wrap64_pow hn]; push_cast; rfl
  obtain ⟨q, hq⟩ : ∃ q : Nat, 2 ^ n = q := ⟨_, rfl⟩
  rw [hq] at hp h1 e1 ⊢
  have HQ := Lib.hid hq; clear hq
  go_enter Tryz.func124, Tryz.ntmps124
  go_wp2
  go_ret
  exact ⟨rfl, rfl⟩

def bestStep (g : List Int) (b s : Nat) : Nat := if cnt12 b < cnt12 s ∧ cliqueB g s = true then s else b
def bestTo (g : List Int) (k : Nat) : Nat := (List.range k).foldl (bestStep g) 0
def bestF (g : List Int) : Nat := bestTo g (2 ^ g.length)
theorem bestTo_succ (g : List Int) (k : Nat) : bestTo g (k + 1) = bestStep g (bestTo g k) k := by simp [bestTo, List.range_succ]
theorem bestTo_lt (g : List Int) : ∀ (k N : Nat), k ≤ N → 0 < N → bestTo g k < N
  | 0, N, _, h => by simpa [bestTo] using h
  | k + 1, N, h, h' => by
    rw [bestTo_succ]; unfold bestStep
    have := bestTo_lt g k N (by omega) h'
    split <;> omega

set_option maxHeartbeats 1000000 in
set_option maxRecDepth 100000 in
theorem best_any {w : World} {v : Value} {g : List Int} (hg : Graph g) (hv : Rd w 1 v g.length (icells g)) (hT : TabAt 3 Lib.deBruijn64tab w) (hw3 : 3 < w.heap.size) :
    Calls Tryz.prog 82 #[v, .func (.func 83) #[v] #[]] w (IdxPost w (.int .i64 (bestF g))) := by
  obtain ⟨ao, cap, hve, _⟩ := hv.shape
  have hn := hg.2.1
  have hp := pow_le_4096 hn
  have h1 : 1 ≤ 2 ^ g.length := Nat.one_le_two_pow
  have HT := Lib.hid hT; clear hT
  have HG := Lib.hid hg; clear hg
  subst hve
  have HV := Lib.hid hv; clear hv
  have HBF := Lib.hid (show bestF g = bestTo g (2 ^ g.length) from rfl)
  obtain ⟨N, hN⟩ : ∃ N : Nat, 2 ^ g.length = N := ⟨_, rfl⟩
  have HN := Lib.hid hN
  rw [hN] at hp h1 HBF
  clear hN
  have HALL : Hid (∀ w1, Calls Tryz.prog 124 #[.slice ao g.length cap] w1 fun e w' => e = .returned (.int .i64 ((N : Int) - 1)) ∧ w1 = w') := Lib.hid (fun w1 => by
    have := all_any (w := w1) (ao := ao) (c := cap) hn
    rwa [HN.out] at this)
  go_enter Tryz.func82, Tryz.ntmps82
  go_wp2_with (go_at_call 124; refine (HALL.out _).mono ?_; rintro e w' ⟨rfl, rfl⟩)
  go_loopw [5, 10] (fun b i wr => ∃ k m : Nat, k ≤ N ∧ i = .int .i64 k ∧ b = .int .i64 m ∧ m = bestTo g k ∧ m < N ∧ Keep (fun _ => False) w wr) (fun _ i _ => N - (intOf i).toNat)
  case atStart => exact ⟨0, 0, by omega, rfl, rfl, rfl, by omega, Keep.refl _ _⟩
  case round =>
    obtain ⟨k, m, hk, rfl, rfl, hm, hmN, hkeep⟩ := hrel
    have HM := Lib.hid hm; clear hm
    have HK := Lib.hid hkeep; clear hkeep
    by_cases hlt : k < N
    · have HST := Lib.hid (bestTo_succ g k)
      have HNX := Lib.hid (bestTo_lt g (k + 1) N (by omega) (by omega))
      by_cases hc : cnt12 m < cnt12 k
      · have hd : decide ((cnt12 m : Int) < cnt12 k) = true := by simpa using hc
        cases hq : cliqueB g k
        · have HE := Lib.hid (show bestTo g (k + 1) = m by rw [HST.out, ← HM.out]; simp [bestStep, hq])
          have HQ := Lib.hid hq; clear hq
          have HC := Lib.hid hc; clear hc
          go_wp2_with (first | (go_at_call 81; refine (onesCount_small _ (by omega) _).mono ?_; rintro e w' ⟨rfl, rfl⟩) | (go_at_call 83; refine (clique_any (s := k) HG.out (HV.out.keep HK.out (fun _ _ h => h)) (by rw [HN.out]; exact hlt) (fun j hj => (HK.out.cell (p := ⟨3, j, none⟩) hw3 (fun h => h)).trans (HT.out j hj)) (Nat.lt_of_lt_of_le hw3 HK.out.size)).mono ?_; rintro e w4 ⟨he, hk4⟩; rw [HQ.out] at he; subst he; have HK4 := Lib.hid hk4; clear hk4))
          go_roundw
          case rel => exact ⟨k + 1, m, by omega, by go_num, rfl, HE.out.symm, hmN, HK.out.trans HK4.out (fun _ _ h => h)⟩
          case measure => simp [intOf]; omega
        · have HE := Lib.hid (show bestTo g (k + 1) = k by rw [HST.out, ← HM.out]; simp [bestStep, hq, hc])
          have HQ := Lib.hid hq; clear hq
          have HC := Lib.hid hc; clear hc
          go_wp2_with (first | (go_at_call 81; refine (onesCount_small _ (by omega) _).mono ?_; rintro e w' ⟨rfl, rfl⟩) | (go_at_call 83; refine (clique_any (s := k) HG.out (HV.out.keep HK.out (fun _ _ h => h)) (by rw [HN.out]; exact hlt) (fun j hj => (HK.out.cell (p := ⟨3, j, none⟩) hw3 (fun h => h)).trans (HT.out j hj)) (Nat.lt_of_lt_of_le hw3 HK.out.size)).mono ?_; rintro e w4 ⟨he, hk4⟩; rw [HQ.out] at he; subst he; have HK4 := Lib.hid hk4; clear hk4))
          go_roundw
          case rel => exact ⟨k + 1, k, by omega, by go_num, rfl, HE.out.symm, hlt, HK.out.trans HK4.out (fun _ _ h => h)⟩
          case measure => simp [intOf]; omega
      · have hd : decide ((cnt12 m : Int) < cnt12 k) = false := by simp; omega
        have HE := Lib.hid (show bestTo g (k + 1) = m by rw [HST.out, ← HM.out]; simp [bestStep, hc])
        have HC := Lib.hid hc; clear hc
        go_wp2_with (go_at_call 81; refine (onesCount_small _ (by omega) _).mono ?_; rintro e w' ⟨rfl, rfl⟩)
        go_roundw
        case rel => exact ⟨k + 1, m, by omega, by go_num, rfl, HE.out.symm, hmN, HK.out⟩
        case measure => simp [intOf]; omega
    · have HE := Lib.hid (show bestF g = m by rw [HBF.out, HM.out, show k = N by omega])
      go_wp2
      go_ret
      exact ⟨by rw [HE.out]; rfl, HK.out⟩

def cliqueE (g : List Int) : Int := if validB g then 0 else 2
theorem chClique_any {w : World} {v : Value} {g : List Int} (hv : Rd w 1 v g.length (icells g)) (hlen : g.length < 9223372036854775807) (hT : TabAt 3 Lib.deBruijn64tab w) (hw3 : 3 < w.heap.size) :
    Calls Tryz.prog 78 #[v] w (IdxPost w (.tuple #[.int .i64 (if validB g then bestF g else 0), .int .i64 (cliqueE g)])) := by
  obtain ⟨ao, cap, hve, _⟩ := hv.shape
  subst hve
  have HT := Lib.hid hT; clear hT
  have HV := Lib.hid hv; clear hv
  cases hb : validB g
  · have HB := Lib.hid hb; clear hb
    go_enter Tryz.func78, Tryz.ntmps78
    go_wp2_with (go_at_call 116; refine (valid_any HV.out hlen).mono ?_; rintro e w1 h; have h := h.keep; rw [HB.out] at h; obtain ⟨rfl, hk1⟩ := h; have HK1 := Lib.hid hk1; clear hk1)
    go_ret2
    exact ⟨by unfold cliqueE; rw [HB.out]; rfl, HK1.out⟩
  · have HB := Lib.hid hb; clear hb
    go_enter Tryz.func78, Tryz.ntmps78
    go_wp2_with (first | (go_at_call 116; refine (valid_any HV.out hlen).mono ?_; rintro e w1 h; have h := h.keep; rw [HB.out] at h; obtain ⟨rfl, hk1⟩ := h; have HK1 := Lib.hid hk1; clear hk1) | (go_at_call 82; refine (best_any (validB_true.1 HB.out) (HV.out.keep HK1.out (fun _ _ h => h)) (fun j hj => (HK1.out.cell (p := ⟨3, j, none⟩) hw3 (fun h => h)).trans (HT.out j hj)) (Nat.lt_of_lt_of_le hw3 HK1.out.size)).mono ?_; rintro e w2 ⟨rfl, hk2⟩; have HK2 := Lib.hid hk2; clear hk2))
    go_ret2
    exact ⟨by unfold cliqueE; rw [HB.out]; rfl, HK1.out.trans HK2.out (fun _ _ h => h)⟩

def baysB (g : List Int) : Bool := validB g && (g.length == 8)
theorem bays_any {w : World} {v : Value} {g : List Int} (hv : Rd w 1 v g.length (icells g)) (hlen : g.length < 9223372036854775807) (hT : TabAt 3 Lib.deBruijn64tab w) (hw3 : 3 < w.heap.size) :
    Calls Tryz.prog 54 #[v] w (IdxPost w (.bool (baysB g))) := by
  obtain ⟨ao, cap, hve, _⟩ := hv.shape
  subst hve
  have HC := Lib.hid (chClique_any hv hlen hT hw3); clear hT hv
  cases hb : validB g
  · have HB := Lib.hid hb; clear hb
    go_enter Tryz.func54, Tryz.ntmps54
    go_wp2_with (go_at_call 78; refine HC.out.mono ?_; rintro e w1 h; unfold cliqueE at h; rw [HB.out] at h; obtain ⟨rfl, hk1⟩ := h; have HK1 := Lib.hid hk1; clear hk1)
    go_ret
    exact ⟨by unfold baysB; rw [HB.out]; rfl, HK1.out⟩
  · have HB := Lib.hid hb; clear hb
    have HE := Lib.hid (show baysB g = ((g.length : Int) == 8) by unfold baysB; rw [HB.out, Bool.true_and, Bool.eq_iff_iff, beq_iff_eq, beq_iff_eq]; omega)
    go_enter Tryz.func54, Tryz.ntmps54
    go_wp2_with (go_at_call 78; refine HC.out.mono ?_; rintro e w1 h; unfold cliqueE at h; rw [HB.out] at h; obtain ⟨rfl, hk1⟩ := h; have HK1 := Lib.hid hk1; clear hk1)
    go_ret
    exact ⟨by rw [HE.out]; rfl, HK1.out⟩
end Go.Proofs.YthdkamnclbfehaaGreatDoor
