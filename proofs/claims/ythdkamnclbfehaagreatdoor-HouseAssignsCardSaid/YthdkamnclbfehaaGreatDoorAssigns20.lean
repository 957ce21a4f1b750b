/- cubebref06.IsClique, size, Clique. -/
import Derived.Test.YthdkamnclbfehaaGreatDoorAssigns19
import Derived.Deep.LoopGhost

/- cubebref06.IsClique, size, Clique. -/
namespace Go.Proofs.YthdkamnclbfehaaGreatDoor
set_option linter.unusedSimpArgs false
set_option linter.unusedVariables false
set_option linter.unnecessarySimpa false
open Go.RowKit

theorem sdiff_comm (s a b : Nat) : sdiff (sdiff s a) b = sdiff (sdiff s b) a := by
  apply Nat.eq_of_testBit_eq
  intro k
  simp only [testBit_sdiff]
  cases s.testBit k <;> cases a.testBit k <;> cases b.testBit k <;> rfl
theorem nat_bit (s i : Nat) : bits .and .i64 ((s : Int) / 2 ^ i) 1 = if s.testBit i then 1 else 0 := by
  rw [i64_and_one]; exact ibit_nat s i
theorem cliqueB_of {g : List Int} {s n : Nat} (hs : s < 2 ^ n) (h : ∀ i, i < n → s.testBit i = true → offB g s i = false) : cliqueB g s = true := by
  unfold cliqueB
  rw [Bool.not_eq_true', List.any_eq_false]
  intro i hi
  have h2 := (List.mem_filter.1 hi).2
  rw [h i (bit_lt hs h2) h2]
  exact Bool.false_ne_true
theorem cliqueB_not {g : List Int} {s i : Nat} (hs : s < 4096) (hb : s.testBit i = true) (h : offB g s i = true) : cliqueB g s = false := by
  unfold cliqueB
  rw [Bool.not_eq_false', List.any_eq_true]
  exact ⟨i, (mem_elems hs).2 hb, h⟩

set_option maxHeartbeats 1500000 in
set_option maxRecDepth 100000 in
theorem isClique_any {w : World} {v : Value} {g : List Int} {s : Nat} (hg : Graph g) (hv : Rd w 1 v g.length (icells g)) (hs : s < 2 ^ g.length) :
    Calls Tryz.prog 88 #[v, .int .i64 s] w (DrawPost w (.bool (cliqueB g s))) := by
  have hn := hg.2.1
  have h12 := pow_le_4096 hn
  have hs4 : s < 4096 := Nat.lt_of_lt_of_le hs h12
  obtain ⟨b, o, cap, hve, hcell⟩ : ∃ b o cap, v = .slice (some ⟨b, o, none⟩) g.length cap ∧ ∀ i, i < g.length → w.cell? ⟨b, o + i, none⟩ = some (.int .i64 (gn g i : Nat)) := by
    rcases hv.2.2 with ⟨h, h'⟩ | ⟨b, o, c, h, _, _, hx⟩
    · have := hg.1; omega
    · exact ⟨b, o, c, h, fun i hi => by rw [← (hg.bound hi).1]; exact hx i _ (icells_get g i hi)⟩
  subst hve
  have HC := Lib.hid hcell
  have HG := Lib.hid hg
  have HS := Lib.hid hs
  obtain ⟨R, hR⟩ : ∃ R, cliqueB g s = R := ⟨_, rfl⟩
  have HR := Lib.hid hR
  rw [hR]
  clear hcell hv hg hs h12 hR
  go_enter Tryz.func88, Tryz.ntmps88
  go_wp2
  go_loopg [8] g.length (fun gh s8 wx => ∃ i q : Nat, gh = g.length - i ∧ i ≤ g.length ∧ s8 = .int .i64 (i : Nat) ∧ wx = w.drewN q ∧ ∀ k, k < i → s.testBit k = true → offB g s k = false)
  case atStart => exact ⟨0, 0, rfl, Nat.zero_le _, rfl, rfl, fun k h => by omega⟩
  case round =>
    obtain ⟨i, q, rfl, hi, rfl, rfl, h0⟩ := hrel
    have H0 := Lib.hid h0; clear h0
    by_cases hlt : i < g.length
    · have hjl : ((i : Int) < (g.length : Int)) = True := by simp; omega
      have ci := HC.out i hlt
      have hgl := HG.out.gn_lt hlt
      have hgi4 : gn g i < 4096 := Nat.lt_of_lt_of_le hgl (pow_le_4096 hn)
      have hi12 : i ≤ 62 := by omega
      have hpw : 2 ^ i ≤ 4096 := pow_le_4096 (by omega)
      have e2 : IntKind.i64.wrap ((2 : Int) ^ i) = ((2 ^ i : Nat) : Int) := by
        have := shl_one i hi12
        rwa [Nat.min_eq_left (by omega)] at this
      have hbit := nat_bit s i
      have hsd : sdiff s (2 ^ i) < 2 ^ 12 := sdiff_lt (by omega)
      have e3 := i64_andNot_nat s (2 ^ i) (by omega) (by omega)
      have e4 := i64_andNot_nat (sdiff s (2 ^ i)) (gn g i) (by omega) (by omega)
      have hoff : offB g s i = (sdiff (sdiff s (2 ^ i)) (gn g i) != 0) := by unfold offB; rw [sdiff_comm]
      cases hb : s.testBit i with
      | true =>
        rw [hb, if_pos rfl] at hbit
        cases ho : offB g s i with
        | true =>
          have hr : R = false := by rw [← HR.out]; exact cliqueB_not hs4 hb ho
          have HRF := Lib.hid hr
          rw [ho] at hoff
          have e5 : (((sdiff (sdiff s (2 ^ i)) (gn g i) : Nat) : Int) != 0) = true := by
            rw [bne_iff_ne]; have := bne_iff_ne.1 hoff.symm; omega
          obtain ⟨pi, hpi⟩ : ∃ pi : Nat, 2 ^ i = pi := ⟨_, rfl⟩
          rw [hpi] at e2 e3 e4 e5 hpw
          generalize gn g i = gi at *
          generalize sdiff s pi = sd at *
          generalize sdiff sd gi = sr at *
          clear hoff ho hb hr hgl hpi hsd
          go_wp2
          go_quiet (fail)
          go_wp2
          go_ret
          exact ⟨by rw [HRF.out]; rfl, _, by simp [World.drewN, Nat.add_assoc]; rfl⟩
        | false =>
          rw [ho] at hoff
          have e5 : (((sdiff (sdiff s (2 ^ i)) (gn g i) : Nat) : Int) != 0) = false := by
            rw [bne_eq_false_iff_eq]; have := bne_eq_false_iff_eq.1 hoff.symm; omega
          have HO := Lib.hid ho
          obtain ⟨pi, hpi⟩ : ∃ pi : Nat, 2 ^ i = pi := ⟨_, rfl⟩
          rw [hpi] at e2 e3 e4 e5 hpw
          generalize gn g i = gi at *
          generalize sdiff s pi = sd at *
          generalize sdiff sd gi = sr at *
          clear hoff ho hb hgl hpi hsd
          go_wp2
          go_quiet (fail)
          go_wp2
          go_roundg (g.length - (i + 1))
          case measure => omega
          case rel => exact ⟨i + 1, _, rfl, by omega, by go_num, by simp [World.drewN, Nat.add_assoc]; rfl, fun k hk hkb => by
            by_cases e : k = i
            · subst e; exact HO.out
            · exact H0.out k (by omega) hkb⟩
      | false =>
        rw [hb, if_neg Bool.false_ne_true] at hbit
        have HB := Lib.hid hb
        clear hb hoff e2 e3 e4 hsd hgl hpw
        go_wp2
        go_quiet (fail)
        go_wp2
        go_roundg (g.length - (i + 1))
        case measure => omega
        case rel => exact ⟨i + 1, _, rfl, by omega, by go_num, by simp [World.drewN, Nat.add_assoc]; rfl, fun k hk hkb => by
          by_cases e : k = i
          · subst e; rw [HB.out] at hkb; cases hkb
          · exact H0.out k (by omega) hkb⟩
    · have hie : i = g.length := by omega
      subst hie
      have hr : R = true := by rw [← HR.out]; exact cliqueB_of HS.out H0.out
      have HRT := Lib.hid hr; clear hr
      have hjl : ((g.length : Int) < (g.length : Int)) = False := by simp
      go_wp2
      go_ret
      exact ⟨by rw [HRT.out]; rfl, q, rfl⟩

set_option maxHeartbeats 800000 in
theorem size_any {w : World} {s : Nat} (hs : s < 4096) : Calls Tryz.prog 89 #[.int .i64 s] w fun e w' => e = .returned (.int .i64 (cnt12 s : Nat)) ∧ w = w' := by
  obtain ⟨R, hR⟩ : ∃ R, cnt12 s = R := ⟨_, rfl⟩
  have HR := Lib.hid hR
  rw [hR]
  clear hR
  go_enter Tryz.func89, Tryz.ntmps89
  go_wp2
  go_loopg [0, 3] s (fun gh s0 s3 wx => ∃ x n : Nat, x = gh ∧ x < 4096 ∧ s0 = .int .i64 (x : Nat) ∧ s3 = .int .i64 (n : Nat) ∧ n + cnt12 x = cnt12 s ∧ n ≤ 12 ∧ w = wx)
  case atStart => exact ⟨s, 0, rfl, hs, rfl, rfl, by omega, by omega, rfl⟩
  case round =>
    obtain ⟨x, n, rfl, hx, rfl, rfl, hn, hn12, rfl⟩ := hrel
    have HN := Lib.hid hn
    have hs12 : cnt12 s ≤ 12 := by
      have := List.length_filter_le (s.testBit ·) (List.range 12)
      unfold cnt12
      simpa using this
    by_cases h0 : x = 0
    · subst h0
      have hr : n = R := by rw [← HR.out, ← HN.out]; rfl
      have hz : ((0 : Int) < 0) = False := by simp
      clear hn
      go_wp2
      go_ret
      exact ⟨by rw [hr]; rfl, rfl⟩
    · have hstep := elems_step x hx h0
      have hc : cnt12 x = cnt12 (x &&& (x - 1)) + 1 := by
        show (elems x).length = (elems (x &&& (x - 1))).length + 1
        rw [hstep]; rfl
      have hlt : x &&& (x - 1) < x := by
        have := Nat.and_le_right (n := x) (m := x - 1)
        omega
      have hpos : ((0 : Int) < (x : Int)) = True := by simp; omega
      have e1 : IntKind.i64.wrap ((x : Int) - 1) = ((x - 1 : Nat) : Int) := by rw [IntWalk.i64_in _ (by omega)]; omega
      have e2 := i64_and_nat x (x - 1) (by omega) (by omega)
      obtain ⟨y, hy⟩ : ∃ y, x &&& (x - 1) = y := ⟨_, rfl⟩
      obtain ⟨z, hz⟩ : ∃ z, x - 1 = z := ⟨_, rfl⟩
      rw [hy] at e2 hc hlt
      rw [hz] at e1 e2
      have HC := Lib.hid hc
      clear hstep hc hn hy hz h0
      go_wp2
      go_roundg y
      case measure => omega
      case rel => exact ⟨y, n + 1, rfl, by omega, rfl, by go_num, by have := HC.out; have := HN.out; omega, by have := HC.out; have := HN.out; omega, rfl⟩

set_option maxHeartbeats 1500000 in
set_option maxRecDepth 100000 in
theorem refClique_any {w : World} {v : Value} {g : List Int} (hg : Graph g) (hv : Rd w 1 v g.length (icells g)) : Calls Tryz.prog 90 #[v] w (IdxPost w (.int .i64 (bestF g : Nat))) := by
  obtain ⟨ao, cap, hve, _⟩ := hv.shape
  subst hve
  have hn := hg.2.1
  have hp := pow_le_4096 hn
  have h1 : 1 ≤ 2 ^ g.length := Nat.one_le_two_pow
  have e1 : wrap64 ((2 : Int) ^ g.length) = ((2 ^ g.length : Nat) : Int) := by rw [wrap64_pow hn]; push_cast; rfl
  have HG := Lib.hid hg; clear hg
  have HV := Lib.hid hv; clear hv
  have HBF := Lib.hid (show bestF g = bestTo g (2 ^ g.length) from rfl)
  obtain ⟨N, hN⟩ : ∃ N : Nat, 2 ^ g.length = N := ⟨_, rfl⟩
  have HN := Lib.hid hN
  rw [hN] at hp h1 HBF e1
  clear hN
  go_enter Tryz.func90, Tryz.ntmps90
  go_wp2
  rw [e1]
  clear e1
  go_loopg [3, 8] N (fun gh s3 s8 wr => ∃ k m : Nat, gh = N - k ∧ k ≤ N ∧ s8 = .int .i64 (k : Nat) ∧ s3 = .int .i64 (m : Nat) ∧ m = bestTo g k ∧ m < N ∧ Keep (fun _ => False) w wr)
  case atStart => exact ⟨0, 0, rfl, by omega, rfl, rfl, rfl, by omega, Keep.refl _ _⟩
  case round =>
    obtain ⟨k, m, rfl, hk, rfl, rfl, hm, hmN, hkeep⟩ := hrel
    have HM := Lib.hid hm; clear hm
    have HK := Lib.hid hkeep; clear hkeep
    by_cases hlt : k < N
    · have hkl : ((k : Int) < (N : Int)) = True := by simp; omega
      have HST := Lib.hid (bestTo_succ g k)
      have hcq := isClique_any (w := wr) HG.out (HV.out.keep HK.out (fun _ _ h => h)) (s := k) (by rw [HN.out]; exact hlt)
      cases hq : cliqueB g k with
      | false =>
        have HE := Lib.hid (show bestTo g (k + 1) = m by rw [HST.out, ← HM.out]; simp [bestStep, hq])
        rw [hq] at hcq
        have HCQ := Lib.hid hcq
        clear hcq hq
        go_wp2_with (go_at_call 88; refine (HCQ.out).mono ?_; rintro e w' ⟨rfl, q, rfl⟩)
        go_roundg (N - (k + 1))
        case measure => omega
        case rel => exact ⟨k + 1, m, rfl, by omega, by go_num, rfl, HE.out.symm, hmN, HK.out.drewN q⟩
      | true =>
        rw [hq] at hcq
        have HCQ := Lib.hid hcq
        by_cases hc : cnt12 m < cnt12 k
        · have hd : decide ((cnt12 m : Int) < cnt12 k) = true := by simpa using hc
          have hd2 : ((cnt12 m : Int) < cnt12 k) = True := by simpa using hc
          have HE := Lib.hid (show bestTo g (k + 1) = k by rw [HST.out, ← HM.out]; simp [bestStep, hq, hc])
          clear hcq hq hc
          go_wp2_with (first
            | (go_at_call 88; refine (HCQ.out).mono ?_; rintro e w' ⟨rfl, q, rfl⟩)
            | (go_at_call 89; refine (size_any (by omega)).mono ?_; rintro e w' ⟨rfl, rfl⟩))
          go_roundg (N - (k + 1))
          case measure => omega
          case rel => exact ⟨k + 1, k, rfl, by omega, by go_num, rfl, HE.out.symm, hlt, HK.out.drewN q⟩
        · have hd : decide ((cnt12 m : Int) < cnt12 k) = false := by simp; omega
          have hd2 : ((cnt12 m : Int) < cnt12 k) = False := by simp; omega
          have HE := Lib.hid (show bestTo g (k + 1) = m by rw [HST.out, ← HM.out]; simp [bestStep, hc])
          clear hcq hq hc
          go_wp2_with (first
            | (go_at_call 88; refine (HCQ.out).mono ?_; rintro e w' ⟨rfl, q, rfl⟩)
            | (go_at_call 89; refine (size_any (by omega)).mono ?_; rintro e w' ⟨rfl, rfl⟩))
          go_roundg (N - (k + 1))
          case measure => omega
          case rel => exact ⟨k + 1, m, rfl, by omega, by go_num, rfl, HE.out.symm, hmN, HK.out.drewN q⟩
    · have HE := Lib.hid (show bestF g = m by rw [HBF.out, HM.out, show k = N by omega])
      have hke : k = N := by omega
      subst hke
      have hkl : ((k : Int) < (k : Int)) = False := by simp
      go_wp2
      go_ret
      exact ⟨by rw [HE.out]; rfl, HK.out⟩
end Go.Proofs.YthdkamnclbfehaaGreatDoor
