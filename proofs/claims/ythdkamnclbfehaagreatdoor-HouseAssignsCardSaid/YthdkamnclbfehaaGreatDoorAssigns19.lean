/- chordal: clique, best, Clique, and house.bays: of every slice they answer whether it is a graph of eight nodes. -/
import Derived.Test.YthdkamnclbfehaaGreatDoorAssigns17
import Derived.Test.YthdkamnclbfehaaGreatDoorAssigns18
import Derived.Shelf.Abstract

/- chordal: clique, best, Clique, and house.bays: of every slice they answer whether it is a graph of eight nodes. -/
namespace Go.Proofs.YthdkamnclbfehaaGreatDoor
set_option linter.unusedSimpArgs false
set_option linter.unusedVariables false
set_option linter.unnecessarySimpa false
open Go.RowKit

def gn (g : List Int) (i : Nat) : Nat := (g.getD i 0).toNat
def offB (g : List Int) (s i : Nat) : Bool := sdiff (sdiff s (gn g i)) (2 ^ i) != 0
def cliqueB (g : List Int) (s : Nat) : Bool := !(elems s).any (offB g s)

theorem Graph.bound {g : List Int} (h : Graph g) {i : Nat} (hi : i < g.length) : g.getD i 0 = (gn g i : Int) ∧ gn g i < 2 ^ g.length := by
  have h1 := (h.2.2 i hi).1
  have h2 := (h.2.2 i hi).2.1
  unfold gn
  refine ⟨by omega, ?_⟩
  have : ((2 : Int) ^ g.length) = ((2 ^ g.length : Nat) : Int) := by push_cast; rfl
  omega
theorem pow_le_4096 {n : Nat} (h : n ≤ 12) : 2 ^ n ≤ 4096 := Nat.pow_le_pow_right (n := 2) (by decide) h

set_option maxHeartbeats 800000 in
set_option maxRecDepth 100000 in
theorem clique1_any {w : World} {v : Value} {g : List Int} {s i b2 b3 : Nat} (hg : Graph g) (hv : Rd w 1 v g.length (icells g)) (hs : s < 4096) (hi : i < g.length)
    (h2 : w.cell? ⟨b2, 0, none⟩ = some v) (h3 : w.cell? ⟨b3, 0, none⟩ = some (.int .i64 s)) :
    Calls Tryz.prog 125 #[.int .i64 i, .pointer (some ⟨b3, 0, none⟩), .pointer (some ⟨b2, 0, none⟩)] w (DrawPost w (.bool (offB g s i))) := by
  have hn := hg.2.1
  obtain ⟨b, o, cap, hve, hcell⟩ : ∃ b o cap, v = .slice (some ⟨b, o, none⟩) g.length cap ∧ w.cell? ⟨b, o + i, none⟩ = some (.int .i64 (g.getD i 0)) := by
    rcases hv.2.2 with ⟨h, h'⟩ | ⟨b, o, c, h, _, _, hx⟩
    · omega
    · exact ⟨b, o, c, h, hx i _ (icells_get g i hi)⟩
  subst hve
  obtain ⟨hb1, hb2⟩ := hg.bound hi
  have h4 := pow_le_4096 hn
  rw [hb1] at hcell
  have hlt : gn g i < 9223372036854775808 := Nat.lt_of_lt_of_le hb2 (Nat.le_trans h4 (by decide))
  have hs2 : s < 9223372036854775808 := Nat.lt_of_lt_of_le hs (by decide)
  have e1 := i64_andNot_nat s (gn g i) hs2 hlt
  have hi12 : i ≤ 62 := by omega
  have hpw : 2 ^ i ≤ 4096 := pow_le_4096 (by omega)
  have e2 : IntKind.i64.wrap ((2 : Int) ^ i) = ((2 ^ i : Nat) : Int) := by
    have := shl_one i hi12
    rwa [Nat.min_eq_left (by omega)] at this
  have hsd : sdiff s (gn g i) < 2 ^ 12 := sdiff_lt (by omega)
  have e3 := i64_andNot_nat (sdiff s (gn g i)) (2 ^ i) (by omega) (by omega)
  have e4 : (((sdiff (sdiff s (gn g i)) (2 ^ i) : Nat) : Int) != 0) = offB g s i := by
    unfold offB
    rw [Bool.eq_iff_iff, bne_iff_ne, bne_iff_ne]; omega
  obtain ⟨q, hq⟩ : ∃ q : Nat, 2 ^ i = q := ⟨_, rfl⟩
  rw [hq] at e2 e3 e4
  generalize sdiff s (gn g i) = sd at *
  generalize gn g i = gi at *
  generalize sdiff sd q = sr at *
  generalize offB g s i = res at *
  have hiI : (i : Int) < g.length := by omega
  clear hb1 hb2 h4 hsd hpw hq hv hlt hs2
  go_enter Tryz.func125, Tryz.ntmps125
  go_wp2
  go_quiet (fail)
  go_wp2
  go_ret
  exact ⟨rfl, _, rfl⟩

theorem elems_lt {s n i : Nat} (hs : s < 2 ^ n) (h : i ∈ elems s) : i < n := by
  unfold elems at h
  obtain ⟨_, h2⟩ := List.mem_filter.1 h
  rcases Nat.lt_or_ge i n with hl | hl
  · exact hl
  · have : s.testBit i = false := Nat.testBit_lt_two_pow (Nat.lt_of_lt_of_le hs (Nat.pow_le_pow_right (by decide) hl))
    rw [this] at h2; cases h2

set_option maxHeartbeats 800000 in
set_option maxRecDepth 100000 in
theorem clique_any {w : World} {v : Value} {g : List Int} {s : Nat} (hg : Graph g) (hv : Rd w 1 v g.length (icells g)) (hs : s < 2 ^ g.length) (hT : TabAt 3 Lib.deBruijn64tab w) (hw3 : 3 < w.heap.size) :
    Calls Tryz.prog 83 #[v, .int .i64 s] w (IdxPost w (.bool (cliqueB g s))) := by
  have h4 : s < 4096 := Nat.lt_of_lt_of_le hs (pow_le_4096 hg.2.1)
  have hk2 : Keep (fun _ => False) w ((w.alloc (.cells #[v] 53)).alloc (.cells #[.int .i64 s] 3)) := ((Keep.refl _ _).alloc _).alloc _
  have HT := Lib.hid (show TabAt 3 Lib.deBruijn64tab ((w.alloc (.cells #[v] 53)).alloc (.cells #[.int .i64 s] 3)) from fun j hj => (hk2.cell (p := ⟨3, j, none⟩) hw3 (fun h => h)).trans (hT j hj))
  have HV := Lib.hid (hv.keep hk2 (fun _ _ h => h))
  have HK2 := Lib.hid hk2; clear hk2
  have HG := Lib.hid hg
  have HS := Lib.hid hs; clear hs
  obtain ⟨ao, cap, hve, _⟩ := hv.shape
  clear hv hT hg
  subst hve
  have HC : Hid (∀ w3 v', Keep (fun _ => False) ((w.alloc (.cells #[Value.slice ao g.length cap] 53)).alloc (.cells #[.int .i64 s] 3)) w3 → w3.ownsRow ((w.alloc (.cells #[Value.slice ao g.length cap] 53)).alloc (.cells #[.int .i64 s] 3)).heap.size 3 1 v' (elems s).length (ncells (elems s)) →
      Calls Tryz.prog 85 #[v', .func (.func 125) #[] #[.pointer (some ⟨w.heap.size + 1, 0, none⟩), .pointer (some ⟨w.heap.size, 0, none⟩)]] w3 (IdxPost w3 (.bool ((elems s).any (offB g s))))) := Lib.hid (by
    intro w3 v' hk3 hown
    have hrd : Rd w3 1 v' ((elems s).map Int.ofNat).length (icells ((elems s).map Int.ofNat)) := by
      have := ownsRow_rd hown (by intro u hu; obtain ⟨_, _, rfl⟩ := List.mem_map.1 hu; rfl)
      rw [ncells_icells] at this
      simpa using this
    have hany : ((elems s).map Int.ofNat).any (fun x => offB g s x.toNat) = (elems s).any (offB g s) := by
      rw [List.any_map]; rfl
    have := containsFunc_any (p := fun x => offB g s x.toNat) (F := 125) (capt := #[.pointer (some ⟨w.heap.size + 1, 0, none⟩), .pointer (some ⟨w.heap.size, 0, none⟩)]) hrd (enters_of Tryz.func125 (by kernel_rfl) rfl) (by
      intro w4 hk4 x hx
      obtain ⟨i, hi, rfl⟩ := List.mem_map.1 hx
      have hk34 := hk3.trans hk4 (fun _ _ h => h)
      have c2 : w4.cell? ⟨w.heap.size, 0, none⟩ = some (Value.slice ao g.length cap) := by
        rw [hk34.cell (p := ⟨w.heap.size, 0, none⟩) (by simp; omega) (fun h => h)]
        rw [World.cell?_alloc_past _ _ _ (by simp)]
        rw [World.cell?_alloc_new]; rfl
      have c3 : w4.cell? ⟨w.heap.size + 1, 0, none⟩ = some (.int .i64 s) := by
        rw [hk34.cell (p := ⟨w.heap.size + 1, 0, none⟩) (by simp) (fun h => h)]
        have := World.cell?_alloc_new (w.alloc (.cells #[Value.slice ao g.length cap] 53)) #[.int .i64 s] 3 0
        simpa using this
      refine (clique1_any HG.out (HV.out.keep hk34 (fun _ _ h => h)) h4 (elems_lt HS.out hi) c2 c3).mono ?_
      intro e w5 h5
      exact h5.keep) (by
        have : (elems s).length ≤ 12 := by
          have := List.length_filter_le (s.testBit ·) (List.range 12)
          simpa [elems] using this
        simp; omega)
    rw [hany] at this
    exact this)
  go_enter Tryz.func83, Tryz.ntmps83
  go_wp2_with (first | (go_at_call 86; refine (nodes_any s h4 _ HT.out (by simp; omega)).mono ?_; rintro e w3 ⟨v', rfl, hown, hk3⟩; have HO := Lib.hid hown; clear hown; have HK3 := Lib.hid hk3; clear hk3; have hshape := ownsRow_shape HO.out; obtain ⟨ao', cap', hv', _⟩ := hshape; subst hv'; have c3 : w3.cell? ⟨w.heap.size + 1, 0, none⟩ = some (.int .i64 s) := by rw [HK3.out.cell (p := ⟨w.heap.size + 1, 0, none⟩) (by simp) (fun h => h)]; simpa using World.cell?_alloc_new (w.alloc (.cells #[Value.slice ao g.length cap] 53)) #[.int .i64 s] 3 0) | (go_at_call 85; refine (HC.out _ _ HK3.out HO.out).mono ?_; rintro e w4 ⟨rfl, hk4⟩; have HK4 := Lib.hid hk4; clear hk4))
  go_ret
  exact ⟨by unfold cliqueB; rfl, (HK2.out.trans HK3.out (fun _ _ h => h)).trans HK4.out (fun _ _ h => h)⟩
end Go.Proofs.YthdkamnclbfehaaGreatDoor

/- chordal: all, best, Clique, and house.bays: of every slice it answers whether it is a graph of eight nodes. -/
namespace Go.Proofs.YthdkamnclbfehaaGreatDoor
set_option linter.unusedSimpArgs false
set_option linter.unusedVariables false
set_option linter.unnecessarySimpa false
open Go.RowKit

theorem all_any {w : World} {ao : Option Addr} {n c : Nat} (hn : n ≤ 12) : Calls Tryz.prog 124 #[.slice ao n c] w fun e w' => e = .returned (.int .i64 (((2 ^ n : Nat) : Int) - 1)) ∧ w = w' := by
  have hp := pow_le_4096 hn
  have h1 : 1 ≤ 2 ^ n := Nat.one_le_two_pow
  have e1 : wrap64 ((2 : Int) ^ n) = ((2 ^ n : Nat) : Int) := by rw [wrap64_pow hn]; push_cast; rfl
  obtain ⟨q, hq⟩ : ∃ q : Nat, 2 ^ n = q := ⟨_, rfl⟩
  rw [hq] at hp h1 e1 ⊢
  have HQ := Lib.hid hq; clear hq
  go_enter Tryz.func124, Tryz.ntmps124
  go_wp2
  go_ret
  exact ⟨rfl, rfl⟩

def bestStep (g : List Int) (b s : Nat) : Nat := if cnt12 b < cnt12 s ∧ cliqueB g s = true then s else b
def bestTo (g : List Int) (k : Nat) : Nat := (List.range k).foldl (bestStep g) 0
def bestF (g : List Int) : Nat := bestTo g (2 ^ g.length)
theorem bestTo_succ (g : List Int) (k : Nat) : bestTo g (k + 1) = bestStep g (bestTo g k) k := by simp [bestTo, List.range_succ]
theorem bestTo_lt (g : List Int) : ∀ (k N : Nat), k ≤ N → 0 < N → bestTo g k < N
  | 0, N, _, h => by simpa [bestTo] using h
  | k + 1, N, h, h' => by
    rw [bestTo_succ]; unfold bestStep
    have := bestTo_lt g k N (by omega) h'
    split <;> omega

set_option maxHeartbeats 1000000 in
set_option maxRecDepth 100000 in
theorem best_any {w : World} {v : Value} {g : List Int} (hg : Graph g) (hv : Rd w 1 v g.length (icells g)) (hT : TabAt 3 Lib.deBruijn64tab w) (hw3 : 3 < w.heap.size) :
    Calls Tryz.prog 82 #[v, .func (.func 83) #[v] #[]] w (IdxPost w (.int .i64 (bestF g))) := by
  obtain ⟨ao, cap, hve, _⟩ := hv.shape
  have hn := hg.2.1
  have hp := pow_le_4096 hn
  have h1 : 1 ≤ 2 ^ g.length := Nat.one_le_two_pow
  have HT := Lib.hid hT; clear hT
  have HG := Lib.hid hg; clear hg
  subst hve
  have HV := Lib.hid hv; clear hv
  have HBF := Lib.hid (show bestF g = bestTo g (2 ^ g.length) from rfl)
  obtain ⟨N, hN⟩ : ∃ N : Nat, 2 ^ g.length = N := ⟨_, rfl⟩
  have HN := Lib.hid hN
  rw [hN] at hp h1 HBF
  clear hN
  have HALL : Hid (∀ w1, Calls Tryz.prog 124 #[.slice ao g.length cap] w1 fun e w' => e = .returned (.int .i64 ((N : Int) - 1)) ∧ w1 = w') := Lib.hid (fun w1 => by
    have := all_any (w := w1) (ao := ao) (c := cap) hn
    rwa [HN.out] at this)
  go_enter Tryz.func82, Tryz.ntmps82
  go_wp2_with (go_at_call 124; refine (HALL.out _).mono ?_; rintro e w' ⟨rfl, rfl⟩)
  go_loopw [5, 10] (fun b i wr => ∃ k m : Nat, k ≤ N ∧ i = .int .i64 k ∧ b = .int .i64 m ∧ m = bestTo g k ∧ m < N ∧ Keep (fun _ => False) w wr) (fun _ i _ => N - (intOf i).toNat)
  case atStart => exact ⟨0, 0, by omega, rfl, rfl, rfl, by omega, Keep.refl _ _⟩
  case round =>
    obtain ⟨k, m, hk, rfl, rfl, hm, hmN, hkeep⟩ := hrel
    have HM := Lib.hid hm; clear hm
    have HK := Lib.hid hkeep; clear hkeep
    by_cases hlt : k < N
    · have HST := Lib.hid (bestTo_succ g k)
      have HNX := Lib.hid (bestTo_lt g (k + 1) N (by omega) (by omega))
      by_cases hc : cnt12 m < cnt12 k
      · have hd : decide ((cnt12 m : Int) < cnt12 k) = true := by simpa using hc
        cases hq : cliqueB g k
        · have HE := Lib.hid (show bestTo g (k + 1) = m by rw [HST.out, ← HM.out]; simp [bestStep, hq])
          have HQ := Lib.hid hq; clear hq
          have HC := Lib.hid hc; clear hc
          go_wp2_with (first | (go_at_call 81; refine (onesCount_small _ (by omega) _).mono ?_; rintro e w' ⟨rfl, rfl⟩) | (go_at_call 83; refine (clique_any (s := k) HG.out (HV.out.keep HK.out (fun _ _ h => h)) (by rw [HN.out]; exact hlt) (fun j hj => (HK.out.cell (p := ⟨3, j, none⟩) hw3 (fun h => h)).trans (HT.out j hj)) (Nat.lt_of_lt_of_le hw3 HK.out.size)).mono ?_; rintro e w4 ⟨he, hk4⟩; rw [HQ.out] at he; subst he; have HK4 := Lib.hid hk4; clear hk4))
          go_roundw
          case rel => exact ⟨k + 1, m, by omega, by go_num, rfl, HE.out.symm, hmN, HK.out.trans HK4.out (fun _ _ h => h)⟩
          case measure => simp [intOf]; omega
        · have HE := Lib.hid (show bestTo g (k + 1) = k by rw [HST.out, ← HM.out]; simp [bestStep, hq, hc])
          have HQ := Lib.hid hq; clear hq
          have HC := Lib.hid hc; clear hc
          go_wp2_with (first | (go_at_call 81; refine (onesCount_small _ (by omega) _).mono ?_; rintro e w' ⟨rfl, rfl⟩) | (go_at_call 83; refine (clique_any (s := k) HG.out (HV.out.keep HK.out (fun _ _ h => h)) (by rw [HN.out]; exact hlt) (fun j hj => (HK.out.cell (p := ⟨3, j, none⟩) hw3 (fun h => h)).trans (HT.out j hj)) (Nat.lt_of_lt_of_le hw3 HK.out.size)).mono ?_; rintro e w4 ⟨he, hk4⟩; rw [HQ.out] at he; subst he; have HK4 := Lib.hid hk4; clear hk4))
          go_roundw
          case rel => exact ⟨k + 1, k, by omega, by go_num, rfl, HE.out.symm, hlt, HK.out.trans HK4.out (fun _ _ h => h)⟩
          case measure => simp [intOf]; omega
      · have hd : decide ((cnt12 m : Int) < cnt12 k) = false := by simp; omega
        have HE := Lib.hid (show bestTo g (k + 1) = m by rw [HST.out, ← HM.out]; simp [bestStep, hc])
        have HC := Lib.hid hc; clear hc
        go_wp2_with (go_at_call 81; refine (onesCount_small _ (by omega) _).mono ?_; rintro e w' ⟨rfl, rfl⟩)
        go_roundw
        case rel => exact ⟨k + 1, m, by omega, by go_num, rfl, HE.out.symm, hmN, HK.out⟩
        case measure => simp [intOf]; omega
    · have HE := Lib.hid (show bestF g = m by rw [HBF.out, HM.out, show k = N by omega])
      go_wp2
      go_ret
      exact ⟨by rw [HE.out]; rfl, HK.out⟩

def cliqueE (g : List Int) : Int := if validB g then 0 else 2
theorem chClique_any {w : World} {v : Value} {g : List Int} (hv : Rd w 1 v g.length (icells g)) (hlen : g.length < 9223372036854775807) (hT : TabAt 3 Lib.deBruijn64tab w) (hw3 : 3 < w.heap.size) :
    Calls Tryz.prog 78 #[v] w (IdxPost w (.tuple #[.int .i64 (if validB g then bestF g else 0), .int .i64 (cliqueE g)])) := by
  obtain ⟨ao, cap, hve, _⟩ := hv.shape
  subst hve
  have HT := Lib.hid hT; clear hT
  have HV := Lib.hid hv; clear hv
  cases hb : validB g
  · have HB := Lib.hid hb; clear hb
    go_enter Tryz.func78, Tryz.ntmps78
    go_wp2_with (go_at_call 116; refine (valid_any HV.out hlen).mono ?_; rintro e w1 h; have h := h.keep; rw [HB.out] at h; obtain ⟨rfl, hk1⟩ := h; have HK1 := Lib.hid hk1; clear hk1)
    go_ret2
    exact ⟨by unfold cliqueE; rw [HB.out]; rfl, HK1.out⟩
  · have HB := Lib.hid hb; clear hb
    go_enter Tryz.func78, Tryz.ntmps78
    go_wp2_with (first | (go_at_call 116; refine (valid_any HV.out hlen).mono ?_; rintro e w1 h; have h := h.keep; rw [HB.out] at h; obtain ⟨rfl, hk1⟩ := h; have HK1 := Lib.hid hk1; clear hk1) | (go_at_call 82; refine (best_any (validB_true.1 HB.out) (HV.out.keep HK1.out (fun _ _ h => h)) (fun j hj => (HK1.out.cell (p := ⟨3, j, none⟩) hw3 (fun h => h)).trans (HT.out j hj)) (Nat.lt_of_lt_of_le hw3 HK1.out.size)).mono ?_; rintro e w2 ⟨rfl, hk2⟩; have HK2 := Lib.hid hk2; clear hk2))
    go_ret2
    exact ⟨by unfold cliqueE; rw [HB.out]; rfl, HK1.out.trans HK2.out (fun _ _ h => h)⟩

def baysB (g : List Int) : Bool := validB g && (g.length == 8)
theorem bays_any {w : World} {v : Value} {g : List Int} (hv : Rd w 1 v g.length (icells g)) (hlen : g.length < 9223372036854775807) (hT : TabAt 3 Lib.deBruijn64tab w) (hw3 : 3 < w.heap.size) :
    Calls Tryz.prog 54 #[v] w (IdxPost w (.bool (baysB g))) := by
  obtain ⟨ao, cap, hve, _⟩ := hv.shape
  subst hve
  have HC := Lib.hid (chClique_any hv hlen hT hw3); clear hT hv
  cases hb : validB g
  · have HB := Lib.hid hb; clear hb
    go_enter Tryz.func54, Tryz.ntmps54
    go_wp2_with (go_at_call 78; refine HC.out.mono ?_; rintro e w1 h; unfold cliqueE at h; rw [HB.out] at h; obtain ⟨rfl, hk1⟩ := h; have HK1 := Lib.hid hk1; clear hk1)
    go_ret
    exact ⟨by unfold baysB; rw [HB.out]; rfl, HK1.out⟩
  · have HB := Lib.hid hb; clear hb
    have HE := Lib.hid (show baysB g = ((g.length : Int) == 8) by unfold baysB; rw [HB.out, Bool.true_and, Bool.eq_iff_iff, beq_iff_eq, beq_iff_eq]; omega)
    go_enter Tryz.func54, Tryz.ntmps54
    go_wp2_with (go_at_call 78; refine HC.out.mono ?_; rintro e w1 h; unfold cliqueE at h; rw [HB.out] at h; obtain ⟨rfl, hk1⟩ := h; have HK1 := Lib.hid hk1; clear hk1)
    go_ret
    exact ⟨by rw [HE.out]; rfl, HK1.out⟩
end Go.Proofs.YthdkamnclbfehaaGreatDoor

/- A graph that has an elimination order has a colouring with as many colours as its greatest clique has nodes; the search finds one: plain Lean. -/
namespace Go.Proofs.YthdkamnclbfehaaGreatDoor
set_option linter.unusedSimpArgs false
set_option linter.unusedVariables false
set_option linter.unnecessarySimpa false
open Go.RowKit

def adj (g : List Int) (i j : Nat) : Bool := (gn g i).testBit j
theorem Graph.gn_lt {g : List Int} (h : Graph g) {i : Nat} (hi : i < g.length) : gn g i < 2 ^ g.length := (h.bound hi).2
theorem Graph.adj_lt {g : List Int} (h : Graph g) {i j : Nat} (hi : i < g.length) (ha : adj g i j = true) : j < g.length := by
  rcases Nat.lt_or_ge j g.length with hl | hl
  · exact hl
  · have : (gn g i).testBit j = false := Nat.testBit_lt_two_pow (Nat.lt_of_lt_of_le (h.gn_lt hi) (Nat.pow_le_pow_right (by decide) hl))
    unfold adj at ha
    rw [this] at ha; cases ha
theorem Graph.ibit {g : List Int} (h : Graph g) {i : Nat} (hi : i < g.length) (j : Nat) : g.getD i 0 / 2 ^ j % 2 = if adj g i j then 1 else 0 := by
  rw [(h.bound hi).1]
  exact ibit_nat (gn g i) j
theorem Graph.adj_self {g : List Int} (h : Graph g) {i : Nat} (hi : i < g.length) : adj g i i = false := by
  have h1 := (h.2.2 i hi).2.2.1
  rw [h.ibit hi i] at h1
  cases hc : adj g i i with
  | true => rw [hc] at h1; exact absurd rfl h1
  | false => rfl
theorem Graph.adj_symm {g : List Int} (h : Graph g) {i j : Nat} (hi : i < g.length) (hj : j < g.length) : adj g i j = adj g j i := by
  have h1 := (h.2.2 i hi).2.2.2 j hj
  rw [h.ibit hi j, h.ibit hj i] at h1
  cases hc : adj g i j <;> cases hd : adj g j i <;> rw [hc, hd] at h1 <;> simp at h1 <;> rfl
theorem bit_lt {s n i : Nat} (hs : s < 2 ^ n) (h : s.testBit i = true) : i < n := by
  rcases Nat.lt_or_ge i n with hl | hl
  · exact hl
  · have : s.testBit i = false := Nat.testBit_lt_two_pow (Nat.lt_of_lt_of_le hs (Nat.pow_le_pow_right (by decide) hl))
    rw [this] at h; cases h
theorem mem_elems {s i : Nat} (hs : s < 4096) : i ∈ elems s ↔ s.testBit i = true := by
  unfold elems
  rw [List.mem_filter, List.mem_range]
  exact ⟨fun h => h.2, fun h => ⟨bit_lt (n := 12) hs h, h⟩⟩
theorem offB_false {g : List Int} {s i : Nat} : offB g s i = false ↔ ∀ k, s.testBit k = true → k ≠ i → adj g i k = true := by
  unfold offB adj
  rw [bne_eq_false_iff_eq]
  constructor
  · intro h k hk hki
    have := congrArg (fun x => Nat.testBit x k) h
    simp only [testBit_sdiff, Nat.zero_testBit, hk, Bool.true_and, Nat.testBit_two_pow] at this
    cases hg : (gn g i).testBit k with
    | true => rfl
    | false => rw [hg] at this; simp at this; exact absurd this.symm hki
  · intro h
    apply Nat.eq_of_testBit_eq
    intro k
    simp only [testBit_sdiff, Nat.zero_testBit, Nat.testBit_two_pow]
    cases hk : s.testBit k with
    | false => rfl
    | true =>
      by_cases hki : k = i
      · subst hki; simp
      · rw [h k hk hki]; rfl
theorem cliqueB_iff {g : List Int} {s : Nat} (hs : s < 4096) : cliqueB g s = true ↔ ∀ i k, s.testBit i = true → s.testBit k = true → k ≠ i → adj g i k = true := by
  unfold cliqueB
  rw [Bool.not_eq_true', List.any_eq_false]
  constructor
  · intro h i k hi hk hki
    have := h i ((mem_elems hs).2 hi)
    exact offB_false.1 (by simpa using this) k hk hki
  · intro h i hi
    have hi' := (mem_elems hs).1 hi
    have := (offB_false (g := g) (s := s) (i := i)).2 (fun k hk hki => h i k hi' hk hki)
    simp [this]
theorem best_max (g : List Int) : ∀ (k s : Nat), s < k → cliqueB g s = true → cnt12 s ≤ cnt12 (bestTo g k) := by
  intro k
  induction k with
  | zero => intro s hs; omega
  | succ k ih =>
    intro s hs hc
    rw [bestTo_succ]
    unfold bestStep
    by_cases he : s = k
    · subst he
      by_cases h1 : cnt12 (bestTo g s) < cnt12 s ∧ cliqueB g s = true
      · rw [if_pos h1]; exact Nat.le_refl _
      · rw [if_neg h1]
        rcases Nat.lt_or_ge (cnt12 (bestTo g s)) (cnt12 s) with h2 | h2
        · exact absurd ⟨h2, hc⟩ h1
        · exact h2
    · have := ih s (by omega) hc
      by_cases h1 : cnt12 (bestTo g k) < cnt12 k ∧ cliqueB g k = true
      · rw [if_pos h1]; omega
      · rw [if_neg h1]; exact this
theorem countP_or {p q r : Nat → Bool} (h : ∀ x, p x = (q x || r x)) (hn : ∀ x, q x = true → r x = true → False) : ∀ l : List Nat, l.countP p = l.countP q + l.countP r := by
  intro l
  induction l with
  | nil => rfl
  | cons x l ih =>
    rw [List.countP_cons, List.countP_cons, List.countP_cons, ih, h x]
    cases hq : q x <;> cases hr : r x
    · simp
    · simp; omega
    · simp; omega
    · exact (hn x hq hr).elim
theorem cnt12_or {s i : Nat} (hi : i < 12) (h : s.testBit i = false) : cnt12 (s ||| 2 ^ i) = cnt12 s + 1 := by
  have e : ∀ x, cnt12 x = (List.range 12).countP (x.testBit ·) := fun x => by unfold cnt12; rw [List.countP_eq_length_filter]
  rw [e, e, countP_or (q := (s.testBit ·)) (r := fun x => decide (x = i)) (fun x => by simp only [Nat.testBit_or, Nat.testBit_two_pow]; congr 1; exact decide_eq_decide.2 eq_comm) (fun x hq hr => by
    have : x = i := of_decide_eq_true hr
    subst this
    rw [h] at hq; cases hq)]
  congr 1
  have : ∀ i, i < 12 → (List.range 12).countP (fun x => decide (x = i)) = 1 := by decide
  exact this i hi
theorem pigeon : ∀ (m : Nat) (L : List Nat), L.length < m → ∃ c, c < m ∧ c ∉ L := by
  intro m
  induction m with
  | zero => intro L h; omega
  | succ m ih =>
    intro L h
    by_cases hm : m ∈ L
    · have hlt : (L.filter (fun x => decide (x ≠ m))).length < L.length := by
        have h1 := List.length_filter_le (fun x => decide (x ≠ m)) L
        rcases Nat.lt_or_ge (L.filter (fun x => decide (x ≠ m))).length L.length with h2 | h2
        · exact h2
        · have := List.length_filter_eq_length_iff.1 (Nat.le_antisymm h1 h2) m hm
          simp at this
      obtain ⟨c, hc, hn⟩ := ih _ (by omega : (L.filter (fun x => decide (x ≠ m))).length < m)
      exact ⟨c, by omega, fun hmem => hn (List.mem_filter.2 ⟨hmem, by simp; omega⟩)⟩
    · exact ⟨m, by omega, hm⟩

/-- Whether a set of nodes can be eliminated. -/
def elimB (g : List Int) : Nat → Nat → Bool
  | 0, _ => true
  | f + 1, left => if left = 0 then true else match (elems left).find? (fun i => cliqueB g (gn g i &&& left)) with | none => false | some i => elimB g f (sdiff left (2 ^ i))
def orderB (g : List Int) : Bool := elimB g 4096 (2 ^ g.length - 1)
def most (g : List Int) : Nat := cnt12 (bestF g)
theorem sdiff_bit_lt {left i : Nat} (h : left.testBit i = true) : sdiff left (2 ^ i) < left := by
  have hne : sdiff left (2 ^ i) ≠ left := fun e => by
    have := congrArg (fun x => Nat.testBit x i) e
    simp only [testBit_sdiff, h, Nat.testBit_two_pow_self, Bool.not_true, Bool.and_false] at this
    cases this
  have hle : sdiff left (2 ^ i) = left &&& sdiff left (2 ^ i) := by
    apply Nat.eq_of_testBit_eq
    intro k
    simp only [Nat.testBit_and, testBit_sdiff]
    cases left.testBit k <;> rfl
  have : sdiff left (2 ^ i) ≤ left := by rw [hle]; exact Nat.and_le_left
  omega
theorem col_exists {g : List Int} (hg : Graph g) : ∀ (f left : Nat), left < f → left < 2 ^ g.length → elimB g f left = true →
    ∃ c : Nat → Nat, (∀ i, left.testBit i = true → c i < most g) ∧ ∀ i j, left.testBit i = true → left.testBit j = true → adj g i j = true → c i ≠ c j := by
  intro f
  induction f with
  | zero => intro left h; omega
  | succ f ih =>
    intro left hlf hl he
    have h12 := pow_le_4096 hg.2.1
    unfold elimB at he
    by_cases h0 : left = 0
    · subst h0
      have hz : ∀ i, Nat.testBit 0 i = true → False := fun i hi => by rw [Nat.zero_testBit] at hi; cases hi
      exact ⟨fun _ => 0, ⟨fun i hi => (hz i hi).elim, fun i j hi => (hz i hi).elim⟩⟩
    rw [if_neg h0] at he
    cases hfd : (elems left).find? (fun i => cliqueB g (gn g i &&& left)) with
    | none => rw [hfd] at he; cases he
    | some i =>
      rw [hfd] at he
      simp only at he
      have hcl := List.find?_some hfd
      have hil := (mem_elems (by omega)).1 (List.mem_of_find?_eq_some hfd)
      have hin := bit_lt hl hil
      have hlt := sdiff_bit_lt hil
      obtain ⟨c, hc1, hc2⟩ := ih (sdiff left (2 ^ i)) (by omega) (by omega) he
      obtain ⟨N, hN⟩ : ∃ N, gn g i &&& left = N := ⟨_, rfl⟩
      rw [hN] at hcl
      have hNl : N < 2 ^ g.length := by rw [← hN]; exact Nat.lt_of_le_of_lt Nat.and_le_right hl
      have hNb : ∀ k, N.testBit k = (adj g i k && left.testBit k) := fun k => by rw [← hN, Nat.testBit_and]; rfl
      have hNi : N.testBit i = false := by rw [hNb, hg.adj_self hin]; rfl
      have hcq := (cliqueB_iff (g := g) (s := N) (by omega)).1 hcl
      have hor : N ||| 2 ^ i < 2 ^ g.length := Nat.or_lt_two_pow hNl (Nat.pow_lt_pow_right (by decide) hin)
      have hbig : cliqueB g (N ||| 2 ^ i) = true := (cliqueB_iff (by omega)).2 fun a b ha hb hab => by
        simp only [Nat.testBit_or, Nat.testBit_two_pow, Bool.or_eq_true, decide_eq_true_eq] at ha hb
        rcases ha with ha | ha <;> rcases hb with hb | hb
        · exact hcq a b ha hb hab
        · subst hb
          have h1 : adj g i a = true := by have := hNb a; rw [ha] at this; exact (Bool.and_eq_true_iff.1 this.symm).1
          rw [hg.adj_symm (hg.adj_lt hin h1) hin]; exact h1
        · subst ha
          have := hNb b; rw [hb] at this; exact (Bool.and_eq_true_iff.1 this.symm).1
        · omega
      have hcount := best_max g (2 ^ g.length) (N ||| 2 ^ i) hor hbig
      rw [cnt12_or (by have := hg.2.1; omega) hNi] at hcount
      obtain ⟨d, hd1, hd2⟩ := pigeon (most g) ((elems N).map c) (by rw [List.length_map]; show cnt12 N < most g; unfold most bestF; omega)
      have hsd : ∀ k, (sdiff left (2 ^ i)).testBit k = (left.testBit k && !decide (i = k)) := fun k => by rw [testBit_sdiff, Nat.testBit_two_pow]
      have hne : ∀ k, left.testBit k = true → adj g i k = true → d ≠ c k := fun k hk ha e => hd2 (by
        rw [e]
        exact List.mem_map.2 ⟨k, (mem_elems (by omega)).2 (by rw [hNb, ha, hk]; rfl), rfl⟩)
      refine ⟨fun k => if k = i then d else c k, fun k hk => ?_, fun a b ha hb hab => ?_⟩
      · by_cases hki : k = i
        · simp only [if_pos hki]; exact hd1
        · simp only [if_neg hki]
          exact hc1 k (by rw [hsd, hk]; simp; omega)
      · have han := bit_lt hl ha
        have hbn := bit_lt hl hb
        by_cases h1 : a = i
        · subst h1
          by_cases h2 : b = a
          · subst h2; rw [hg.adj_self han] at hab; cases hab
          · simp only [if_true, if_neg h2]
            exact hne b hb hab
        · by_cases h2 : b = i
          · subst h2
            simp only [if_true, if_neg h1]
            exact fun e => hne a ha (by rw [hg.adj_symm hbn han]; exact hab) e.symm
          · simp only [if_neg h1, if_neg h2]
            exact hc2 a b (by rw [hsd, ha]; simp; omega) (by rw [hsd, hb]; simp; omega) hab

/-- The search for a colouring. -/
def clashB (g : List Int) (i : Nat) (out : List Nat) (c : Nat) : Bool := (elems (gn g i &&& (2 ^ i - 1))).any (fun j => out.getD j 0 == c)
def tryC (next : List Nat → Bool × List Nat) (g : List Int) (i : Nat) : List Nat → List Nat → Bool × List Nat
  | [], out => (false, out)
  | c :: cs, out => if clashB g i out c then tryC next g i cs out else if (next (out.set i c)).1 then next (out.set i c) else tryC next g i cs (next (out.set i c)).2
def tryF (g : List Int) (m : Nat) : Nat → Nat → List Nat → Bool × List Nat
  | 0, _, out => (true, out)
  | k + 1, i, out => tryC (tryF g m k (i + 1)) g i (List.range m) out
/-- The first i nodes are coloured properly. -/
def Part (g : List Int) (m i : Nat) (out : List Nat) : Prop := (∀ a, a < i → out.getD a 0 < m) ∧ ∀ a b, a < i → b < i → adj g a b = true → out.getD a 0 ≠ out.getD b 0
theorem getD_set_eq {l : List Nat} {i c : Nat} (h : i < l.length) : (l.set i c).getD i 0 = c := by simp [List.getD, List.getElem?_set, h]
theorem getD_set_ne {l : List Nat} {i j c : Nat} (h : j ≠ i) : (l.set i c).getD j 0 = l.getD j 0 := by simp [List.getD, List.getElem?_set, Ne.symm h]
theorem clashB_false {g : List Int} (hg : Graph g) {i c : Nat} {out : List Nat} (hi : i < g.length) : clashB g i out c = false ↔ ∀ j, j < i → adj g i j = true → out.getD j 0 ≠ c := by
  have h12 := pow_le_4096 hg.2.1
  have hs : gn g i &&& (2 ^ i - 1) < 4096 := Nat.lt_of_lt_of_le (Nat.lt_of_le_of_lt Nat.and_le_left (hg.gn_lt hi)) h12
  unfold clashB
  rw [List.any_eq_false]
  constructor
  · intro h j hj ha
    have := h j ((mem_elems hs).2 (by rw [Nat.testBit_and, Nat.testBit_two_pow_sub_one]; unfold adj at ha; rw [ha]; simpa using hj))
    simpa using this
  · intro h j hj
    have := (mem_elems hs).1 hj
    rw [Nat.testBit_and, Nat.testBit_two_pow_sub_one, Bool.and_eq_true, decide_eq_true_eq] at this
    simpa using h j this.2 this.1
theorem Part.set {g : List Int} (hg : Graph g) {m i c : Nat} {out : List Nat} (hi : i < g.length) (hlen : out.length = g.length) (h : Part g m i out) (hc : c < m) (hn : clashB g i out c = false) : Part g m (i + 1) (out.set i c) := by
  have hcl := (clashB_false hg hi).1 hn
  refine ⟨fun a ha => ?_, fun a b ha hb hab => ?_⟩
  · by_cases e : a = i
    · subst e; rw [getD_set_eq (by omega)]; exact hc
    · rw [getD_set_ne e]; exact h.1 a (by omega)
  · by_cases e1 : a = i
    · subst e1
      by_cases e2 : b = a
      · subst e2; rw [hg.adj_self hi] at hab; cases hab
      · rw [getD_set_eq (by omega), getD_set_ne e2]
        exact fun e => hcl b (by omega) hab e.symm
    · by_cases e2 : b = i
      · subst e2
        rw [getD_set_eq (by omega), getD_set_ne e1]
        exact hcl a (by omega) (by rw [hg.adj_symm hi (by omega)]; exact hab)
      · rw [getD_set_ne e1, getD_set_ne e2]; exact h.2 a b (by omega) (by omega) hab
/-- What the search keeps. -/
theorem try_keep {g : List Int} {m : Nat} : ∀ (k i : Nat) (out : List Nat), (tryF g m k i out).2.length = out.length ∧ ∀ j, j < i → (tryF g m k i out).2.getD j 0 = out.getD j 0 := by
  intro k
  induction k with
  | zero => intro i out; exact ⟨rfl, fun _ _ => rfl⟩
  | succ k ih =>
    intro i out
    show (tryC (tryF g m k (i + 1)) g i (List.range m) out).2.length = out.length ∧ _
    have : ∀ (cs : List Nat) (out : List Nat), (tryC (tryF g m k (i + 1)) g i cs out).2.length = out.length ∧ ∀ j, j < i → (tryC (tryF g m k (i + 1)) g i cs out).2.getD j 0 = out.getD j 0 := by
      intro cs
      induction cs with
      | nil => intro out; exact ⟨rfl, fun _ _ => rfl⟩
      | cons c cs ih2 =>
        intro out
        have h1 := ih (i + 1) (out.set i c)
        unfold tryC
        by_cases hc : clashB g i out c = true
        · rw [if_pos hc]; exact ih2 out
        · rw [if_neg hc]
          by_cases ht : (tryF g m k (i + 1) (out.set i c)).1 = true
          · rw [if_pos ht]
            exact ⟨by rw [h1.1, List.length_set], fun j hj => by rw [h1.2 j (by omega), getD_set_ne (by omega)]⟩
          · rw [if_neg ht]
            have h2 := ih2 (tryF g m k (i + 1) (out.set i c)).2
            exact ⟨by rw [h2.1, h1.1, List.length_set], fun j hj => by rw [h2.2 j hj, h1.2 j (by omega), getD_set_ne (by omega)]⟩
    exact this (List.range m) out
theorem Part.same {g : List Int} {m i : Nat} {o o' : List Nat} (h : Part g m i o) (e : ∀ j, j < i → o'.getD j 0 = o.getD j 0) : Part g m i o' :=
  ⟨fun a ha => by rw [e a ha]; exact h.1 a ha, fun a b ha hb hab => by rw [e a ha, e b hb]; exact h.2 a b ha hb hab⟩
theorem try_sound {g : List Int} (hg : Graph g) {m : Nat} : ∀ (k i : Nat) (out : List Nat), i + k = g.length → out.length = g.length → Part g m i out → (tryF g m k i out).1 = true → Part g m g.length (tryF g m k i out).2 := by
  intro k
  induction k with
  | zero => intro i out h1 _ h3 _; rw [Nat.add_zero] at h1; subst h1; exact h3
  | succ k ih =>
    intro i out h1 h2 h3
    show (tryC (tryF g m k (i + 1)) g i (List.range m) out).1 = true → Part g m g.length (tryC (tryF g m k (i + 1)) g i (List.range m) out).2
    have : ∀ (cs : List Nat) (out : List Nat), (∀ c ∈ cs, c < m) → out.length = g.length → Part g m i out → (tryC (tryF g m k (i + 1)) g i cs out).1 = true → Part g m g.length (tryC (tryF g m k (i + 1)) g i cs out).2 := by
      intro cs
      induction cs with
      | nil => intro out _ _ _ h; cases h
      | cons c cs ih2 =>
        intro out hcs hl hp
        have hk := try_keep (g := g) (m := m) k (i + 1) (out.set i c)
        unfold tryC
        by_cases hc : clashB g i out c = true
        · rw [if_pos hc]; exact ih2 out (fun x hx => hcs x (List.mem_cons_of_mem _ hx)) hl hp
        · rw [if_neg hc]
          have hp2 := hp.set hg (by omega) hl (hcs c (List.mem_cons_self ..)) (by simpa using hc)
          by_cases ht : (tryF g m k (i + 1) (out.set i c)).1 = true
          · rw [if_pos ht]
            exact ih (i + 1) (out.set i c) (by omega) (by rw [List.length_set]; exact hl) hp2
          · rw [if_neg ht]
            exact ih2 _ (fun x hx => hcs x (List.mem_cons_of_mem _ hx)) (by rw [hk.1, List.length_set]; exact hl) (hp.same fun j hj => by rw [hk.2 j (by omega), getD_set_ne (by omega)])
    exact this (List.range m) out (fun c hc => List.mem_range.1 hc) h2 h3
theorem try_complete {g : List Int} (hg : Graph g) {m : Nat} {f : Nat → Nat} (hf1 : ∀ a, a < g.length → f a < m) (hf2 : ∀ a b, a < g.length → b < g.length → adj g a b = true → f a ≠ f b) :
    ∀ (k i : Nat) (out : List Nat), i + k = g.length → out.length = g.length → (∀ j, j < i → out.getD j 0 = f j) → (tryF g m k i out).1 = true := by
  intro k
  induction k with
  | zero => intro i out _ _ _; rfl
  | succ k ih =>
    intro i out h1 h2 h3
    show (tryC (tryF g m k (i + 1)) g i (List.range m) out).1 = true
    have : ∀ (cs : List Nat) (out : List Nat), f i ∈ cs → out.length = g.length → (∀ j, j < i → out.getD j 0 = f j) → (tryC (tryF g m k (i + 1)) g i cs out).1 = true := by
      intro cs
      induction cs with
      | nil => intro out h; cases h
      | cons c cs ih2 =>
        intro out hm hl hp
        have hk := try_keep (g := g) (m := m) k (i + 1) (out.set i c)
        unfold tryC
        by_cases hci : f i = c
        · have hno : ¬ clashB g i out c = true := by
            have := (clashB_false (out := out) (c := c) hg (show i < g.length by omega)).2 (fun j hj ha e => by
              rw [hp j hj, ← hci] at e
              exact hf2 i j (by omega) (by omega) ha e.symm)
            rw [this]; exact Bool.false_ne_true
          rw [if_neg hno]
          have ht : (tryF g m k (i + 1) (out.set i c)).1 = true := ih (i + 1) (out.set i c) (by omega) (by rw [List.length_set]; exact hl) (fun j hj => by
            by_cases e : j = i
            · subst e; rw [getD_set_eq (by omega)]; exact hci.symm
            · rw [getD_set_ne e]; exact hp j (by omega))
          rw [if_pos ht]; exact ht
        · have hm' : f i ∈ cs := (List.mem_cons.1 hm).resolve_left hci
          by_cases hc : clashB g i out c = true
          · rw [if_pos hc]; exact ih2 out hm' hl hp
          · rw [if_neg hc]
            by_cases ht : (tryF g m k (i + 1) (out.set i c)).1 = true
            · rw [if_pos ht]; exact ht
            · rw [if_neg ht]
              exact ih2 _ hm' (by rw [hk.1, List.length_set]; exact hl) (fun j hj => by rw [hk.2 j (by omega), getD_set_ne (by omega)]; exact hp j hj)
    exact this (List.range m) out (List.mem_range.2 (hf1 i (by omega))) h2 h3
def colF (g : List Int) : List Nat := (tryF g (most g) g.length 0 (List.replicate g.length 0)).2
theorem col_ok {g : List Int} (hg : Graph g) (ho : orderB g = true) : (tryF g (most g) g.length 0 (List.replicate g.length 0)).1 = true ∧ Part g (most g) g.length (colF g) ∧ (colF g).length = g.length := by
  have h12 := pow_le_4096 hg.2.1
  have h1 : 1 ≤ 2 ^ g.length := Nat.one_le_two_pow
  obtain ⟨c, hc1, hc2⟩ := col_exists hg 4096 (2 ^ g.length - 1) (by omega) (by omega) ho
  have hb : ∀ a, a < g.length → (2 ^ g.length - 1).testBit a = true := fun a ha => by rw [Nat.testBit_two_pow_sub_one]; simpa using ha
  have ht := try_complete hg (m := most g) (f := c) (fun a ha => hc1 a (hb a ha)) (fun a b ha hb' hab => hc2 a b (hb a ha) (hb b hb') hab) g.length 0 (List.replicate g.length 0) (by omega) (by simp) (fun j hj => by omega)
  exact ⟨ht, try_sound hg g.length 0 _ (by omega) (by simp) ⟨fun a ha => by omega, fun a b ha => by omega⟩ ht, by unfold colF; rw [(try_keep _ _ _).1]; simp⟩
end Go.Proofs.YthdkamnclbfehaaGreatDoor
