/- chordal: clique, best, Clique, and house.bays: of every slice they answer whether it is a graph of eight nodes. -/
import Derived.Test.YtkkjonkcjlnohaaGreatDoorSM18
import Derived.Test.YtkkjonkcjlnohaaGreatDoorSM19
import Derived.Shelf.Abstract

/- chordal: clique, best, Clique, and house.bays: of every slice they answer whether it is a graph of eight nodes. -/
namespace Go.Proofs.YtkkjonkcjlnohaaGreatDoor
set_option linter.unusedSimpArgs false
set_option linter.unusedVariables false
set_option linter.unnecessarySimpa false
open Go.RowKit

def gn (g : List Int) (i : Nat) : Nat := (g.getD i 0).toNat
def offB (g : List Int) (s i : Nat) : Bool := sdiff (sdiff s (gn g i)) (2 ^ i) != 0
def cliqueB (g : List Int) (s : Nat) : Bool := !(elems s).any (offB g s)

theorem Graph.bound {g : List Int} (h : Graph g) {i : Nat} (hi : i < g.length) : g.getD i 0 = (gn g i : Int) ∧ gn g i < 2 ^ g.length := by
  have h1 := (h.2.2 i hi).1
  have h2 := (h.2.2 i hi).2.1
  unfold gn
  refine ⟨by omega, ?_⟩
  have : ((2 : Int) ^ g.length) = ((2 ^ g.length : Nat) : Int) := by push_cast; rfl
  omega
theorem pow_le_4096 {n : Nat} (h : n ≤ 12) : 2 ^ n ≤ 4096 := Nat.pow_le_pow_right (n := 2) (by decide) h

set_option maxHeartbeats 800000 in
set_option maxRecDepth 100000 in
theorem clique1_any {w : World} {v : Value} {g : List Int} {s i b2 b3 : Nat} (hg : Graph g) (hv : Rd w 1 v g.length (icells g)) (hs : s < 4096) (hi : i < g.length)
    (h2 : w.cell? ⟨b2, 0, none⟩ = some v) (h3 : w.cell? ⟨b3, 0, none⟩ = some (.int .i64 s)) :
    Calls Tryz.prog 145 #[.int .i64 i, .pointer (some ⟨b3, 0, none⟩), .pointer (some ⟨b2, 0, none⟩)] w (DrawPost w (.bool (offB g s i))) := by
  have hn := hg.2.1
  obtain ⟨b, o, cap, hve, hcell⟩ : ∃ b o cap, v = .slice (some ⟨b, o, none⟩) g.length cap ∧ w.cell? ⟨b, o + i, none⟩ = some (.int .i64 (g.getD i 0)) := by
    rcases hv.2.2 with ⟨h, h'⟩ | ⟨b, o, c, h, _, _, hx⟩
    · omega
    · exact ⟨b, o, c, h, hx i _ (icells_get g i hi)⟩
  subst hve
  obtain ⟨hb1, hb2⟩ := hg.bound hi
  have h4 := pow_le_4096 hn
  rw [hb1] at hcell
  have hlt : gn g i < 9223372036854775808 := Nat.lt_of_lt_of_le hb2 (Nat.le_trans h4 (by decide))
  have hs2 : s < 9223372036854775808 := Nat.lt_of_lt_of_le hs (by decide)
  have e1 := i64_andNot_nat s (gn g i) hs2 hlt
  have hi12 : i ≤ 62 := by omega
  have hpw : 2 ^ i ≤ 4096 := pow_le_4096 (by omega)
  have e2 : IntKind.i64.wrap ((2 : Int) ^ i) = ((2 ^ i : Nat) : Int) := by
    have := shl_one i hi12
    rwa [Nat.min_eq_left (by omega)] at this
  have hsd : sdiff s (gn g i) < 2 ^ 12 := sdiff_lt (by omega)
  have e3 := i64_andNot_nat (sdiff s (gn g i)) (2 ^ i) (by omega) (by omega)
  have e4 : (((sdiff (sdiff s (gn g i)) (2 ^ i) : Nat) : Int) != 0) = offB g s i := by
    unfold offB
    rw [Bool.eq_iff_iff, bne_iff_ne, bne_iff_ne]; omega
  obtain ⟨q, hq⟩ : ∃ q : Nat, 2 ^ i = q := ⟨_, rfl⟩
  rw [hq] at e2 e3 e4
  generalize sdiff s (gn g i) = sd at *
  generalize gn g i = gi at *
  generalize sdiff sd q = sr at *
  generalize offB g s i = res at *
  have hiI : (i : Int) < g.length := by omega
  clear hb1 hb2 h4 hsd hpw hq hv hlt hs2
  go_enter Tryz.func145, Tryz.ntmps145
  go_wp2
  go_quiet (fail)
  go_wp2
  go_ret
  exact ⟨rfl, _, rfl⟩

theorem elems_lt {s n i : Nat} (hs : s < 2 ^ n) (h : i ∈ elems s) : i < n := by
  unfold elems at h
  obtain ⟨_, h2⟩ := List.mem_filter.1 h
  rcases Nat.lt_or_ge i n with hl | hl
  · exact hl
  · have : s.testBit i = false := Nat.testBit_lt_two_pow (Nat.lt_of_lt_of_le hs (Nat.pow_le_pow_right (by decide) hl))
    rw [this] at h2; cases h2

set_option maxHeartbeats 800000 in
set_option maxRecDepth 100000 in
theorem clique_any {w : World} {v : Value} {g : List Int} {s : Nat} (hg : Graph g) (hv : Rd w 1 v g.length (icells g)) (hs : s < 2 ^ g.length) (hT : TabAt 6 Lib.deBruijn64tab w) (hw3 : 6 < w.heap.size) :
    Calls Tryz.prog 95 #[v, .int .i64 s] w (IdxPost w (.bool (cliqueB g s))) := by
  have h4 : s < 4096 := Nat.lt_of_lt_of_le hs (pow_le_4096 hg.2.1)
  have hk2 : Keep (fun _ => False) w ((w.alloc (.cells #[v] 57)).alloc (.cells #[.int .i64 s] 3)) := ((Keep.refl _ _).alloc _).alloc _
  have HT := Lib.hid (show TabAt 6 Lib.deBruijn64tab ((w.alloc (.cells #[v] 57)).alloc (.cells #[.int .i64 s] 3)) from fun j hj => (hk2.cell (p := ⟨6, j, none⟩) hw3 (fun h => h)).trans (hT j hj))
  have HV := Lib.hid (hv.keep hk2 (fun _ _ h => h))
  have HK2 := Lib.hid hk2; clear hk2
  have HG := Lib.hid hg
  have HS := Lib.hid hs; clear hs
  obtain ⟨ao, cap, hve, _⟩ := hv.shape
  clear hv hT hg
  subst hve
  have HC : Hid (∀ w3 v', Keep (fun _ => False) ((w.alloc (.cells #[Value.slice ao g.length cap] 57)).alloc (.cells #[.int .i64 s] 3)) w3 → w3.ownsRow ((w.alloc (.cells #[Value.slice ao g.length cap] 57)).alloc (.cells #[.int .i64 s] 3)).heap.size 3 1 v' (elems s).length (ncells (elems s)) →
      Calls Tryz.prog 143 #[v', .func (.func 145) #[] #[.pointer (some ⟨w.heap.size + 1, 0, none⟩), .pointer (some ⟨w.heap.size, 0, none⟩)]] w3 (IdxPost w3 (.bool ((elems s).any (offB g s))))) := Lib.hid (by
    intro w3 v' hk3 hown
    have hrd : Rd w3 1 v' ((elems s).map Int.ofNat).length (icells ((elems s).map Int.ofNat)) := by
      have := ownsRow_rd hown (by intro u hu; obtain ⟨_, _, rfl⟩ := List.mem_map.1 hu; rfl)
      rw [ncells_icells] at this
      simpa using this
    have hany : ((elems s).map Int.ofNat).any (fun x => offB g s x.toNat) = (elems s).any (offB g s) := by
      rw [List.any_map]; rfl
    have := containsFunc_any (p := fun x => offB g s x.toNat) (F := 145) (capt := #[.pointer (some ⟨w.heap.size + 1, 0, none⟩), .pointer (some ⟨w.heap.size, 0, none⟩)]) hrd (enters_of Tryz.func145 (by kernel_rfl) rfl) (by
      intro w4 hk4 x hx
      obtain ⟨i, hi, rfl⟩ := List.mem_map.1 hx
      have hk34 := hk3.trans hk4 (fun _ _ h => h)
      have c2 : w4.cell? ⟨w.heap.size, 0, none⟩ = some (Value.slice ao g.length cap) := by
        rw [hk34.cell (p := ⟨w.heap.size, 0, none⟩) (by simp; omega) (fun h => h)]
        rw [World.cell?_alloc_past _ _ _ (by simp)]
        rw [World.cell?_alloc_new]; rfl
      have c3 : w4.cell? ⟨w.heap.size + 1, 0, none⟩ = some (.int .i64 s) := by
        rw [hk34.cell (p := ⟨w.heap.size + 1, 0, none⟩) (by simp) (fun h => h)]
        have := World.cell?_alloc_new (w.alloc (.cells #[Value.slice ao g.length cap] 57)) #[.int .i64 s] 3 0
        simpa using this
      refine (clique1_any HG.out (HV.out.keep hk34 (fun _ _ h => h)) h4 (elems_lt HS.out hi) c2 c3).mono ?_
      intro e w5 h5
      exact h5.keep) (by
        have : (elems s).length ≤ 12 := by
          have := List.length_filter_le (s.testBit ·) (List.range 12)
          simpa [elems] using this
        simp; omega)
    rw [hany] at this
    exact this)
  go_enter Tryz.func95, Tryz.ntmps95
  go_wp2_with (first | (go_at_call 144; refine (nodes_any s h4 _ HT.out (by simp; omega)).mono ?_; rintro e w3 ⟨v', rfl, hown, hk3⟩; have HO := Lib.hid hown; clear hown; have HK3 := Lib.hid hk3; clear hk3; have hshape := ownsRow_shape HO.out; obtain ⟨ao', cap', hv', _⟩ := hshape; subst hv'; have c3 : w3.cell? ⟨w.heap.size + 1, 0, none⟩ = some (.int .i64 s) := by rw [HK3.out.cell (p := ⟨w.heap.size + 1, 0, none⟩) (by simp) (fun h => h)]; simpa using World.cell?_alloc_new (w.alloc (.cells #[Value.slice ao g.length cap] 57)) #[.int .i64 s] 3 0) | (go_at_call 143; refine (HC.out _ _ HK3.out HO.out).mono ?_; rintro e w4 ⟨rfl, hk4⟩; have HK4 := Lib.hid hk4; clear hk4))
  go_ret
  exact ⟨by unfold cliqueB; rfl, (HK2.out.trans HK3.out (fun _ _ h => h)).trans HK4.out (fun _ _ h => h)⟩
end Go.Proofs.YtkkjonkcjlnohaaGreatDoor

/- chordal: all, best, Clique, and house.bays: of every slice it answers whether it is a graph of eight nodes. -/
namespace Go.Proofs.YtkkjonkcjlnohaaGreatDoor
set_option linter.unusedSimpArgs false
set_option linter.unusedVariables false
set_option linter.unnecessarySimpa false
open Go.RowKit

theorem all_any {w : World} {ao : Option Addr} {n c : Nat} (hn : n ≤ 12) : Calls Tryz.prog 141 #[.slice ao n c] w fun e w' => e = .returned (.int .i64 (((2 ^ n : Nat) : Int) - 1)) ∧ w = w' := by
  have hp := pow_le_4096 hn
  have h1 : 1 ≤ 2 ^ n := Nat.one_le_two_pow
  have e1 : wrap64 ((2 : Int) ^ n) = ((2 ^ n : Nat) : Int) := by rw [wrap64_pow hn]; push_cast; rfl
  obtain ⟨q, hq⟩ : ∃ q : Nat, 2 ^ n = q := ⟨_, rfl⟩
  rw [hq] at hp h1 e1 ⊢
  have HQ := Lib.hid hq; clear hq
  go_enter Tryz.func141, Tryz.ntmps141
  go_wp2
  go_ret
  exact ⟨rfl, rfl⟩

def bestStep (g : List Int) (b s : Nat) : Nat := if cnt12 b < cnt12 s ∧ cliqueB g s = true then s else b
def bestTo (g : List Int) (k : Nat) : Nat := (List.range k).foldl (bestStep g) 0
def bestF (g : List Int) : Nat := bestTo g (2 ^ g.length)
theorem bestTo_succ (g : List Int) (k : Nat) : bestTo g (k + 1) = bestStep g (bestTo g k) k := by simp [bestTo, List.range_succ]
theorem bestTo_lt (g : List Int) : ∀ (k N : Nat), k ≤ N → 0 < N → bestTo g k < N
  | 0, N, _, h => by simpa [bestTo] using h
  | k + 1, N, h, h' => by
    rw [bestTo_succ]; unfold bestStep
    have := bestTo_lt g k N (by omega) h'
    split <;> omega

set_option maxHeartbeats 1000000 in
set_option maxRecDepth 100000 in
theorem best_any {w : World} {v : Value} {g : List Int} (hg : Graph g) (hv : Rd w 1 v g.length (icells g)) (hT : TabAt 6 Lib.deBruijn64tab w) (hw3 : 6 < w.heap.size) :
    Calls Tryz.prog 94 #[v, .func (.func 95) #[v] #[]] w (IdxPost w (.int .i64 (bestF g))) := by
  obtain ⟨ao, cap, hve, _⟩ := hv.shape
  have hn := hg.2.1
  have hp := pow_le_4096 hn
  have h1 : 1 ≤ 2 ^ g.length := Nat.one_le_two_pow
  have HT := Lib.hid hT; clear hT
  have HG := Lib.hid hg; clear hg
  subst hve
  have HV := Lib.hid hv; clear hv
  have HBF := Lib.hid (show bestF g = bestTo g (2 ^ g.length) from rfl)
  obtain ⟨N, hN⟩ : ∃ N : Nat, 2 ^ g.length = N := ⟨_, rfl⟩
  have HN := Lib.hid hN
  rw [hN] at hp h1 HBF
  clear hN
  have HALL : Hid (∀ w1, Calls Tryz.prog 141 #[.slice ao g.length cap] w1 fun e w' => e = .returned (.int .i64 ((N : Int) - 1)) ∧ w1 = w') := Lib.hid (fun w1 => by
    have := all_any (w := w1) (ao := ao) (c := cap) hn
    rwa [HN.out] at this)
  go_enter Tryz.func94, Tryz.ntmps94
  go_wp2_with (go_at_call 141; refine (HALL.out _).mono ?_; rintro e w' ⟨rfl, rfl⟩)
  go_loopw [5, 10] (fun b i wr => ∃ k m : Nat, k ≤ N ∧ i = .int .i64 k ∧ b = .int .i64 m ∧ m = bestTo g k ∧ m < N ∧ Keep (fun _ => False) w wr) (fun _ i _ => N - (intOf i).toNat)
  case atStart => exact ⟨0, 0, by omega, rfl, rfl, rfl, by omega, Keep.refl _ _⟩
  case round =>
    obtain ⟨k, m, hk, rfl, rfl, hm, hmN, hkeep⟩ := hrel
    have HM := Lib.hid hm; clear hm
    have HK := Lib.hid hkeep; clear hkeep
    by_cases hlt : k < N
    · have HST := Lib.hid (bestTo_succ g k)
      have HNX := Lib.hid (bestTo_lt g (k + 1) N (by omega) (by omega))
      by_cases hc : cnt12 m < cnt12 k
      · have hd : decide ((cnt12 m : Int) < cnt12 k) = true := by simpa using hc
        cases hq : cliqueB g k
        · have HE := Lib.hid (show bestTo g (k + 1) = m by rw [HST.out, ← HM.out]; simp [bestStep, hq])
          have HQ := Lib.hid hq; clear hq
          have HC := Lib.hid hc; clear hc
          go_wp2_with (first | (go_at_call 142; refine (onesCount_small _ (by omega) _).mono ?_; rintro e w' ⟨rfl, rfl⟩) | (go_at_call 95; refine (clique_any (s := k) HG.out (HV.out.keep HK.out (fun _ _ h => h)) (by rw [HN.out]; exact hlt) (fun j hj => (HK.out.cell (p := ⟨6, j, none⟩) hw3 (fun h => h)).trans (HT.out j hj)) (Nat.lt_of_lt_of_le hw3 HK.out.size)).mono ?_; rintro e w4 ⟨he, hk4⟩; rw [HQ.out] at he; subst he; have HK4 := Lib.hid hk4; clear hk4))
          go_roundw
          case rel => exact ⟨k + 1, m, by omega, by go_num, rfl, HE.out.symm, hmN, HK.out.trans HK4.out (fun _ _ h => h)⟩
          case measure => simp [intOf]; omega
        · have HE := Lib.hid (show bestTo g (k + 1) = k by rw [HST.out, ← HM.out]; simp [bestStep, hq, hc])
          have HQ := Lib.hid hq; clear hq
          have HC := Lib.hid hc; clear hc
          go_wp2_with (first | (go_at_call 142; refine (onesCount_small _ (by omega) _).mono ?_; rintro e w' ⟨rfl, rfl⟩) | (go_at_call 95; refine (clique_any (s := k) HG.out (HV.out.keep HK.out (fun _ _ h => h)) (by rw [HN.out]; exact hlt) (fun j hj => (HK.out.cell (p := ⟨6, j, none⟩) hw3 (fun h => h)).trans (HT.out j hj)) (Nat.lt_of_lt_of_le hw3 HK.out.size)).mono ?_; rintro e w4 ⟨he, hk4⟩; rw [HQ.out] at he; subst he; have HK4 := Lib.hid hk4; clear hk4))
          go_roundw
          case rel => exact ⟨k + 1, k, by omega, by go_num, rfl, HE.out.symm, hlt, HK.out.trans HK4.out (fun _ _ h => h)⟩
          case measure => simp [intOf]; omega
      · have hd : decide ((cnt12 m : Int) < cnt12 k) = false := by simp; omega
        have HE := Lib.hid (show bestTo g (k + 1) = m by rw [HST.out, ← HM.out]; simp [bestStep, hc])
        have HC := Lib.hid hc; clear hc
        go_wp2_with (go_at_call 142; refine (onesCount_small _ (by omega) _).mono ?_; rintro e w' ⟨rfl, rfl⟩)
        go_roundw
        case rel => exact ⟨k + 1, m, by omega, by go_num, rfl, HE.out.symm, hmN, HK.out⟩
        case measure => simp [intOf]; omega
    · have HE := Lib.hid (show bestF g = m by rw [HBF.out, HM.out, show k = N by omega])
      go_wp2
      go_ret
      exact ⟨by rw [HE.out]; rfl, HK.out⟩

def cliqueE (g : List Int) : Int := if validB g then 0 else 2
theorem chClique_any {w : World} {v : Value} {g : List Int} (hv : Rd w 1 v g.length (icells g)) (hlen : g.length < 9223372036854775807) (hT : TabAt 6 Lib.deBruijn64tab w) (hw3 : 6 < w.heap.size) :
    Calls Tryz.prog 60 #[v] w (IdxPost w (.tuple #[.int .i64 (if validB g then bestF g else 0), .int .i64 (cliqueE g)])) := by
  obtain ⟨ao, cap, hve, _⟩ := hv.shape
  subst hve
  have HT := Lib.hid hT; clear hT
  have HV := Lib.hid hv; clear hv
  cases hb : validB g
  · have HB := Lib.hid hb; clear hb
    go_enter Tryz.func60, Tryz.ntmps60
    go_wp2_with (go_at_call 93; refine (valid_any HV.out hlen).mono ?_; rintro e w1 h; have h := h.keep; rw [HB.out] at h; obtain ⟨rfl, hk1⟩ := h; have HK1 := Lib.hid hk1; clear hk1)
    go_ret2
    exact ⟨by unfold cliqueE; rw [HB.out]; rfl, HK1.out⟩
  · have HB := Lib.hid hb; clear hb
    go_enter Tryz.func60, Tryz.ntmps60
    go_wp2_with (first | (go_at_call 93; refine (valid_any HV.out hlen).mono ?_; rintro e w1 h; have h := h.keep; rw [HB.out] at h; obtain ⟨rfl, hk1⟩ := h; have HK1 := Lib.hid hk1; clear hk1) | (go_at_call 94; refine (best_any (validB_true.1 HB.out) (HV.out.keep HK1.out (fun _ _ h => h)) (fun j hj => (HK1.out.cell (p := ⟨6, j, none⟩) hw3 (fun h => h)).trans (HT.out j hj)) (Nat.lt_of_lt_of_le hw3 HK1.out.size)).mono ?_; rintro e w2 ⟨rfl, hk2⟩; have HK2 := Lib.hid hk2; clear hk2))
    go_ret2
    exact ⟨by unfold cliqueE; rw [HB.out]; rfl, HK1.out.trans HK2.out (fun _ _ h => h)⟩

def baysB (g : List Int) : Bool := validB g && (g.length == 8)
theorem bays_any {w : World} {v : Value} {g : List Int} (hv : Rd w 1 v g.length (icells g)) (hlen : g.length < 9223372036854775807) (hT : TabAt 6 Lib.deBruijn64tab w) (hw3 : 6 < w.heap.size) :
    Calls Tryz.prog 35 #[v] w (IdxPost w (.bool (baysB g))) := by
  obtain ⟨ao, cap, hve, _⟩ := hv.shape
  subst hve
  have HC := Lib.hid (chClique_any hv hlen hT hw3); clear hT hv
  cases hb : validB g
  · have HB := Lib.hid hb; clear hb
    go_enter Tryz.func35, Tryz.ntmps35
    go_wp2_with (go_at_call 60; refine HC.out.mono ?_; rintro e w1 h; unfold cliqueE at h; rw [HB.out] at h; obtain ⟨rfl, hk1⟩ := h; have HK1 := Lib.hid hk1; clear hk1)
    go_ret
    exact ⟨by unfold baysB; rw [HB.out]; rfl, HK1.out⟩
  · have HB := Lib.hid hb; clear hb
    have HE := Lib.hid (show baysB g = ((g.length : Int) == 8) by unfold baysB; rw [HB.out, Bool.true_and, Bool.eq_iff_iff, beq_iff_eq, beq_iff_eq]; omega)
    go_enter Tryz.func35, Tryz.ntmps35
    go_wp2_with (go_at_call 60; refine HC.out.mono ?_; rintro e w1 h; unfold cliqueE at h; rw [HB.out] at h; obtain ⟨rfl, hk1⟩ := h; have HK1 := Lib.hid hk1; clear hk1)
    go_ret
    exact ⟨by rw [HE.out]; rfl, HK1.out⟩
end Go.Proofs.YtkkjonkcjlnohaaGreatDoor
