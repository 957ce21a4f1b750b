/- chordal.Colours. -/
import Derived.Test.YthdkamnclbfehaaGreatDoorColours20
import Derived.Test.YthdkamnclbfehaaGreatDoorColours23
import Derived.Deep.OwnRows
import Derived.Deep.LoopGhost
import Derived.Deep.DeepCutAuto
import Derived.Deep.CutBlock

/- chordal.Colours. -/
namespace Go.Proofs.YthdkamnclbfehaaGreatDoor
set_option linter.unusedSimpArgs false
set_option linter.unusedVariables false
set_option linter.unnecessarySimpa false
open Go.RowKit

def ColPost (w : World) (g : List Int) (e : Ending) (w' : World) : Prop :=
  Keep (fun _ => False) w w' ∧ (chordE g = 0 → ∃ v', e = .returned (.tuple #[v', .int .i64 0]) ∧ w'.ownsRow w.heap.size 3 1 v' g.length (ncells (colF g))) ∧
    (chordE g ≠ 0 → e = .returned (.tuple #[.slice none 0 0, .int .i64 (chordE g)]))
theorem chordE_0 {g : List Int} (h : chordE g = 0) : Graph g ∧ orderB g = true := by
  unfold chordE at h
  by_cases hv : validB g = true
  · rw [if_pos hv] at h
    by_cases ho : orderB g = true
    · exact ⟨validB_true.1 hv, ho⟩
    · rw [if_neg ho] at h; cases h
  · rw [if_neg hv] at h; cases h
theorem most_le (g : List Int) : most g ≤ 12 := by
  have := List.length_filter_le ((bestF g).testBit ·) (List.range 12)
  unfold most cnt12
  simpa using this
theorem made_zero (n : Nat) : madeCells #[.int .i64 0] n = (ncells (List.replicate n 0)).toArray := by
  apply Array.ext
  · simp [madeCells, ncells]
  · intro i h1 h2
    simp [madeCells, ncells, Nat.mod_one]
set_option maxHeartbeats 2000000 in
set_option maxRecDepth 100000 in
theorem colours_any {w : World} {v : Value} {g : List Int} (hv : Rd w 1 v g.length (icells g)) (hlen : g.length < 9223372036854775807) (hT : TabAt 3 Lib.deBruijn64tab w) (hw3 : 3 < w.heap.size) :
    Calls Tryz.prog 58 #[v] w (ColPost w g) := by
  obtain ⟨ao, cap, hve, _⟩ := hv.shape
  subst hve
  have H80 : Hid (∀ W, Keep (fun _ => False) w W → Calls Tryz.prog 80 #[.slice ao g.length cap] W (IdxPost W (.int .i64 (chordE g)))) := Lib.hid fun W hk =>
    chordal_any (hv.keep hk (fun _ _ h => h)) hlen (fun j hj => (hk.cell (p := ⟨3, j, none⟩) hw3 (fun h => h)).trans (hT j hj)) (Nat.lt_of_lt_of_le hw3 hk.size)
  have HT := Lib.hid hT; clear hT
  have HV := Lib.hid hv; clear hv
  by_cases hc : chordE g = 0
  · obtain ⟨hg, ho⟩ := chordE_0 hc
    rw [hc] at H80
    have hn := hg.2.1
    have h12 := pow_le_4096 hn
    have H82 : Hid (∀ W, Keep (fun _ => False) w W → Calls Tryz.prog 82 #[.slice ao g.length cap, .func (.func 83) #[.slice ao g.length cap] #[]] W (IdxPost W (.int .i64 (bestF g)))) := Lib.hid fun W hk =>
      best_any hg (HV.out.keep hk (fun _ _ h => h)) (fun j hj => (hk.cell (p := ⟨3, j, none⟩) hw3 (fun h => h)).trans (HT.out j hj)) (Nat.lt_of_lt_of_le hw3 hk.size)
    have hbest : bestF g < 4096 := Nat.lt_of_lt_of_le (bestTo_lt g _ _ (Nat.le_refl _) (Nat.lt_of_lt_of_le (by decide) Nat.one_le_two_pow)) h12
    have H81 := Lib.hid (fun W => onesCount_small (bestF g) hbest W)
    have hmost : cnt12 (bestF g) = most g := rfl
    rw [hmost] at H81
    obtain ⟨bf, hbf⟩ : ∃ bf, bestF g = bf := ⟨_, rfl⟩
    rw [hbf] at H81 H82 hbest
    obtain ⟨m, hm⟩ : ∃ m, most g = m := ⟨_, rfl⟩
    have hm12 : m ≤ 12 := hm ▸ most_le g
    rw [hm] at H81
    have HM := Lib.hid hm
    have HC := Lib.hid hc
    have HG := Lib.hid hg
    have HO := Lib.hid ho
    have hmk := run_make_row' (P := Tryz.prog) 34 3 (.int .i64 0) 8 Tryz.underlying34 info3 rfl .i64 .i64 g.length (by omega) (by omega)
    clear hc hg ho hmost hbf hm h12
    go_enter Tryz.func58, Tryz.ntmps58
    go_upto_region 7 with (first
      | (go_at_call 80; refine (H80.out _ ((Keep.refl _ _).alloc _)).mono ?_; rintro e w2 ⟨rfl, hk2⟩; have HK2 := Lib.hid (((Keep.refl (fun _ => False) w).alloc (.cells #[.slice ao g.length cap] 53)).trans hk2 (fun _ _ h => h)); have HB2 := Lib.hid ((Blk.new w #[.slice ao g.length cap] 53).keep hk2 (fun h => h)); have c1 := HB2.out.cell 0; simp at c1; clear hk2)
      | (go_at_call 82; refine (H82.out _ HK2.out).mono ?_; rintro e w3 ⟨rfl, hk3⟩; have HK3 := Lib.hid (HK2.out.trans hk3 (fun _ _ h => h)); have HB3 := Lib.hid (HB2.out.keep hk3 (fun h => h)); have c1 := HB3.out.cell 0; simp at c1; have hlt1 := HB3.out.lt; clear hk3)
      | (go_at_call 81; refine (H81.out _).mono ?_; rintro e w' ⟨rfl, rfl⟩))
    obtain ⟨w4, hw4⟩ : ∃ w4, w4 = ((((w3.alloc (.cells #[.int .i64 (m : Nat)] 3)).alloc (.cells (madeCells #[.int .i64 0] g.length) 3)).alloc (.cells #[.slice (some ⟨w3.heap.size + 1, 0, none⟩) g.length g.length] 34)).alloc (.cells #[.nilFunc] 160)) := ⟨_, rfl⟩
    rw [← hw4]
    have k34 : Keep (fun _ => False) w3 w4 := by rw [hw4]; exact ((((Keep.refl _ _).alloc _).alloc _).alloc _).alloc _
    have hb5 : Blk w4 w3.heap.size #[.int .i64 (m : Nat)] 3 := by rw [hw4]; exact (((Blk.new _ _ _).alloc _).alloc _).alloc _
    have hbo : Blk w4 (w3.heap.size + 1) (ncells (List.replicate g.length 0)).toArray 3 := by
      have h := Blk.new (w3.alloc (.cells #[.int .i64 (m : Nat)] 3)) (madeCells #[.int .i64 0] g.length) 3
      rw [World.size_alloc] at h
      rw [hw4, ← made_zero]; exact (h.alloc _).alloc _
    have hb6 : Blk w4 (w3.heap.size + 1 + 1) #[.slice (some ⟨w3.heap.size + 1, 0, none⟩) g.length g.length] 34 := by
      have h := Blk.new ((w3.alloc (.cells #[.int .i64 (m : Nat)] 3)).alloc (.cells (madeCells #[.int .i64 0] g.length) 3)) #[.slice (some ⟨w3.heap.size + 1, 0, none⟩) g.length g.length] 34
      rw [World.size_alloc, World.size_alloc] at h
      rw [hw4]; exact h.alloc _
    have hb7 : Blk w4 (w3.heap.size + 1 + 1 + 1) #[.nilFunc] 160 := by
      have h := Blk.new (((w3.alloc (.cells #[.int .i64 (m : Nat)] 3)).alloc (.cells (madeCells #[.int .i64 0] g.length) 3)).alloc (.cells #[.slice (some ⟨w3.heap.size + 1, 0, none⟩) g.length g.length] 34)) #[.nilFunc] 160
      rw [World.size_alloc, World.size_alloc, World.size_alloc] at h
      rw [hw4]; exact h
    clear hw4 hmk
    have hb1 := HB3.out.keep k34 (fun h => h)
    have c7 := hb7.cell 0
    have f7 := hb7.free 0
    simp at c7
    have hnb : ∀ k, (Value.slice ao g.length cap).ownBlock = some k → k < w.heap.size := fun k e => by
      rcases HV.out.2.2 with ⟨h, h'⟩ | ⟨b, o, c, h, _, _, hx⟩
      · have := HG.out.1; omega
      · injection h with h1 h2 h3
        subst h1
        have e2 : b = k := Option.some.inj e
        subst e2
        have hx0 := hx 0 _ (icells_get g 0 (by have := HG.out.1; omega))
        rcases Nat.lt_or_ge b w.heap.size with hl | hl
        · exact hl
        · simp [World.cell?, Array.getElem?_eq_none hl] at hx0
    have ks : Keep (fun k => k = w3.heap.size + 1 + 1 + 1) w4 (w4.setCell ⟨w3.heap.size + 1 + 1 + 1, 0, none⟩ (.func (.func 84) #[] #[.pointer (some ⟨w.heap.size, 0, none⟩), .pointer (some ⟨w3.heap.size, 0, none⟩), .pointer (some ⟨w3.heap.size + 1 + 1, 0, none⟩), .pointer (some ⟨w3.heap.size + 1 + 1 + 1, 0, none⟩)])) := (Keep.refl _ _).setCell _ _ (fun _ => rfl)
    have hb7' := hb7.set 0 (.func (.func 84) #[] #[.pointer (some ⟨w.heap.size, 0, none⟩), .pointer (some ⟨w3.heap.size, 0, none⟩), .pointer (some ⟨w3.heap.size + 1 + 1, 0, none⟩), .pointer (some ⟨w3.heap.size + 1 + 1 + 1, 0, none⟩)])
    have hz3 := HK3.out.size
    have hz4 := k34.size
    have kw4 := HK3.out.trans k34 (fun _ _ h => h)
    have kw5 := kw4.trans ks (fun k hk e => by omega)
    have hb1' := hb1.keep ks (fun e => by omega)
    have hb5' := hb5.keep ks (fun e => by omega)
    have hbo' := hbo.keep ks (fun e => by omega)
    have hb6' := hb6.keep ks (fun e => by omega)
    obtain ⟨w5, hw5⟩ : ∃ w5, w5 = w4.setCell ⟨w3.heap.size + 1 + 1 + 1, 0, none⟩ (.func (.func 84) #[] #[.pointer (some ⟨w.heap.size, 0, none⟩), .pointer (some ⟨w3.heap.size, 0, none⟩), .pointer (some ⟨w3.heap.size + 1 + 1, 0, none⟩), .pointer (some ⟨w3.heap.size + 1 + 1 + 1, 0, none⟩)]) := ⟨_, rfl⟩
    rw [← hw5] at ks hb7' kw5 hb1' hb5' hbo' hb6'
    have q1 := hb1'.cell 0
    have q5 := hb5'.cell 0
    have q6 := hb6'.cell 0
    have q7 := hb7'.cell 0
    simp at q1 q5 q6 q7
    have hE : Env w5 g (.slice ao g.length cap) m w.heap.size w3.heap.size (w3.heap.size + 1 + 1) (w3.heap.size + 1 + 1 + 1) (w3.heap.size + 1) :=
      ⟨q1, q5, q6, q7, HV.out.keep kw5 (fun _ _ h => h), hb1'.lt, hb5'.lt, hb6'.lt, hb7'.lt, by omega, by omega, by omega, by omega, fun e => by have := hnb _ e; omega,
       fun j hj => (kw5.cell (p := ⟨3, j, none⟩) hw3 (fun h => h)).trans (HT.out j hj), Nat.lt_of_lt_of_le hw3 kw5.size, by omega⟩
    have ht := try_any HG.out hm12 g.length 0 (List.replicate g.length 0) w5 (by omega) (by simp) hE hbo'
    have hok := col_ok HG.out HO.out
    rw [HM.out] at hok
    have hcol : (tryF g m g.length 0 (List.replicate g.length 0)).2 = colF g := by unfold colF; rw [HM.out]
    have HTR := Lib.hid (show TryPost w5 (w3.heap.size + 1) (true, colF g) = TryPost w5 (w3.heap.size + 1) (tryF g m g.length 0 (List.replicate g.length 0)) by rw [← hcol, ← hok.1])
    rw [← HTR.out] at ht
    have HTY := Lib.hid ht
    have HLC := Lib.hid hok.2.2
    have HKW5 := Lib.hid kw5
    have HBS6 := Lib.hid hb6'
    clear ht hok hcol HTR hE hb1' hb5' hbo' hb6' hb7' hb1 hb5 hbo hb6 hb7 ks k34 kw4 kw5 hnb q1 q5 q6 c1
    go_upto_region 8 with fail
    rw [← hw5]
    clear hw5 c7 f7
    go_wp2_with (go_at_call 84; refine Calls.mono HTY.out ?_; rintro e w6 ⟨rfl, hb9, hk9⟩; have HB9 := Lib.hid hb9; have HK9 := Lib.hid hk9; have q6 := (HBS6.out.keep hk9 (fun e => by omega)).cell 0; simp at q6; clear hb9 hk9)
    go_ret2
    refine ⟨HKW5.out.trans HK9.out (fun k hk e => by omega), fun _ => ⟨_, rfl, ?_⟩, fun h => absurd HC.out h⟩
    have ho := ownsRow_one (base := w.heap.size) (n := g.length) HB9.out (by omega) (by simp [ncells_length]; exact HLC.out) (by unfold maxLen; omega)
    simpa using ho
  · have HC := Lib.hid hc; clear hc
    have hce : (chordE g != 0) = true := by simp; exact HC.out
    go_enter Tryz.func58, Tryz.ntmps58
    go_wp2_with (go_at_call 80; refine (H80.out _ ((Keep.refl _ _).alloc _)).mono ?_; rintro e w2 ⟨rfl, hk2⟩; have HK2 := Lib.hid (((Keep.refl (fun _ => False) w).alloc (.cells #[.slice ao g.length cap] 53)).trans hk2 (fun _ _ h => h)); clear hk2)
    go_ret2
    exact ⟨HK2.out, fun h => absurd h HC.out, fun _ => rfl⟩
end Go.Proofs.YthdkamnclbfehaaGreatDoor

/- slices.Max; house.Assign. -/
namespace Go.Proofs.YthdkamnclbfehaaGreatDoor
set_option linter.unusedSimpArgs false
set_option linter.unusedVariables false
set_option linter.unnecessarySimpa false
open Go.RowKit

def maxN (l : List Nat) : Nat := l.foldl max 0
theorem maxN_take {l : List Nat} {k : Nat} (h : k < l.length) : maxN (l.take (k + 1)) = max (maxN (l.take k)) (l.getD k 0) := by
  have e : l.take (k + 1) = l.take k ++ [l.getD k 0] := by rw [List.take_add_one, List.getElem?_eq_getElem h]; simp [List.getD, List.getElem?_eq_getElem h]
  unfold maxN
  rw [e, List.foldl_append]
  rfl
theorem foldl_max (l : List Nat) : ∀ a, a ≤ l.foldl max a ∧ ∀ x ∈ l, x ≤ l.foldl max a := by
  induction l with
  | nil => intro a; exact ⟨Nat.le_refl _, fun x hx => by cases hx⟩
  | cons y l ih =>
    intro a
    have h := ih (max a y)
    simp only [List.foldl_cons]
    exact ⟨by omega, fun x hx => by rcases List.mem_cons.1 hx with rfl | hx; · omega
                                    · exact h.2 x hx⟩
theorem maxN_ge {l : List Nat} {x : Nat} (h : x ∈ l) : x ≤ maxN l := (foldl_max l 0).2 x h
theorem foldl_max_lt {m : Nat} (l : List Nat) : ∀ a, a < m → (∀ x ∈ l, x < m) → l.foldl max a < m := by
  induction l with
  | nil => intro a h _; exact h
  | cons y l ih =>
    intro a h hl
    simp only [List.foldl_cons]
    exact ih _ (by have := hl y (List.mem_cons_self ..); omega) (fun x hx => hl x (List.mem_cons_of_mem _ hx))
theorem maxN_lt {l : List Nat} {m : Nat} (h : 0 < m) (hl : ∀ x ∈ l, x < m) : maxN l < m := foldl_max_lt l 0 h hl
theorem max_nat (a b : Nat) : max (a : Int) (b : Int) = ((max a b : Nat) : Int) := by omega

set_option maxHeartbeats 1000000 in
theorem max_any {w : World} {v : Value} {l : List Nat} (hv : Rd w 1 v l.length (ncells l)) (h1 : 1 ≤ l.length) (hl : l.length < 1000000) : Calls Tryz.prog 59 #[v] w fun e w' => e = .returned (.int .i64 (maxN l : Nat)) ∧ w = w' := by
  obtain ⟨b, o, cap, hve, hcell⟩ : ∃ b o cap, v = .slice (some ⟨b, o, none⟩) l.length cap ∧ ∀ j, j < l.length → w.cell? ⟨b, o + j, none⟩ = some (.int .i64 (l.getD j 0 : Nat)) := by
    rcases hv.2.2 with ⟨h, h'⟩ | ⟨b, o, c, h, _, _, hx⟩
    · omega
    · exact ⟨b, o, c, h, fun j hj => hx j _ (ncells_get l j hj)⟩
  subst hve
  have c0 := hcell 0 (by omega)
  rw [Nat.add_zero] at c0
  have hm1 : maxN (l.take 1) = l.getD 0 0 := by rw [maxN_take (by omega)]; simp [maxN]
  have hlt1 : ((l.length : Int) < 1) = False := by simp; omega
  obtain ⟨n, hn⟩ : ∃ n, l.length = n := ⟨_, rfl⟩
  have HC := Lib.hid hcell
  have HM1 := Lib.hid hm1
  have HN := Lib.hid hn
  have hn0 : ((0 : Int) < (n : Int)) = True := by simp; omega
  rw [hn] at hlt1 h1 hl ⊢
  obtain ⟨x0, hx0⟩ : ∃ x, l.getD 0 0 = x := ⟨_, rfl⟩
  rw [hx0] at c0 HM1
  clear hcell hm1 hv hn hx0
  go_enter Tryz.func59, Tryz.ntmps59
  go_wp2
  go_loopw [3, 4] (fun s3 s4 wr => ∃ k : Nat, 1 ≤ k ∧ k ≤ n ∧ s4 = .int .i64 (k : Nat) ∧ s3 = .int .i64 (maxN (l.take k) : Nat) ∧ w = wr) (fun _ s4 _ => n - (intOf s4).toNat)
  case atStart => exact ⟨1, Nat.le_refl _, h1, rfl, by rw [HM1.out], by first | rfl | trivial⟩
  case round =>
    obtain ⟨k, hk1, hk, rfl, rfl, rfl⟩ := hrel
    by_cases hlt : k < n
    · have hjl : ((k : Int) < (n : Int)) = True := by simp; omega
      have ck := HC.out k (by have := HN.out; omega)
      have HT := Lib.hid (maxN_take (l := l) (k := k) (by have := HN.out; omega))
      obtain ⟨x, hx⟩ : ∃ x, l.getD k 0 = x := ⟨_, rfl⟩
      obtain ⟨y, hy⟩ : ∃ y, maxN (l.take k) = y := ⟨_, rfl⟩
      rw [hx, hy] at HT
      rw [hx] at ck
      rw [hy]
      have hmx := max_nat y x
      clear hx hy
      go_wp2
      go_roundw
      case rel => exact ⟨k + 1, by omega, by omega, by go_num, by rw [HT.out], by first | rfl | trivial⟩
      case measure => simp [intOf]; omega
    · have hke : k = n := by omega
      subst hke
      have hjl : ((k : Int) < (k : Int)) = False := by simp
      go_wp2
      go_ret
      exact ⟨by rw [show l.take k = l from List.take_of_length_le (by rw [HN.out]; exact Nat.le_refl _)]; rfl, rfl⟩

def assignE (g : List Int) (kinds : Int) : Int :=
  if baysB g = true ∧ 1 ≤ kinds ∧ kinds ≤ 8 then (if chordE g = 0 then (if kinds ≤ (maxN (colF g) : Nat) then 5 else 0) else chordE g) else 2
def AssignPost (w : World) (g : List Int) (kinds : Int) (e : Ending) (w' : World) : Prop :=
  Keep (fun _ => False) w w' ∧ (assignE g kinds = 0 → ∃ v', e = .returned (.tuple #[v', .int .i64 0]) ∧ w'.ownsRow w.heap.size 3 1 v' g.length (ncells (colF g))) ∧
    (assignE g kinds ≠ 0 → e = .returned (.tuple #[.slice none 0 0, .int .i64 (assignE g kinds)]))
set_option maxHeartbeats 2000000 in
set_option maxRecDepth 100000 in
theorem assign_any {w : World} {v : Value} {g : List Int} (kinds : Int) (hv : Rd w 1 v g.length (icells g)) (hlen : g.length < 9223372036854775807) (hT : TabAt 3 Lib.deBruijn64tab w) (hw3 : 3 < w.heap.size) :
    Calls Tryz.prog 26 #[v, .int .i64 kinds] w (AssignPost w g kinds) := by
  obtain ⟨ao, cap, hve, _⟩ := hv.shape
  subst hve
  have H54 := Lib.hid (bays_any hv hlen hT hw3)
  have H58 : Hid (∀ W, Keep (fun _ => False) w W → Calls Tryz.prog 58 #[.slice ao g.length cap] W (ColPost W g)) := Lib.hid fun W hk =>
    colours_any (hv.keep hk (fun _ _ h => h)) hlen (fun j hj => (hk.cell (p := ⟨3, j, none⟩) hw3 (fun h => h)).trans (hT j hj)) (Nat.lt_of_lt_of_le hw3 hk.size)
  clear hv hT
  by_cases hb : baysB g = true ∧ 1 ≤ kinds ∧ kinds ≤ 8
  · obtain ⟨hb0, hk1, hk8⟩ := hb
    have hl1 : (kinds < 1) = False := eq_false (by omega)
    have hl8 : (8 < kinds) = False := eq_false (by omega)
    rw [hb0] at H54
    have HB := Lib.hid hb0
    have H8 := Lib.hid (baysB_8 hb0)
    clear hb0
    by_cases hc : chordE g = 0
    · have hcg := chordE_0 hc
      have hcol := (col_ok hcg.1 hcg.2).2.2
      have HCL := Lib.hid hcol
      have HC := Lib.hid hc
      clear hc hcg hcol
      obtain ⟨mx, hmx⟩ : ∃ mx, maxN (colF g) = mx := ⟨_, rfl⟩
      have HMX := Lib.hid hmx; clear hmx
      by_cases hle : kinds ≤ (mx : Nat)
      · have hgt : (kinds ≤ (mx : Int)) = True := eq_true hle
        have HF := Lib.hid (show assignE g kinds = 5 by unfold assignE; rw [if_pos ⟨HB.out, hk1, hk8⟩, if_pos HC.out, HMX.out, if_pos hle])
        clear hle
        go_enter Tryz.func26, Tryz.ntmps26
        go_wp2_with (first
          | (go_at_call 54; refine H54.out.mono ?_; rintro e w1 ⟨rfl, hk1'⟩; have HK1 := Lib.hid hk1'; clear hk1')
          | (go_at_call 58; refine (H58.out _ HK1.out).mono ?_; rintro e w2 ⟨hk2, hok2, _⟩; obtain ⟨v2, rfl, ho2⟩ := hok2 HC.out; have HK2 := Lib.hid (HK1.out.trans hk2 (fun _ _ h => h)); have HO2 := Lib.hid ho2; clear hk2 hok2 ho2)
          | (go_at_call 59; have hrd := ownsRow_rd HO2.out (by intro u hu; obtain ⟨_, _, rfl⟩ := List.mem_map.1 hu; rfl); rw [← HCL.out] at hrd; have hh := max_any hrd (by rw [HCL.out, H8.out]; decide) (by rw [HCL.out, H8.out]; decide); rw [HMX.out] at hh; refine Calls.mono hh ?_; clear hh hrd; rintro e w' ⟨rfl, rfl⟩))
        go_ret2
        exact ⟨HK2.out, (fun h => by rw [HF.out] at h; cases h), fun _ => by rw [HF.out]; rfl⟩
      · have hgt : (kinds ≤ (mx : Int)) = False := eq_false hle
        have HF := Lib.hid (show assignE g kinds = 0 by unfold assignE; rw [if_pos ⟨HB.out, hk1, hk8⟩, if_pos HC.out, HMX.out, if_neg hle])
        clear hle
        go_enter Tryz.func26, Tryz.ntmps26
        go_wp2_with (first
          | (go_at_call 54; refine H54.out.mono ?_; rintro e w1 ⟨rfl, hk1'⟩; have HK1 := Lib.hid hk1'; clear hk1')
          | (go_at_call 58; refine (H58.out _ HK1.out).mono ?_; rintro e w2 ⟨hk2, hok2, _⟩; obtain ⟨v2, rfl, ho2⟩ := hok2 HC.out; have HK2 := Lib.hid (HK1.out.trans hk2 (fun _ _ h => h)); have HO2 := Lib.hid ho2; clear hk2 hok2 ho2)
          | (go_at_call 59; have hrd := ownsRow_rd HO2.out (by intro u hu; obtain ⟨_, _, rfl⟩ := List.mem_map.1 hu; rfl); rw [← HCL.out] at hrd; have hh := max_any hrd (by rw [HCL.out, H8.out]; decide) (by rw [HCL.out, H8.out]; decide); rw [HMX.out] at hh; refine Calls.mono hh ?_; clear hh hrd; rintro e w' ⟨rfl, rfl⟩))
        go_ret2
        exact ⟨HK2.out, fun _ => ⟨v2, rfl, ownsRow_base HO2.out HK1.out.size⟩, fun h => absurd HF.out h⟩
    · have HF := Lib.hid (show assignE g kinds = chordE g by unfold assignE; rw [if_pos ⟨HB.out, hk1, hk8⟩, if_neg hc])
      have HC := Lib.hid hc
      have hce : (chordE g != 0) = true := by simp; exact hc
      clear hc
      go_enter Tryz.func26, Tryz.ntmps26
      go_wp2_with (first
        | (go_at_call 54; refine H54.out.mono ?_; rintro e w1 ⟨rfl, hk1'⟩; have HK1 := Lib.hid hk1'; clear hk1')
        | (go_at_call 58; refine (H58.out _ HK1.out).mono ?_; rintro e w2 ⟨hk2, _, hbad2⟩; obtain rfl := hbad2 HC.out; have HK2 := Lib.hid (HK1.out.trans hk2 (fun _ _ h => h)); clear hk2 hbad2))
      go_ret2
      exact ⟨HK2.out, fun h => absurd (HF.out.symm.trans h) HC.out, fun _ => by rw [HF.out]; rfl⟩
  · have HF := Lib.hid (show assignE g kinds = 2 by unfold assignE; rw [if_neg hb])
    cases hb0 : baysB g with
    | false =>
      rw [hb0] at H54
      clear hb
      go_enter Tryz.func26, Tryz.ntmps26
      go_wp2_with (first
        | (go_at_call 54; refine H54.out.mono ?_; rintro e w1 ⟨rfl, hk1'⟩; have HK1 := Lib.hid hk1'; clear hk1'))
      go_ret2
      exact ⟨HK1.out, (fun h => by rw [HF.out] at h; cases h), fun _ => by rw [HF.out]; rfl⟩
    | true =>
      rw [hb0] at H54
      by_cases hk1 : 1 ≤ kinds
      · have hl1 : (kinds < 1) = False := eq_false (by omega)
        have hl8 : (8 < kinds) = True := eq_true (by
          rcases Int.lt_or_le 8 kinds with h | h
          · exact h
          · exact absurd ⟨hb0, hk1, h⟩ hb)
        clear hb
        go_enter Tryz.func26, Tryz.ntmps26
        go_wp2_with (first
          | (go_at_call 54; refine H54.out.mono ?_; rintro e w1 ⟨rfl, hk1'⟩; have HK1 := Lib.hid hk1'; clear hk1'))
        go_ret2
        exact ⟨HK1.out, (fun h => by rw [HF.out] at h; cases h), fun _ => by rw [HF.out]; rfl⟩
      · have hl1 : (kinds < 1) = True := eq_true (by omega)
        clear hb
        go_enter Tryz.func26, Tryz.ntmps26
        go_wp2_with (first
          | (go_at_call 54; refine H54.out.mono ?_; rintro e w1 ⟨rfl, hk1'⟩; have HK1 := Lib.hid hk1'; clear hk1'))
        go_ret2
        exact ⟨HK1.out, (fun h => by rw [HF.out] at h; cases h), fun _ => by rw [HF.out]; rfl⟩
end Go.Proofs.YthdkamnclbfehaaGreatDoor

/- The law HouseColours, walked: it returns true, whatever the bays and the number of kinds. -/
namespace Go.Proofs.YthdkamnclbfehaaGreatDoor
set_option linter.unusedSimpArgs false
set_option linter.unusedVariables false
set_option linter.unnecessarySimpa false
open Go.RowKit

theorem countP_range_le {p : Nat → Bool} {n : Nat} (h : ∀ x, p x = true → x < n) : ∀ N, (List.range N).countP p ≤ n := by
  intro N
  have : (List.range N).countP p ≤ (List.range N).countP (fun x => decide (x < n)) := by
    generalize List.range N = l
    induction l with
    | nil => exact Nat.le_refl _
    | cons y l ih =>
      rw [List.countP_cons, List.countP_cons]
      cases hp : p y with
      | false => simp; omega
      | true => simp [h y hp]; omega
  have h2 : ∀ N, (List.range N).countP (fun x => decide (x < n)) ≤ min N n := by
    intro N
    induction N with
    | zero => simp
    | succ N ih =>
      rw [List.range_succ, List.countP_append, List.countP_cons, List.countP_nil]
      by_cases hN : N < n
      · simp [hN]; omega
      · simp [hN]; omega
  have := h2 N
  omega
theorem cnt12_le {s n : Nat} (h : s < 2 ^ n) : cnt12 s ≤ n := by
  unfold cnt12
  rw [← List.countP_eq_length_filter]
  exact countP_range_le (fun x hx => bit_lt h hx) 12
theorem most_le_len (g : List Int) : most g ≤ g.length := cnt12_le (bestTo_lt g _ _ (Nat.le_refl _) (Nat.lt_of_lt_of_le (by decide) Nat.one_le_two_pow))
theorem col_lt {g : List Int} (h : chordE g = 0) : ∀ x ∈ colF g, x < most g := fun x hx => by
  have hc := chordE_0 h
  have hok := (col_ok hc.1 hc.2).2
  obtain ⟨j, hj, rfl⟩ := List.getElem_of_mem hx
  have := hok.1.1 j (by rw [← hok.2]; exact hj)
  simpa [List.getD, List.getElem?_eq_getElem hj] using this
theorem most_pos {g : List Int} (h : chordE g = 0) : 0 < most g := by
  have hc := chordE_0 h
  have hok := (col_ok hc.1 hc.2).2
  have := hok.1.1 0 (by have := hc.1.1; omega)
  omega
theorem assign_8 {g : List Int} (hb : baysB g = true) : assignE g 8 = chordE g := by
  unfold assignE
  rw [if_pos ⟨hb, by omega, by omega⟩]
  by_cases hc : chordE g = 0
  · rw [if_pos hc]
    have h1 := maxN_lt (most_pos hc) (col_lt hc)
    have h2 := most_le_len g
    have h3 := baysB_8 hb
    rw [if_neg (by omega), hc]
  · rw [if_neg hc]
theorem assign_cases (g : List Int) (k : Int) : assignE g k = 2 ∨ (assignE g k = 5 ∧ assignE g 8 = 0) ∨ (assignE g k = 7 ∧ assignE g 8 = 7) ∨ (assignE g k = 0 ∧ assignE g 8 = 0 ∧ baysB g = true ∧ chordE g = 0 ∧ (maxN (colF g) : Nat) < k) := by
  by_cases hb : baysB g = true ∧ 1 ≤ k ∧ k ≤ 8
  · have h8 := assign_8 hb.1
    have he : assignE g k = if chordE g = 0 then (if k ≤ (maxN (colF g) : Nat) then 5 else 0) else chordE g := by unfold assignE; rw [if_pos hb]
    by_cases hc : chordE g = 0
    · rw [if_pos hc] at he
      by_cases hm : k ≤ (maxN (colF g) : Nat)
      · rw [if_pos hm] at he; exact .inr (.inl ⟨he, by rw [h8, hc]⟩)
      · rw [if_neg hm] at he; exact .inr (.inr (.inr ⟨he, by rw [h8, hc], hb.1, hc, by omega⟩))
    · rw [if_neg hc] at he
      have : chordE g = 2 ∨ chordE g = 7 := by
        unfold chordE at hc ⊢
        split at hc <;> (try split at hc) <;> simp_all
      rcases this with h | h
      · exact .inl (he.trans h)
      · exact .inr (.inr (.inl ⟨he.trans h, h8.trans h⟩))
  · exact .inl (by unfold assignE; rw [if_neg hb])

set_option maxHeartbeats 4000000 in
set_option maxRecDepth 100000 in
theorem houseColours_any {w : World} {gv : Value} {g : List Int} (kinds : Int) (hG : Glob w) (hg : Rd w 1 gv g.length (icells g)) (hgl : g.length < 9223372036854775807) :
    Calls Tryz.prog 6 #[gv, .int .i64 kinds] w (IdxPost w (.bool true)) := by
  obtain ⟨go_, gc, hge, hgc, _⟩ := hg.shape
  subst hge
  have hl10 : (g.take 10).length < 9223372036854775807 := by rw [List.length_take]; omega
  have HG := Lib.hid hG; clear hG
  have HGR := Lib.hid hg; clear hg
  have H25 : Hid (∀ W, Keep (fun _ => False) w W → Calls Tryz.prog 25 #[.slice go_ g.length gc] W (ClonePost W 3 1 (g.take 10).length (icells (g.take 10)))) := Lib.hid fun W hk => graph_any (HGR.out.keep hk (fun _ _ h => h)) (Nat.le_of_lt hgl)
  have H26 : Hid (∀ W v k, Keep (fun _ => False) w W → Rd W 1 v (g.take 10).length (icells (g.take 10)) → Calls Tryz.prog 26 #[v, .int .i64 k] W (AssignPost W (g.take 10) k)) := Lib.hid fun W v k hk hrd =>
    assign_any k hrd hl10 (HG.out.keep hk).tab (by have := (HG.out.keep hk).size; omega)
  clear hl10
  rcases assign_cases (g.take 10) kinds with ha | ⟨ha, hb⟩ | ⟨ha, hb⟩ | ⟨ha, hb, hbb, hc, hmx⟩
  · have HA := Lib.hid ha; clear ha
    obtain ⟨B, hB⟩ : ∃ B, assignE (g.take 10) 8 = B := ⟨_, rfl⟩
    have HBB := Lib.hid hB; clear hB
    by_cases hb0 : B = 0
    · subst hb0
      go_enter Tryz.func6, Tryz.ntmps6
      go_wp2_with (first
        | (go_at_call 25; refine (H25.out _ HK2.out).mono ?_; rintro e w3 ⟨v3, rfl, ho3, hk3⟩; have HK3 := Lib.hid (HK2.out.trans hk3 (fun _ _ h => h)); have HO3 := Lib.hid (ownsRow_rd ho3 (icells_one _)); clear ho3 hk3)
        | (go_at_call 25; refine (H25.out _ (Keep.refl _ _)).mono ?_; rintro e w1 ⟨v1, rfl, ho1, hk1⟩; have HK1 := Lib.hid hk1; have HO1 := Lib.hid (ownsRow_rd ho1 (icells_one _)); clear ho1 hk1)
        | (go_at_call 26; refine (H26.out _ _ _ HK3.out HO3.out).mono ?_; rintro e w4 ⟨hk4, hok4, _⟩; obtain ⟨v4, rfl, _⟩ := hok4 HBB.out; have HK4 := Lib.hid (HK3.out.trans hk4 (fun _ _ h => h)); clear hk4 hok4)
        | (go_at_call 26; refine (H26.out _ _ _ HK1.out HO1.out).mono ?_; rintro e w2 ⟨hk2, _, hbad2⟩; obtain rfl := hbad2 (by rw [HA.out]; decide); rw [HA.out]; have HK2 := Lib.hid (HK1.out.trans hk2 (fun _ _ h => h)); clear hk2 hbad2)
        | (go_at_call 13; refine Calls.mono (awake_any (HG.out.keep HK4.out)) ?_; rintro e w5 ⟨rfl, hk5⟩; have HK5 := Lib.hid hk5; clear hk5))
      go_ret
      exact ⟨rfl, HK4.out.trans HK5.out (fun _ _ h => h)⟩
    · have HB0 := Lib.hid hb0; clear hb0
      go_enter Tryz.func6, Tryz.ntmps6
      go_wp2_with (first
        | (go_at_call 25; refine (H25.out _ HK2.out).mono ?_; rintro e w3 ⟨v3, rfl, ho3, hk3⟩; have HK3 := Lib.hid (HK2.out.trans hk3 (fun _ _ h => h)); have HO3 := Lib.hid (ownsRow_rd ho3 (icells_one _)); clear ho3 hk3)
        | (go_at_call 25; refine (H25.out _ (Keep.refl _ _)).mono ?_; rintro e w1 ⟨v1, rfl, ho1, hk1⟩; have HK1 := Lib.hid hk1; have HO1 := Lib.hid (ownsRow_rd ho1 (icells_one _)); clear ho1 hk1)
        | (go_at_call 26; refine (H26.out _ _ _ HK3.out HO3.out).mono ?_; rintro e w4 ⟨hk4, _, hbad4⟩; obtain rfl := hbad4 (by rw [HBB.out]; exact HB0.out); rw [HBB.out]; have HK4 := Lib.hid (HK3.out.trans hk4 (fun _ _ h => h)); clear hk4 hbad4)
        | (go_at_call 26; refine (H26.out _ _ _ HK1.out HO1.out).mono ?_; rintro e w2 ⟨hk2, _, hbad2⟩; obtain rfl := hbad2 (by rw [HA.out]; decide); rw [HA.out]; have HK2 := Lib.hid (HK1.out.trans hk2 (fun _ _ h => h)); clear hk2 hbad2)
        | (go_at_call 13; refine Calls.mono (awake_any (HG.out.keep HK4.out)) ?_; rintro e w5 ⟨rfl, hk5⟩; have HK5 := Lib.hid hk5; clear hk5))
      go_ret
      exact ⟨rfl, HK4.out.trans HK5.out (fun _ _ h => h)⟩
  · have HA := Lib.hid ha; have HBB := Lib.hid hb; clear ha hb
    go_enter Tryz.func6, Tryz.ntmps6
    go_wp2_with (first
      | (go_at_call 25; refine (H25.out _ HK2.out).mono ?_; rintro e w3 ⟨v3, rfl, ho3, hk3⟩; have HK3 := Lib.hid (HK2.out.trans hk3 (fun _ _ h => h)); have HO3 := Lib.hid (ownsRow_rd ho3 (icells_one _)); clear ho3 hk3)
      | (go_at_call 25; refine (H25.out _ (Keep.refl _ _)).mono ?_; rintro e w1 ⟨v1, rfl, ho1, hk1⟩; have HK1 := Lib.hid hk1; have HO1 := Lib.hid (ownsRow_rd ho1 (icells_one _)); clear ho1 hk1)
      | (go_at_call 26; refine (H26.out _ _ _ HK3.out HO3.out).mono ?_; rintro e w4 ⟨hk4, hok4, _⟩; obtain ⟨v4, rfl, _⟩ := hok4 HBB.out; have HK4 := Lib.hid (HK3.out.trans hk4 (fun _ _ h => h)); clear hk4 hok4)
      | (go_at_call 26; refine (H26.out _ _ _ HK1.out HO1.out).mono ?_; rintro e w2 ⟨hk2, _, hbad2⟩; obtain rfl := hbad2 (by rw [HA.out]; decide); rw [HA.out]; have HK2 := Lib.hid (HK1.out.trans hk2 (fun _ _ h => h)); clear hk2 hbad2)
      | (go_at_call 13; refine Calls.mono (awake_any (HG.out.keep HK4.out)) ?_; rintro e w5 ⟨rfl, hk5⟩; have HK5 := Lib.hid hk5; clear hk5))
    go_ret
    exact ⟨rfl, HK4.out.trans HK5.out (fun _ _ h => h)⟩
  · have HA := Lib.hid ha; have HBB := Lib.hid hb; clear ha hb
    go_enter Tryz.func6, Tryz.ntmps6
    go_wp2_with (first
      | (go_at_call 25; refine (H25.out _ HK2.out).mono ?_; rintro e w3 ⟨v3, rfl, ho3, hk3⟩; have HK3 := Lib.hid (HK2.out.trans hk3 (fun _ _ h => h)); have HO3 := Lib.hid (ownsRow_rd ho3 (icells_one _)); clear ho3 hk3)
      | (go_at_call 25; refine (H25.out _ (Keep.refl _ _)).mono ?_; rintro e w1 ⟨v1, rfl, ho1, hk1⟩; have HK1 := Lib.hid hk1; have HO1 := Lib.hid (ownsRow_rd ho1 (icells_one _)); clear ho1 hk1)
      | (go_at_call 26; refine (H26.out _ _ _ HK3.out HO3.out).mono ?_; rintro e w4 ⟨hk4, _, hbad4⟩; obtain rfl := hbad4 (by rw [HBB.out]; decide); rw [HBB.out]; have HK4 := Lib.hid (HK3.out.trans hk4 (fun _ _ h => h)); clear hk4 hbad4)
      | (go_at_call 26; refine (H26.out _ _ _ HK1.out HO1.out).mono ?_; rintro e w2 ⟨hk2, _, hbad2⟩; obtain rfl := hbad2 (by rw [HA.out]; decide); rw [HA.out]; have HK2 := Lib.hid (HK1.out.trans hk2 (fun _ _ h => h)); clear hk2 hbad2)
      | (go_at_call 13; refine Calls.mono (awake_any (HG.out.keep HK4.out)) ?_; rintro e w5 ⟨rfl, hk5⟩; have HK5 := Lib.hid hk5; clear hk5))
    go_ret
    exact ⟨rfl, HK4.out.trans HK5.out (fun _ _ h => h)⟩
  · have HA := Lib.hid ha; have HBB := Lib.hid hb
    have hcg := chordE_0 hc
    have hok := (col_ok hcg.1 hcg.2).2
    have h10 := baysB_8 hbb
    have hgl8 : g.length = 8 := by rw [List.length_take] at h10; omega
    have ht10 : g.take 10 = g := List.take_of_length_le (by omega)
    have hnc : (((colF (g.take 10)).map Int.ofNat)).length = 8 := by rw [List.length_map, hok.2, h10]
    obtain ⟨C, hC⟩ : ∃ C, colF (g.take 10) = C := ⟨_, rfl⟩
    rw [hC] at hok hmx hnc
    have hCl : C.length = 8 := by rw [hok.2, h10]
    have HPART := Lib.hid hok.1
    have HGP := Lib.hid (ht10 ▸ hcg.1 : Graph g)
    have HMX := Lib.hid hmx
    have HH10 := Lib.hid h10
    have HCL := Lib.hid hCl
    have HC := Lib.hid hC
    have HT10 := Lib.hid ht10
    have HGL8 := Lib.hid hgl8
    rw [hgl8] at H25
    clear ha hb hbb hc hmx hcg hok h10 hC hnc hCl ht10
    go_enter Tryz.func6, Tryz.ntmps6
    rw [hgl8]
    clear hgl8
    go_upto_region 7 with (first
      | (go_at_call 25; refine (H25.out _ HK2.out).mono ?_; rintro e w3 ⟨v3, rfl, ho3, hk3⟩; have HK3 := Lib.hid (HK2.out.trans hk3 (fun _ _ h => h)); have HR13 := Lib.hid (HR1.out.keep hk3 (fun _ _ h => h)); have HO3 := Lib.hid (ownsRow_rd ho3 (icells_one _)); clear ho3 hk3)
      | (go_at_call 25; refine (H25.out _ (Keep.refl _ _)).mono ?_; rintro e w1 ⟨v1, rfl, ho1, hk1⟩; have HK1 := Lib.hid hk1; have HO1 := Lib.hid (ownsRow_rd ho1 (icells_one _)); clear ho1 hk1)
      | (go_at_call 26; refine (H26.out _ _ _ HK3.out HO3.out).mono ?_; rintro e w4 ⟨hk4, hok4, _⟩; obtain ⟨v4, rfl, ho4⟩ := hok4 HBB.out; rw [HH10.out, HC.out] at ho4; have HK4 := Lib.hid (HK3.out.trans hk4 (fun _ _ h => h)); have HR2 := Lib.hid (HR13.out.keep hk4 (fun _ _ h => h)); have HR4 := Lib.hid (ownsRow_rd ho4 (by intro u hu; obtain ⟨_, _, rfl⟩ := List.mem_map.1 hu; rfl)); obtain ⟨q4, r4, rfl, _⟩ := ownsRow_shape ho4; clear hk4 hok4 ho4)
      | (go_at_call 26; refine (H26.out _ _ _ HK1.out HO1.out).mono ?_; rintro e w2 ⟨hk2, hok2, _⟩; obtain ⟨v2, rfl, ho2⟩ := hok2 HA.out; rw [HH10.out, HC.out] at ho2; have HK2 := Lib.hid (HK1.out.trans hk2 (fun _ _ h => h)); have HR1 := Lib.hid (ownsRow_rd ho2 (by intro u hu; obtain ⟨_, _, rfl⟩ := List.mem_map.1 hu; rfl)); obtain ⟨q2, r2, rfl, _⟩ := ownsRow_shape ho2; clear hk2 hok2 ho2)
      | (go_at_call 28; have h1 : Rd w4 1 (.slice q2 8 r2) (C.map Int.ofNat).length (icells (C.map Int.ofNat)) := (by have h := HR2.out; rw [ncells_icells] at h; rw [List.length_map, HCL.out]; exact h); have h2 : Rd w4 1 (.slice q4 8 r4) (C.map Int.ofNat).length (icells (C.map Int.ofNat)) := (by have h := HR4.out; rw [ncells_icells] at h; rw [List.length_map, HCL.out]; exact h); have hh := eqI_any h1 h2 (by rw [List.length_map, HCL.out]; decide); rw [show eqJ (C.map Int.ofNat) (C.map Int.ofNat) = true from decide_eq_true rfl] at hh; refine Calls.mono hh ?_; clear hh h1 h2; rintro e w5 ⟨rfl, q5, rfl⟩))
    have hrC : ∀ (v : Value), Rd w4 1 v 8 (ncells C) → ∀ (a : Option Addr) (n : Nat), v = .slice a 8 n → ∃ b o, a = some ⟨b, o, none⟩ ∧ ∀ j, j < 8 → (w4.drewN q5).cell? ⟨b, o + j, none⟩ = some (.int .i64 (C.getD j 0 : Nat)) := fun v h a n hv => by
      subst hv
      rcases h.2.2 with ⟨h, h'⟩ | ⟨b, o, c, h, _, _, hx⟩
      · omega
      · injection h with h1 h2 h3
        exact ⟨b, o, h1, fun j hj => hx j _ (ncells_get C j (by rw [HCL.out]; exact hj))⟩
    obtain ⟨lb, lo, rfl, hlc⟩ := hrC _ HR2.out _ _ rfl
    obtain ⟨gb, go2, rfl, hgcell⟩ : ∃ b o, go_ = some ⟨b, o, none⟩ ∧ ∀ j, j < 8 → (w4.drewN q5).cell? ⟨b, o + j, none⟩ = some (.int .i64 (g.getD j 0)) := by
      have hgk := HGR.out.keep (HK4.out.drewN q5) (fun _ _ h => h)
      rcases hgk.2.2 with ⟨h, h'⟩ | ⟨b, o, c, h, _, _, hx⟩
      · have := HGL8.out; omega
      · injection h with h1 h2 h3
        exact ⟨b, o, h1, fun j hj => hx j _ (icells_get g j (by rw [HGL8.out]; exact hj))⟩
    have HLC := Lib.hid hlc
    have HGC := Lib.hid hgcell
    have HK5 := Lib.hid (HK4.out.drewN q5)
    obtain ⟨w5, hw5⟩ : ∃ w5, w5 = w4.drewN q5 := ⟨_, rfl⟩
    rw [← hw5] at HLC HGC HK5
    rw [← hw5]
    clear hrC hlc hgcell hw5
    go_upto_block 0 with fail
    go_wp2_with fail
    go_loopg [71] 8 (fun gh s71 wx => ∃ i : Nat, gh = 8 - i ∧ i ≤ 8 ∧ s71 = .int .i64 (i : Nat) ∧ w5 = wx)
    case atStart => exact ⟨0, rfl, by omega, rfl, rfl⟩
    case round =>
      obtain ⟨i, rfl, hi, rfl, rfl⟩ := hrel
      by_cases hlt : i < 8
      · have hjl : ((i : Int) < 8) = True := by simp; omega
        have ci := HLC.out i hlt
        have gi := HGC.out i hlt
        have hcl := HPART.out.1 i (by rw [HH10.out]; exact hlt)
        have hck : (C.getD i 0 : Nat) < kinds := by
          have h1 := maxN_ge (l := C) (x := C.getD i 0) (by simp [List.getD, List.getElem?_eq_getElem (show i < C.length by rw [HCL.out]; exact hlt)])
          have h2 := HMX.out
          omega
        have hib := fun j => HGP.out.ibit (i := i) (by rw [HGL8.out]; exact hlt) j
        have hpp : ∀ j, j < 8 → adj g i j = true → C.getD i 0 ≠ C.getD j 0 := fun j hj ha => by
          have h := HPART.out.2 i j (by rw [HH10.out]; exact hlt) (by rw [HH10.out]; exact hj)
          rw [HT10.out] at h
          exact h ha
        obtain ⟨x, hx⟩ : ∃ x, g.getD i 0 = x := ⟨_, rfl⟩
        obtain ⟨c, hc⟩ : ∃ c, C.getD i 0 = c := ⟨_, rfl⟩
        rw [hx] at gi hib
        rw [hc] at ci hck hpp
        have HIB := Lib.hid hib
        have HPP := Lib.hid hpp
        have hc0 : ((c : Int) < 0) = False := by simp
        have hck2 : (kinds ≤ (c : Int)) = False := eq_false (by omega)
        clear hx hc hib hpp hcl
        go_upto_block 2 with fail
        go_wp2_with fail
        go_loopg [85] 8 (fun gh s85 wx => ∃ j : Nat, gh = 8 - j ∧ j ≤ 8 ∧ s85 = .int .i64 (j : Nat) ∧ w5 = wx)
        case atStart => exact ⟨0, rfl, by omega, rfl, rfl⟩
        case round =>
          obtain ⟨j, rfl, hj, rfl, rfl⟩ := hrel
          by_cases hlt2 : j < 8
          · have hjl2 : ((j : Int) < 8) = True := by simp; omega
            have cj := HLC.out j hlt2
            have hb := HIB.out j
            have hp := HPP.out j hlt2
            obtain ⟨d, hd⟩ : ∃ d, C.getD j 0 = d := ⟨_, rfl⟩
            rw [hd] at cj hp
            have hj12 : j ≤ 12 := by omega
            cases hadj : adj g i j with
            | true =>
              rw [hadj, if_pos rfl] at hb
              have hne := hp hadj
              have hsh : bits .and .i64 (x / 2 ^ j) 1 = 1 := by rw [i64_and_one, hb]
              have hcd : ((c : Int) == (d : Int)) = false := by rw [int_beq]; simpa using hne
              clear hb hp hne hadj hd
              go_wp2
              go_roundg (8 - (j + 1))
              case measure => omega
              case rel => exact ⟨j + 1, rfl, by omega, by go_num, rfl⟩
            | false =>
              rw [hadj, if_neg Bool.false_ne_true] at hb
              have hsh : bits .and .i64 (x / 2 ^ j) 1 = 0 := by rw [i64_and_one, hb]
              clear hb hp hadj hd
              go_wp2
              go_roundg (8 - (j + 1))
              case measure => omega
              case rel => exact ⟨j + 1, rfl, by omega, by go_num, rfl⟩
          · have hje : j = 8 := by omega
            subst hje
            go_wp2
            go_roundg (8 - (i + 1))
            case measure => omega
            case rel => exact ⟨i + 1, rfl, by omega, by go_num, rfl⟩
      · have hie : i = 8 := by omega
        subst hie
        go_wp2_with (go_at_call 13; refine Calls.mono (awake_any (HG.out.keep HK5.out)) ?_; rintro e w6 ⟨rfl, hk6⟩; have HK6 := Lib.hid hk6; clear hk6)
        go_ret
        exact ⟨rfl, HK5.out.trans HK6.out (fun _ _ h => h)⟩
end Go.Proofs.YthdkamnclbfehaaGreatDoor
