/- house.state.blend. -/
import Derived.Test.YthdkamnclbfehaaGreatDoorShut
namespace Go.Proofs.YthdkamnclbfehaaGreatDoor
set_option linter.unusedSimpArgs false
set_option linter.unusedVariables false
set_option linter.unnecessarySimpa false
open Go.RowKit

def blendS (S : St) (i j q : Int) (x y : Lot) : St :=
  { S with lots := (S.lots.set (i - 1).toNat { x with grams := wrap64 (x.grams - q) }).set (j - 1).toNat { y with grams := wrap64 (y.grams - q) } }
def blendT (S : St) (i j q : Int) (x y : Lot) : St :=
  touchS (touchS (addS (blendS S i j q x y) ⟨bs [98, 108, 101, 110, 100], wrap64 (2 * q), -1, false⟩) ((S.lots.length : Int) + 1) i) ((S.lots.length : Int) + 1) j
def blendF (S : St) (a : FA) : Res :=
  if S.lots.length = 20 then ⟨9, S, bs []⟩
  else if allLots S [a.n.getD 0 0, a.n.getD 1 0] then
    (if a.n.getD 0 0 = a.n.getD 1 0 ∨ a.n.getD 2 0 = 0 then ⟨7, S, bs []⟩
     else match S.lots[(a.n.getD 0 0 - 1).toNat]?, S.lots[(a.n.getD 1 0 - 1).toNat]? with
      | some x, some y => if x.closed || (y.closed || decide (min x.grams y.grams < a.n.getD 2 0)) then ⟨7, S, bs []⟩
          else ⟨0, blendT S (a.n.getD 0 0) (a.n.getD 1 0) (a.n.getD 2 0) x y, bs [98, 108, 101, 110, 100] ++ (bs [32] ++ itoaB ((S.lots.length : Int) + 1))⟩
      | _, _ => ⟨5, S, bs []⟩)
  else ⟨5, S, bs []⟩

theorem touch_step {base b : Nat} {w : World} {V : StV} {S : St} {i j : Int} (hb : V.b = b) (hG : GW base w) (h : OSt base w V S) (hc : S.contacts.length ≤ 1000000000) (hn : S.notes.length ≤ 1000000000) (hi : i64b i) (hj : i64b j) :
    Calls Tryz.prog 264 #[.pointer (some ⟨b, 0, none⟩), .int .i64 i, .int .i64 j] w (TouchedPost base w V S i j) := by
  subst hb
  exact addTouch_any hG h hc hn hi hj
theorem OSt.lotCellX {base : Nat} {w : World} {V : StV} {S : St} (h : OSt base w V S) {g cap : Nat} (hv : V.vl = .slice (some ⟨g, 0, none⟩) S.lots.length cap) {i : Nat} {X : Lot} (hX : S.lots[i]? = some X) :
    (w.cell? ⟨g, i * 4, none⟩ = some (.string X.spice) ∧ w.cell? ⟨g, i * 4 + 1, none⟩ = some (.int .i64 X.grams) ∧ w.cell? ⟨g, i * 4 + 2, none⟩ = some (.int .i64 X.bay) ∧ w.cell? ⟨g, i * 4 + 3, none⟩ = some (.bool X.closed)) ∧ ∀ o, w.frozen? ⟨g, o, none⟩ = false := by
  obtain ⟨hi, rfl⟩ := List.getElem?_eq_some_iff.1 hX
  exact h.lotCell hv hi
theorem OSt.setLotX {base : Nat} {w : World} {V : StV} {S : St} (h : OSt base w V S) {g cap : Nat} (hv : V.vl = .slice (some ⟨g, 0, none⟩) S.lots.length cap) {i : Nat} {X : Lot} (hX : S.lots[i]? = some X) (f : Nat) (hf : f < 4) (x : Lot) (u : Value)
    (hx : Go.Proofs.YthdkamnclbfehaaGreatDoor.lotCell x = (Go.Proofs.YthdkamnclbfehaaGreatDoor.lotCell X).set f u) :
    OSt base (w.setCell ⟨g, i * 4 + f, none⟩ u) V { S with lots := S.lots.set i x } ∧ Chg base w V V (w.setCell ⟨g, i * 4 + f, none⟩ u) := by
  obtain ⟨hi, rfl⟩ := List.getElem?_eq_some_iff.1 hX
  exact h.setLot hv hi f hf x u hx

set_option maxHeartbeats 2500000 in
set_option maxRecDepth 100000 in
theorem blend_any {base : Nat} {w : World} {V : StV} {S : St} {vn : Value} {a : FA} (hG : GW base w) (h : OSt base w V S) (hl : S.small) (hcs : S.contacts.length ≤ 999999999) (hns : S.notes.length ≤ 999999999) (hl20 : S.lots.length ≤ 20) (ha : Args base w vn a) (hn : a.n.length = 3) (hbx : ∀ x ∈ a.n, i64b x) :
    Calls Tryz.prog 256 #[.pointer (some ⟨V.b, 0, none⟩), .agg #[vn, .string a.word]] w (RunPost base w V (blendF S a)) := by
  obtain ⟨nb, no, nc, rfl, hnc, hC⟩ := args_open h ha (by omega)
  obtain ⟨i, j, q, hx⟩ : ∃ i j q, a.n = [i, j, q] := by
    match a.n, hn with
    | [i, j, q], _ => exact ⟨i, j, q, rfl⟩
  obtain ⟨an, word, aok⟩ := a
  simp only at hx hn hnc hC hbx
  subst hx
  have hib := hbx i (by simp)
  have hjb := hbx j (by simp)
  have hqb := hbx q (by simp)
  change Calls Tryz.prog 256 #[.pointer (some ⟨V.b, 0, none⟩), .agg #[.slice (some ⟨nb, no, none⟩) 3 nc, .string word]] w (RunPost base w V (blendF S ⟨[i, j, q], word, aok⟩))
  obtain ⟨w0, hw0⟩ : ∃ w0, w0 = w.alloc (.cells #[.slice (some ⟨nb, no, none⟩) 3 nc, .string word] 134) := ⟨_, rfl⟩
  obtain ⟨b0, b1, b2⟩ := hC _ (Keep.refl _ _)
  have n0 := b2 0 (by simp)
  have n1 := b2 1 (by simp)
  have n2 := b2 2 (by simp)
  simp only [Nat.add_zero, List.getD_cons_zero, List.getD_cons_succ] at n0 n1 n2
  have b0' : (w.alloc (.cells #[.slice (some ⟨nb, no, none⟩) 3 nc, .string word] 134)).cell? ⟨w.heap.size, 0, none⟩ = some (.slice (some ⟨nb, no, none⟩) 3 nc) := b0
  have n0' : w0.cell? ⟨nb, no, none⟩ = some (.int .i64 i) := by rw [hw0]; exact n0
  have n1' : w0.cell? ⟨nb, no + 1, none⟩ = some (.int .i64 j) := by rw [hw0]; exact n1
  have n2' : w0.cell? ⟨nb, no + 2, none⟩ = some (.int .i64 q) := by rw [hw0]; exact n2
  rw [← hw0] at b0'
  have hnc1 : 3 ≤ nc := hnc
  have hk0 : Keep (fun _ => False) w w0 := by rw [hw0]; exact (Keep.refl _ _).alloc _
  have h0 := h.keep hk0 (fun _ _ h => h)
  obtain ⟨lo, lc, hvl, hlc, _⟩ := ownsRow_shape h.ol
  have c1 := h0.blk.cell 1
  simp [StV.cells] at c1
  rw [hvl] at c1
  have HI := Lib.hid hib; have HJ := Lib.hid hjb; have HQ := Lib.hid hqb; clear hib hjb hqb hbx
  have H0 := Lib.hid h0; clear h0
  have H := Lib.hid h; clear h
  have HL := Lib.hid hl; clear hl
  have HK0 := Lib.hid hk0; clear hk0
  have HW0 := Lib.hid hw0; clear hw0
  clear b0 b1 b2 n0 n1 n2 hC ha hnc hn
  by_cases h20 : S.lots.length = 20
  · have e20 : ((S.lots.length : Int) == 20) = true := by simp; omega
    have HF := Lib.hid (show blendF S ⟨[i, j, q], word, aok⟩ = ⟨9, S, bs []⟩ by unfold blendF; rw [if_pos h20])
    go_enter Tryz.func256, Tryz.ntmps256
    go_wp2
    rw [← HW0.out]
    go_quiet (fail)
    go_wp2
    go_ret2
    exact ⟨by rw [HF.out]; rfl, V, (fun e => by rw [HF.out] at e; cases e), (Chg.refl base w V).after (HK0.out.drewN _)⟩
  have e20 : ((S.lots.length : Int) == 20) = false := by simp; omega
  cases hall : allLots S [i, j] with
  | false =>
    have HF := Lib.hid (show blendF S ⟨[i, j, q], word, aok⟩ = ⟨5, S, bs []⟩ by unfold blendF; rw [if_neg h20]; simp only [List.getD_cons_zero, List.getD_cons_succ]; rw [hall]; rfl)
    go_enter Tryz.func256, Tryz.ntmps256
    go_wp2
    rw [← HW0.out]
    go_quiet (fail)
    have HALL := Lib.hid hall; clear hall
    go_wp2_with (go_at_call 262; have kk := (((Keep.refl (fun _ => False) w0).drewN nq).alloc (.cells #[.int .i64 i, .int .i64 j] 3)); have hh := there_any (l := [i, j]) ((H0.out.keep kk (fun _ _ h => h)).at (Nat.le_trans H0.out.lt kk.size)) HL.out.l (Rd.new (w0.drewN nq) 1 2 (icells [i, j]) 3 rfl (icells_one _) (by unfold maxLen; omega)) (by simp); rw [HALL.out] at hh; refine Calls.mono hh ?_; clear hh; rintro e w1 ⟨rfl, hk1⟩; have HK1 := Lib.hid (kk.trans hk1 (fun _ _ h => h)); clear hk1 kk)
    go_ret2
    exact ⟨by rw [HF.out]; rfl, V, (fun e => by rw [HF.out] at e; cases e), (Chg.refl base w V).after (HK0.out.trans HK1.out (fun _ _ h => h))⟩
  | true =>
    have hij : hasLot S i = true ∧ hasLot S j = true := by unfold allLots at hall; simpa using hall
    obtain ⟨k1, rfl, hk1⟩ := hasLot_at hij.1
    obtain ⟨k2, rfl, hk2⟩ := hasLot_at hij.2
    clear hij
    obtain ⟨g, cap, hv, hglt, hgb, hgne⟩ := H.out.lotRow (by omega)
    obtain ⟨X, hX⟩ : ∃ X, S.lots[k1]? = some X := ⟨_, List.getElem?_eq_getElem hk1⟩
    obtain ⟨Y, hY⟩ : ∃ Y, S.lots[k2]? = some Y := ⟨_, List.getElem?_eq_getElem hk2⟩
    have hg1 : S.lots[((k1 : Int) + 1 - 1).toNat]? = some X := by rw [show ((k1 : Int) + 1 - 1).toNat = k1 by omega]; exact hX
    have hg2 : S.lots[((k2 : Int) + 1 - 1).toNat]? = some Y := by rw [show ((k2 : Int) + 1 - 1).toNat = k2 by omega]; exact hY
    have HLT : Hid (∀ W, Keep (fun _ => False) w0 W → ∀ k, k < S.lots.length → Calls Tryz.prog 263 #[.pointer (some ⟨V.b, 0, none⟩), .int .i64 ((k : Int) + 1)] W fun e w' => e = .returned (.pointer (some ⟨g, k * 4, none⟩)) ∧ W = w') := Lib.hid fun W hk k hkl => by
      have hh := lot_any (i := (k : Int) + 1) ((H0.out.keep hk (fun _ _ h => h)).at (Nat.le_trans H0.out.lt hk.size)) HL.out.l
      unfold LotPost at hh
      rw [show hasLot S ((k : Int) + 1) = true by unfold hasLot; rw [decide_eq_true (by omega), decide_eq_true (by omega)]; rfl, if_pos rfl, lotPtr_at hv] at hh
      exact hh
    have hF0 : blendF S ⟨[(k1 : Int) + 1, (k2 : Int) + 1, q], word, aok⟩ = if (k1 : Int) + 1 = (k2 : Int) + 1 ∨ q = 0 then ⟨7, S, bs []⟩ else
        (if X.closed || (Y.closed || decide (min X.grams Y.grams < q)) then ⟨7, S, bs []⟩ else ⟨0, blendT S ((k1 : Int) + 1) ((k2 : Int) + 1) q X Y, bs [98, 108, 101, 110, 100] ++ (bs [32] ++ itoaB ((S.lots.length : Int) + 1))⟩) := by
      unfold blendF
      rw [if_neg h20]
      simp only [List.getD_cons_zero, List.getD_cons_succ]
      rw [hall, if_pos rfl, hg1, hg2]
    have HALL := Lib.hid hall; clear hall
    have HK1L := Lib.hid hk1
    have HK2L := Lib.hid hk2
    clear hg1 hg2 hvl
    have HX := Lib.hid hX; clear hX
    have HY := Lib.hid hY; clear hY
    by_cases h7 : (k1 : Int) + 1 = (k2 : Int) + 1 ∨ q = 0
    · rw [if_pos h7] at hF0
      have HF := Lib.hid hF0; clear hF0
      by_cases hk : k1 = k2
      · subst hk
        clear h7
        go_enter Tryz.func256, Tryz.ntmps256
        go_wp2
        rw [← HW0.out]
        go_quiet (fail)
        go_wp2_with (first
          | (go_at_call 262; have kk := (((Keep.refl (fun _ => False) w0).drewN nq).alloc (.cells #[.int .i64 ((k1 : Int) + 1), .int .i64 ((k1 : Int) + 1)] 3)); have hh := there_any (l := [((k1 : Int) + 1), ((k1 : Int) + 1)]) ((H0.out.keep kk (fun _ _ h => h)).at (Nat.le_trans H0.out.lt kk.size)) HL.out.l (Rd.new (w0.drewN nq) 1 2 (icells [((k1 : Int) + 1), ((k1 : Int) + 1)]) 3 rfl (icells_one _) (by unfold maxLen; omega)) (by simp); rw [HALL.out] at hh; refine Calls.mono hh ?_; clear hh; rintro e w1 ⟨rfl, hk1⟩; have HK1 := Lib.hid (kk.trans hk1 (fun _ _ h => h)); clear hk1 kk)
          | (go_at_call 263; refine Calls.mono (HLT.out w1 HK1.out _ (by first | exact HK1L.out | exact HK2L.out)) ?_; rintro e w' ⟨rfl, rfl⟩)
          | (go_at_call 263; refine Calls.mono (HLT.out w1 HK1.out _ (by first | exact HK1L.out | exact HK2L.out)) ?_; rintro e w' ⟨rfl, rfl⟩))
        go_ret2
        exact ⟨by rw [HF.out]; rfl, V, (fun e => by rw [HF.out] at e; cases e), (Chg.refl base w V).after (HK0.out.trans HK1.out (fun _ _ h => h))⟩
      · obtain rfl : q = 0 := by omega
        have hne2 : ((k1 : Int) == (k2 : Int)) = false := by simp; omega
        clear h7
        go_enter Tryz.func256, Tryz.ntmps256
        go_wp2
        rw [← HW0.out]
        go_quiet (fail)
        go_wp2_with (first
          | (go_at_call 262; have kk := (((Keep.refl (fun _ => False) w0).drewN nq).alloc (.cells #[.int .i64 ((k1 : Int) + 1), .int .i64 ((k2 : Int) + 1)] 3)); have hh := there_any (l := [((k1 : Int) + 1), ((k2 : Int) + 1)]) ((H0.out.keep kk (fun _ _ h => h)).at (Nat.le_trans H0.out.lt kk.size)) HL.out.l (Rd.new (w0.drewN nq) 1 2 (icells [((k1 : Int) + 1), ((k2 : Int) + 1)]) 3 rfl (icells_one _) (by unfold maxLen; omega)) (by simp); rw [HALL.out] at hh; refine Calls.mono hh ?_; clear hh; rintro e w1 ⟨rfl, hk1⟩; have HK1 := Lib.hid (kk.trans hk1 (fun _ _ h => h)); clear hk1 kk)
          | (go_at_call 263; refine Calls.mono (HLT.out w1 HK1.out _ (by first | exact HK1L.out | exact HK2L.out)) ?_; rintro e w' ⟨rfl, rfl⟩))
        go_ret2
        exact ⟨by rw [HF.out]; rfl, V, (fun e => by rw [HF.out] at e; cases e), (Chg.refl base w V).after (HK0.out.trans HK1.out (fun _ _ h => h))⟩
    · rw [if_neg h7] at hF0
      have hq0 : (q == 0) = false := by simp; omega
      have hne2 : ((k1 : Int) == (k2 : Int)) = false := by simp; omega
      have hkne : k1 ≠ k2 := by omega
      clear h7
      by_cases hcx : X.closed = true
      · have HF := Lib.hid (show blendF S ⟨[(k1 : Int) + 1, (k2 : Int) + 1, q], word, aok⟩ = ⟨7, S, bs []⟩ by rw [hF0, hcx]; rfl)
        have HCX := Lib.hid hcx; clear hcx hF0
        go_enter Tryz.func256, Tryz.ntmps256
        go_wp2
        rw [← HW0.out]
        go_quiet (fail)
        go_wp2_with (first
          | (go_at_call 262; have kk := (((Keep.refl (fun _ => False) w0).drewN nq).alloc (.cells #[.int .i64 ((k1 : Int) + 1), .int .i64 ((k2 : Int) + 1)] 3)); have hh := there_any (l := [((k1 : Int) + 1), ((k2 : Int) + 1)]) ((H0.out.keep kk (fun _ _ h => h)).at (Nat.le_trans H0.out.lt kk.size)) HL.out.l (Rd.new (w0.drewN nq) 1 2 (icells [((k1 : Int) + 1), ((k2 : Int) + 1)]) 3 rfl (icells_one _) (by unfold maxLen; omega)) (by simp); rw [HALL.out] at hh; refine Calls.mono hh ?_; clear hh; rintro e w1 ⟨rfl, hk1⟩; have HK1 := Lib.hid (kk.trans hk1 (fun _ _ h => h)); clear hk1 kk; obtain ⟨⟨_, x1, _, x3⟩, fr⟩ := (H0.out.keep HK1.out (fun _ _ h => h)).lotCellX hv HX.out; obtain ⟨⟨_, y1, _, y3⟩, _⟩ := (H0.out.keep HK1.out (fun _ _ h => h)).lotCellX hv HY.out; rw [HCX.out] at x3)
          | (go_at_call 263; refine Calls.mono (HLT.out w1 HK1.out _ (by first | exact HK1L.out | exact HK2L.out)) ?_; rintro e w' ⟨rfl, rfl⟩))
        go_quiet (fail)
        go_wp2
        go_ret2
        exact ⟨by rw [HF.out]; rfl, V, (fun e => by rw [HF.out] at e; cases e), (Chg.refl base w V).after ((HK0.out.trans HK1.out (fun _ _ h => h)).drewN _)⟩
      have hcx' : X.closed = false := by simpa using hcx
      by_cases hcy : Y.closed = true
      · have HF := Lib.hid (show blendF S ⟨[(k1 : Int) + 1, (k2 : Int) + 1, q], word, aok⟩ = ⟨7, S, bs []⟩ by rw [hF0, hcx', hcy]; rfl)
        have HCX := Lib.hid hcx'; have HCY := Lib.hid hcy; clear hcx hcx' hcy hF0
        go_enter Tryz.func256, Tryz.ntmps256
        go_wp2
        rw [← HW0.out]
        go_quiet (fail)
        go_wp2_with (first
          | (go_at_call 262; have kk := (((Keep.refl (fun _ => False) w0).drewN nq).alloc (.cells #[.int .i64 ((k1 : Int) + 1), .int .i64 ((k2 : Int) + 1)] 3)); have hh := there_any (l := [((k1 : Int) + 1), ((k2 : Int) + 1)]) ((H0.out.keep kk (fun _ _ h => h)).at (Nat.le_trans H0.out.lt kk.size)) HL.out.l (Rd.new (w0.drewN nq) 1 2 (icells [((k1 : Int) + 1), ((k2 : Int) + 1)]) 3 rfl (icells_one _) (by unfold maxLen; omega)) (by simp); rw [HALL.out] at hh; refine Calls.mono hh ?_; clear hh; rintro e w1 ⟨rfl, hk1⟩; have HK1 := Lib.hid (kk.trans hk1 (fun _ _ h => h)); clear hk1 kk; obtain ⟨⟨_, x1, _, x3⟩, fr⟩ := (H0.out.keep HK1.out (fun _ _ h => h)).lotCellX hv HX.out; obtain ⟨⟨_, y1, _, y3⟩, _⟩ := (H0.out.keep HK1.out (fun _ _ h => h)).lotCellX hv HY.out; rw [HCX.out] at x3; rw [HCY.out] at y3)
          | (go_at_call 263; refine Calls.mono (HLT.out w1 HK1.out _ (by first | exact HK1L.out | exact HK2L.out)) ?_; rintro e w' ⟨rfl, rfl⟩))
        go_quiet (fail)
        go_wp2
        go_ret2
        exact ⟨by rw [HF.out]; rfl, V, (fun e => by rw [HF.out] at e; cases e), (Chg.refl base w V).after ((HK0.out.trans HK1.out (fun _ _ h => h)).drewN _)⟩
      have hcy' : Y.closed = false := by simpa using hcy
      by_cases hm : min X.grams Y.grams < q
      · have HF := Lib.hid (show blendF S ⟨[(k1 : Int) + 1, (k2 : Int) + 1, q], word, aok⟩ = ⟨7, S, bs []⟩ by rw [hF0, hcx', hcy', decide_eq_true hm]; rfl)
        have HCX := Lib.hid hcx'; have HCY := Lib.hid hcy'; clear hcx hcx' hcy hcy' hF0
        have hmd : decide (min X.grams Y.grams < q) = true := decide_eq_true hm
        clear hm
        go_enter Tryz.func256, Tryz.ntmps256
        go_wp2
        rw [← HW0.out]
        go_quiet (fail)
        go_wp2_with (first
          | (go_at_call 262; have kk := (((Keep.refl (fun _ => False) w0).drewN nq).alloc (.cells #[.int .i64 ((k1 : Int) + 1), .int .i64 ((k2 : Int) + 1)] 3)); have hh := there_any (l := [((k1 : Int) + 1), ((k2 : Int) + 1)]) ((H0.out.keep kk (fun _ _ h => h)).at (Nat.le_trans H0.out.lt kk.size)) HL.out.l (Rd.new (w0.drewN nq) 1 2 (icells [((k1 : Int) + 1), ((k2 : Int) + 1)]) 3 rfl (icells_one _) (by unfold maxLen; omega)) (by simp); rw [HALL.out] at hh; refine Calls.mono hh ?_; clear hh; rintro e w1 ⟨rfl, hk1⟩; have HK1 := Lib.hid (kk.trans hk1 (fun _ _ h => h)); clear hk1 kk; obtain ⟨⟨_, x1, _, x3⟩, fr⟩ := (H0.out.keep HK1.out (fun _ _ h => h)).lotCellX hv HX.out; obtain ⟨⟨_, y1, _, y3⟩, _⟩ := (H0.out.keep HK1.out (fun _ _ h => h)).lotCellX hv HY.out; rw [HCX.out] at x3; rw [HCY.out] at y3)
          | (go_at_call 263; refine Calls.mono (HLT.out w1 HK1.out _ (by first | exact HK1L.out | exact HK2L.out)) ?_; rintro e w' ⟨rfl, rfl⟩))
        go_quiet (fail)
        go_wp2
        go_ret2
        exact ⟨by rw [HF.out]; rfl, V, (fun e => by rw [HF.out] at e; cases e), (Chg.refl base w V).after ((HK0.out.trans HK1.out (fun _ _ h => h)).drewN _)⟩
      have HF := Lib.hid (show blendF S ⟨[(k1 : Int) + 1, (k2 : Int) + 1, q], word, aok⟩ = ⟨0, blendT S ((k1 : Int) + 1) ((k2 : Int) + 1) q X Y, bs [98, 108, 101, 110, 100] ++ (bs [32] ++ itoaB ((S.lots.length : Int) + 1))⟩ by rw [hF0, hcx', hcy', decide_eq_false hm]; rfl)
      have HCX := Lib.hid hcx'; have HCY := Lib.hid hcy'; clear hcx hcx' hcy hcy' hF0
      have hmd : decide (min X.grams Y.grams < q) = false := decide_eq_false hm
      clear hm
      have hn41 : k1 * 4 + 1 ≠ k2 * 4 + 1 := by omega
      have hn42 : k2 * 4 + 1 ≠ k1 * 4 + 1 := by omega
      have hit : (9223372036854775807 < 5 + (1 + (itoaB ((S.lots.length : Int) + 1)).size)) = False := eq_false (by have := itoaB_size ((S.lots.length : Int) + 1) (by omega) (by omega); omega)
      go_enter Tryz.func256, Tryz.ntmps256
      go_wp2
      rw [← HW0.out]
      go_quiet (fail)
      go_wp2_with (first
        | (go_at_call 262; have kk := (((Keep.refl (fun _ => False) w0).drewN nq).alloc (.cells #[.int .i64 ((k1 : Int) + 1), .int .i64 ((k2 : Int) + 1)] 3)); have hh := there_any (l := [((k1 : Int) + 1), ((k2 : Int) + 1)]) ((H0.out.keep kk (fun _ _ h => h)).at (Nat.le_trans H0.out.lt kk.size)) HL.out.l (Rd.new (w0.drewN nq) 1 2 (icells [((k1 : Int) + 1), ((k2 : Int) + 1)]) 3 rfl (icells_one _) (by unfold maxLen; omega)) (by simp); rw [HALL.out] at hh; refine Calls.mono hh ?_; clear hh; rintro e w1 ⟨rfl, hk1⟩; have HK1 := Lib.hid (kk.trans hk1 (fun _ _ h => h)); clear hk1 kk; obtain ⟨⟨_, x1, _, x3⟩, fr⟩ := (H0.out.keep HK1.out (fun _ _ h => h)).lotCellX hv HX.out; obtain ⟨⟨_, y1, _, y3⟩, _⟩ := (H0.out.keep HK1.out (fun _ _ h => h)).lotCellX hv HY.out; rw [HCX.out] at x3; rw [HCY.out] at y3; have fx1 := fr (k1 * 4 + 1); have fy1 := fr (k2 * 4 + 1))
        | (go_at_call 263; refine Calls.mono (HLT.out w1 HK1.out _ (by first | exact HK1L.out | exact HK2L.out)) ?_; rintro e w' ⟨rfl, rfl⟩))
      go_quiet (fail)
      have hlenB : (blendS S ((k1 : Int) + 1) ((k2 : Int) + 1) q X Y).lots.length = S.lots.length := by simp [blendS]
      have hlenC : (addS (blendS S ((k1 : Int) + 1) ((k2 : Int) + 1) q X Y) ⟨⟨#[98, 108, 101, 110, 100]⟩, wrap64 (2 * q), -1, false⟩).lots.length = S.lots.length + 1 := by simp [addS, blendS]
      have hlenD : (touchS (addS (blendS S ((k1 : Int) + 1) ((k2 : Int) + 1) q X Y) ⟨⟨#[98, 108, 101, 110, 100]⟩, wrap64 (2 * q), -1, false⟩) ((S.lots.length : Int) + 1) ((k1 : Int) + 1)).lots.length = S.lots.length + 1 := by simp [touchS, addS, blendS]
      go_wp2_with (first
        | (go_at_call 261; have h2 := (H0.out.keep HK1.out (fun _ _ h => h)).keep ((Keep.refl (fun _ => False) w1).drewN nq) (fun _ _ h => h); obtain ⟨h3, hc3⟩ := h2.setLotX hv HX.out 1 (by omega) { X with grams := wrap64 (X.grams - q) } (.int .i64 (wrap64 (X.grams - q))) rfl; obtain ⟨h4, hc4⟩ := h3.setLotX (g := g) (cap := cap) (by simpa using hv) (i := k2) (X := Y) (by rw [List.getElem?_set_ne hkne]; exact HY.out) 1 (by omega) { Y with grams := wrap64 (Y.grams - q) } (.int .i64 (wrap64 (Y.grams - q))) rfl; have h4' : OSt base (((w1.drewN nq).setCell ⟨g, k1 * 4 + 1, none⟩ (.int .i64 (wrap64 (X.grams - q)))).setCell ⟨g, k2 * 4 + 1, none⟩ (.int .i64 (wrap64 (Y.grams - q)))) V (blendS S ((k1 : Int) + 1) ((k2 : Int) + 1) q X Y) := (by unfold blendS; rw [show ((k1 : Int) + 1 - 1).toNat = k1 by omega, show ((k2 : Int) + 1 - 1).toNat = k2 by omega]; exact h4); have hcw := (hc3.trans hc4).before ((HK0.out.trans HK1.out (fun _ _ h => h)).drewN nq); have hh := add_any (x := ⟨⟨#[98, 108, 101, 110, 100]⟩, wrap64 (2 * q), -1, false⟩) (hG.keep hcw.keep (fun i hi e => by have := e.1; omega)) h4' (by rw [hlenB]; omega); refine Calls.mono hh ?_; clear hh; rintro e w5 ⟨V5, rfl, ho5, hc5⟩; rw [hlenB]; have hc05 := hcw.trans hc5; obtain ⟨l5, q5, hv5, _⟩ := ownsRow_shape ho5.ol; have c5 := ho5.blk.cell 1; simp [StV.cells] at c5; rw [hv5, hlenC, hc5.b] at c5; have HTO : Hid (∀ jj, (jj = ((k1 : Int) + 1) ∨ jj = ((k2 : Int) + 1)) → Calls Tryz.prog 264 #[.pointer (some ⟨V.b, 0, none⟩), .int .i64 ((S.lots.length : Int) + 1), .int .i64 jj] w5 (TouchedPost base w5 V5 (addS (blendS S ((k1 : Int) + 1) ((k2 : Int) + 1) q X Y) ⟨⟨#[98, 108, 101, 110, 100]⟩, wrap64 (2 * q), -1, false⟩) ((S.lots.length : Int) + 1) jj)) := Lib.hid (fun jj hjj => touch_step hc5.b (hG.keep hc05.keep (fun i hi e => by have := e.1; omega)) ho5 (by simp [addS, blendS]; omega) (by simp [addS, blendS]; omega) (by unfold i64b; omega) (by rcases hjj with rfl | rfl; exact HI.out; exact HJ.out)); have HNEXT : Hid True := Lib.hid trivial; have HC5 := Lib.hid hc05; have HO5 := Lib.hid ho5; clear h2 h3 h4 hc3 hc4 h4' hcw hc5 ho5 hv5 hc05)
        | (go_at_call 264; have hno5 := HNEXT.out; clear HNEXT; refine Calls.mono (HTO.out _ (by simp)) ?_; rintro e w6 ⟨V6, rfl, ho6, hc6⟩; have hb6 : V6.b = V.b := hc6.b.trans HC5.out.b; have hc06 := HC5.out.trans hc6; obtain ⟨l6, q6, hv6, _⟩ := ownsRow_shape ho6.ol; have c6 := ho6.blk.cell 1; simp [StV.cells] at c6; rw [hv6, hb6, hlenD] at c6; have HTP : Hid (∀ jj, (jj = ((k1 : Int) + 1) ∨ jj = ((k2 : Int) + 1)) → Calls Tryz.prog 264 #[.pointer (some ⟨V.b, 0, none⟩), .int .i64 ((S.lots.length : Int) + 1), .int .i64 jj] w6 (TouchedPost base w6 V6 (touchS (addS (blendS S ((k1 : Int) + 1) ((k2 : Int) + 1) q X Y) ⟨⟨#[98, 108, 101, 110, 100]⟩, wrap64 (2 * q), -1, false⟩) ((S.lots.length : Int) + 1) ((k1 : Int) + 1)) ((S.lots.length : Int) + 1) jj)) := Lib.hid (fun jj hjj => touch_step hb6 (hG.keep hc06.keep (fun i hi e => by have := e.1; omega)) ho6 (by simp [touchS, addS, blendS]; omega) (by simp [touchS, addS, blendS]; omega) (by unfold i64b; omega) (by rcases hjj with rfl | rfl; exact HI.out; exact HJ.out)); have HC6 := Lib.hid hc06; have HO6 := Lib.hid ho6; clear hc6 ho6 hv6 hc06 hno5)
        | (go_at_call 264; refine Calls.mono (HTP.out _ (by simp)) ?_; rintro e w7 ⟨V7, rfl, ho7, hc7⟩; have HC7 := Lib.hid (HC6.out.trans hc7); have HO7 := Lib.hid ho7; clear ho7 hc7))
      go_ret2
      exact ⟨by rw [HF.out]; rfl, V7, fun _ => by rw [HF.out]; exact HO7.out, HC7.out⟩
end Go.Proofs.YthdkamnclbfehaaGreatDoor
