/- Plain laws on int's bits: sets of small numbers as numbers. No Go function stands here. -/
import Derived.WalkKit
import Derived.Test.YthdkamnclbfehaaGreatDoorBytes4
import Derived.Test.YthdkamnclbfehaaGreatDoorBytes3
import Derived.Shelf.Bytes.SlCut
import Derived.Laws.BytesArg
import Derived.Test.YthdkamnclbfehaaGreatDoorBytes2
import Derived.Shelf.Spec.TrailingZeros
import Derived.Lib.LaidTab
import Derived.Shelf.Abstract

/- Plain laws on int's bits: sets of small numbers as numbers. No Go function stands here. -/
namespace Go.Proofs.YthdkamnclbfehaaGreatDoor
set_option linter.unusedSimpArgs false
set_option linter.unusedVariables false
set_option linter.unnecessarySimpa false
open Go.RowKit

theorem ofInt_i64 (a : Nat) (ha : a < 9223372036854775808) : (BitVec.ofInt 64 (a : Int)).toNat = a := by
  rw [BitVec.toNat_ofInt]
  omega
theorem i64_and_nat (a b : Nat) (ha : a < 9223372036854775808) (hb : b < 9223372036854775808) : bits .and .i64 (a : Int) (b : Int) = ((a &&& b : Nat) : Int) := by
  have hx : a &&& b < 2 ^ 63 := Nat.and_lt_two_pow _ (by omega)
  show IntKind.i64.wrap ((BitVec.ofInt 64 (a : Int) &&& BitVec.ofInt 64 (b : Int)).toNat : Int) = _
  rw [BitVec.toNat_and, ofInt_i64 a ha, ofInt_i64 b hb, IntKind.wrap_i64]
  omega
theorem i64_or_nat (a b : Nat) (ha : a < 9223372036854775808) (hb : b < 9223372036854775808) : bits .or .i64 (a : Int) (b : Int) = ((a ||| b : Nat) : Int) := by
  have hx : a ||| b < 2 ^ 63 := Nat.or_lt_two_pow (by omega) (by omega)
  show IntKind.i64.wrap ((BitVec.ofInt 64 (a : Int) ||| BitVec.ofInt 64 (b : Int)).toNat : Int) = _
  rw [BitVec.toNat_or, ofInt_i64 a ha, ofInt_i64 b hb, IntKind.wrap_i64]
  omega
/-- a without b. -/
def sdiff (a b : Nat) : Nat := a ^^^ (a &&& b)
theorem testBit_sdiff (a b i : Nat) : (sdiff a b).testBit i = (a.testBit i && !b.testBit i) := by
  unfold sdiff
  rw [Nat.testBit_xor, Nat.testBit_and]
  cases a.testBit i <;> cases b.testBit i <;> rfl
theorem sdiff_lt {a b n : Nat} (h : a < 2 ^ n) : sdiff a b < 2 ^ n := Nat.xor_lt_two_pow h (Nat.lt_of_le_of_lt Nat.and_le_left h)
theorem i64_andNot_nat (a b : Nat) (ha : a < 9223372036854775808) (hb : b < 9223372036854775808) : bits .andNot .i64 (a : Int) (b : Int) = ((sdiff a b : Nat) : Int) := by
  have key : (BitVec.ofInt 64 (a : Int) &&& ~~~ BitVec.ofInt 64 (b : Int)).toNat = sdiff a b := by
    apply Nat.eq_of_testBit_eq
    intro i
    rw [testBit_sdiff, ← BitVec.getLsbD, BitVec.getLsbD_and, BitVec.getLsbD_not]
    by_cases hi : i < 64
    · rw [BitVec.getLsbD, BitVec.getLsbD, ofInt_i64 a ha, ofInt_i64 b hb]
      simp [hi]
    · have h1 : a.testBit i = false := Nat.testBit_lt_two_pow (Nat.lt_of_lt_of_le ha (show 2 ^ 63 ≤ 2 ^ i from Nat.pow_le_pow_right (by decide) (by omega)))
      rw [BitVec.getLsbD_of_ge _ _ (by omega), h1]
      simp
  have hlt : sdiff a b < 2 ^ 63 := sdiff_lt (by omega)
  show IntKind.i64.wrap ((BitVec.ofInt 64 (a : Int) &&& ~~~ BitVec.ofInt 64 (b : Int)).toNat : Int) = _
  rw [key, IntKind.wrap_i64]
  omega
theorem i64_and_one (n : Int) : bits .and .i64 n 1 = n % 2 := by
  have h1 : (BitVec.ofInt 64 1).toNat = 2 ^ 1 - 1 := by decide
  have key : (BitVec.ofInt 64 n &&& BitVec.ofInt 64 1).toNat = (n % ((2 ^ 64 : Nat) : Int)).toNat % 2 ^ 1 := by
    rw [BitVec.toNat_and, BitVec.toNat_ofInt, h1, Nat.and_two_pow_sub_one_eq_mod]
  show IntKind.i64.wrap ((BitVec.ofInt 64 n &&& BitVec.ofInt 64 1).toNat : Nat) = n % 2
  rw [key, IntKind.wrap_i64]
  omega
/-- Bit k of an int. -/
def ibit (x : Int) (k : Nat) : Int := x / 2 ^ k % 2
theorem ibit_nat (x k : Nat) : ibit x k = if x.testBit k then 1 else 0 := by
  unfold ibit
  rw [Nat.testBit_eq_decide_div_mod_eq]
  have : ((x : Int) / 2 ^ k % 2) = ((x / 2 ^ k % 2 : Nat) : Int) := by push_cast; rfl
  rw [this]
  have h2 : x / 2 ^ k % 2 < 2 := Nat.mod_lt _ (by decide)
  by_cases h : x / 2 ^ k % 2 = 1
  · simp [h]
  · have : x / 2 ^ k % 2 = 0 := by omega
    simp [this]
theorem ibit_01 (x : Int) (k : Nat) : ibit x k = 0 ∨ ibit x k = 1 := by unfold ibit; omega
theorem shl_one (j : Nat) (h : j ≤ 62) : IntKind.i64.wrap (2 ^ min j 64) = ((2 ^ j : Nat) : Int) := by
  rw [Nat.min_eq_left (by omega)]
  have : (2 : Nat) ^ j ≤ 2 ^ 62 := Nat.pow_le_pow_right (by decide) h
  rw [show ((2 : Int) ^ j) = ((2 ^ j : Nat) : Int) by push_cast; rfl, IntKind.wrap_i64]
  generalize (2 : Nat) ^ j = q at *
  omega
end Go.Proofs.YthdkamnclbfehaaGreatDoor

/- house.state.put. -/
namespace Go.Proofs.YthdkamnclbfehaaGreatDoor
set_option linter.unusedSimpArgs false
set_option linter.unusedVariables false
set_option linter.unnecessarySimpa false
open Go.RowKit

def adjB (S : St) (b c : Int) : Bool := S.bays.getD b.toNat 0 / 2 ^ min c.toNat 64 % 2 == 1
/-- Does another open lot in a bay stand in the way. -/
def clashAt (S : St) (i b : Int) (X : Lot) (k : Nat) : Bool :=
  match S.lots[k]? with
  | some y => !((k : Int) == i - 1) && (!y.closed && (!decide (y.bay < 0) && (y.bay == b || (!(y.spice.toList == X.spice.toList) && adjB S b y.bay))))
  | none => false
def putF (S : St) (a : FA) : Res :=
  if hasLot S (a.n.getD 0 0) then
    (if 7 < a.n.getD 1 0 then ⟨2, S, bs []⟩
     else match S.lots[(a.n.getD 0 0 - 1).toNat]? with
      | some X => if X.closed then ⟨7, S, bs []⟩
          else if (List.range S.lots.length).any (clashAt S (a.n.getD 0 0) (a.n.getD 1 0) X) then ⟨7, S, bs []⟩
          else ⟨0, { S with lots := S.lots.set (a.n.getD 0 0 - 1).toNat { X with bay := a.n.getD 1 0 } }, bs [112, 117, 116]⟩
      | none => ⟨5, S, bs []⟩)
  else ⟨5, S, bs []⟩

set_option maxHeartbeats 2500000 in
set_option maxRecDepth 100000 in
theorem put_any {base : Nat} {w : World} {V : StV} {S : St} {vn : Value} {a : FA} (hG : GW base w) (h : OSt base w V S) (hl : S.small) (hbays : S.bays.length = 8) (ha : Args base w vn a) (hn : a.n.length = 2) (hbx : ∀ x ∈ a.n, 0 ≤ x ∧ x ≤ 9223372036854775807) :
    Calls Tryz.prog 257 #[.pointer (some ⟨V.b, 0, none⟩), .agg #[vn, .string a.word]] w (RunPost base w V (putF S a)) := by
  obtain ⟨nb, no, nc, rfl, hnc, hC⟩ := args_open h ha (by omega)
  obtain ⟨i, b, hx⟩ : ∃ i b, a.n = [i, b] := by
    match a.n, hn with
    | [i, b], _ => exact ⟨i, b, rfl⟩
  obtain ⟨an, word, aok⟩ := a
  simp only at hx hn hnc hC hbx
  subst hx
  have hib := hbx i (by simp)
  have hbb := hbx b (by simp)
  obtain ⟨bn, rfl⟩ := Int.eq_ofNat_of_zero_le hbb.1
  change Calls Tryz.prog 257 #[.pointer (some ⟨V.b, 0, none⟩), .agg #[.slice (some ⟨nb, no, none⟩) 2 nc, .string word]] w (RunPost base w V (putF S ⟨[i, (bn : Int)], word, aok⟩))
  obtain ⟨w0, hw0⟩ : ∃ w0, w0 = w.alloc (.cells #[.slice (some ⟨nb, no, none⟩) 2 nc, .string word] 134) := ⟨_, rfl⟩
  obtain ⟨b0, b1, b2⟩ := hC _ (Keep.refl _ _)
  have n0 := b2 0 (by simp)
  have n1 := b2 1 (by simp)
  simp only [Nat.add_zero, List.getD_cons_zero, List.getD_cons_succ] at n0 n1
  have b0' : (w.alloc (.cells #[.slice (some ⟨nb, no, none⟩) 2 nc, .string word] 134)).cell? ⟨w.heap.size, 0, none⟩ = some (.slice (some ⟨nb, no, none⟩) 2 nc) := b0
  have n0' : w0.cell? ⟨nb, no, none⟩ = some (.int .i64 i) := by rw [hw0]; exact n0
  have n1' : w0.cell? ⟨nb, no + 1, none⟩ = some (.int .i64 (bn : Int)) := by rw [hw0]; exact n1
  rw [← hw0] at b0'
  have hnc1 : 2 ≤ nc := hnc
  have hk0 : Keep (fun _ => False) w w0 := by rw [hw0]; exact (Keep.refl _ _).alloc _
  have h0 := h.keep hk0 (fun _ _ h => h)
  have HI := Lib.hid hib; have HB := Lib.hid hbb; clear hib hbx
  have H0 := Lib.hid h0; clear h0
  have H := Lib.hid h; clear h
  have HL := Lib.hid hl; clear hl
  have HK0 := Lib.hid hk0; clear hk0
  have HW0 := Lib.hid hw0; clear hw0
  clear b0 b1 b2 n0 n1 hC ha hnc hn
  have HTH : Hid (∀ nq, Calls Tryz.prog 262 #[.pointer (some ⟨V.b, 0, none⟩), .slice (some ⟨w0.heap.size, 0, none⟩) 1 1] ((w0.drewN nq).alloc (.cells #[.int .i64 i] 3)) (IdxPost ((w0.drewN nq).alloc (.cells #[.int .i64 i] 3)) (.bool (hasLot S i)))) := Lib.hid fun nq => by
    have kk := (((Keep.refl (fun _ => False) w0).drewN nq).alloc (.cells #[.int .i64 i] 3))
    have hh := there_any (l := [i]) ((H0.out.keep kk (fun _ _ h => h)).at (Nat.le_trans H0.out.lt kk.size)) HL.out.l (Rd.new (w0.drewN nq) 1 1 (icells [i]) 3 rfl (icells_one _) (by unfold maxLen; omega)) (by simp)
    rw [show allLots S [i] = hasLot S i by simp [allLots]] at hh
    exact hh
  cases hb : hasLot S i with
  | false =>
    have HF := Lib.hid (show putF S ⟨[i, (bn : Int)], word, aok⟩ = ⟨5, S, bs []⟩ by unfold putF; simp only [List.getD_cons_zero, List.getD_cons_succ]; rw [hb]; rfl)
    have HBF := Lib.hid hb; clear hb
    go_enter Tryz.func257, Tryz.ntmps257
    go_wp2
    rw [← HW0.out]
    go_quiet (fail)
    go_wp2_with (go_at_call 262; have hh := HTH.out nq; rw [HBF.out] at hh; refine Calls.mono hh ?_; clear hh; rintro e w1 ⟨rfl, hk1⟩; have HK1 := Lib.hid ((((Keep.refl (fun _ => False) w0).drewN nq).alloc (.cells #[.int .i64 i] 3)).trans hk1 (fun _ _ h => h)); clear hk1)
    go_ret2
    exact ⟨by rw [HF.out]; rfl, V, (fun e => by rw [HF.out] at e; cases e), (Chg.refl base w V).after (HK0.out.trans HK1.out (fun _ _ h => h))⟩
  | true =>
    obtain ⟨ki, rfl, hki⟩ := hasLot_at hb
    obtain ⟨g, cap, hv, hglt, hgb, hgne⟩ := H.out.lotRow (by omega)
    obtain ⟨X, hX⟩ : ∃ X, S.lots[ki]? = some X := ⟨_, List.getElem?_eq_getElem hki⟩
    have hg1 : S.lots[((ki : Int) + 1 - 1).toNat]? = some X := by rw [show ((ki : Int) + 1 - 1).toNat = ki by omega]; exact hX
    have hF0 : putF S ⟨[(ki : Int) + 1, (bn : Int)], word, aok⟩ = if 7 < (bn : Int) then ⟨2, S, bs []⟩ else (if X.closed then ⟨7, S, bs []⟩
          else if (List.range S.lots.length).any (clashAt S ((ki : Int) + 1) (bn : Int) X) then ⟨7, S, bs []⟩
          else ⟨0, { S with lots := S.lots.set ki { X with bay := (bn : Int) } }, bs [112, 117, 116]⟩) := by
      unfold putF
      simp only [List.getD_cons_zero, List.getD_cons_succ]
      rw [hb, if_pos rfl, hg1, show ((ki : Int) + 1 - 1).toNat = ki by omega]
    have HLT : Hid (∀ W, Keep (fun _ => False) w0 W → Calls Tryz.prog 263 #[.pointer (some ⟨V.b, 0, none⟩), .int .i64 ((ki : Int) + 1)] W fun e w' => e = .returned (.pointer (some ⟨g, ki * 4, none⟩)) ∧ W = w') := Lib.hid fun W hk => by
      have hh := lot_any (i := (ki : Int) + 1) ((H0.out.keep hk (fun _ _ h => h)).at (Nat.le_trans H0.out.lt hk.size)) HL.out.l
      unfold LotPost at hh
      rw [hb, if_pos rfl, lotPtr_at hv] at hh
      exact hh
    have HBF := Lib.hid hb; clear hb
    have HX := Lib.hid hX; clear hX hg1
    have HKI := Lib.hid hki; clear hki
    by_cases h7 : 7 < (bn : Int)
    · have HF := Lib.hid (show putF S ⟨[(ki : Int) + 1, (bn : Int)], word, aok⟩ = ⟨2, S, bs []⟩ by rw [hF0, if_pos h7])
      have h7d : decide (7 < (bn : Int)) = true := decide_eq_true h7
      clear hF0 h7
      go_enter Tryz.func257, Tryz.ntmps257
      go_wp2
      rw [← HW0.out]
      go_quiet (fail)
      go_wp2_with (go_at_call 262; have hh := HTH.out nq; rw [HBF.out] at hh; refine Calls.mono hh ?_; clear hh; rintro e w1 ⟨rfl, hk1⟩; have HK1 := Lib.hid ((((Keep.refl (fun _ => False) w0).drewN nq).alloc (.cells #[.int .i64 ((ki : Int) + 1)] 3)).trans hk1 (fun _ _ h => h)); clear hk1)
      go_ret2
      exact ⟨by rw [HF.out]; rfl, V, (fun e => by rw [HF.out] at e; cases e), (Chg.refl base w V).after (HK0.out.trans HK1.out (fun _ _ h => h))⟩
    rw [if_neg h7] at hF0
    have h7d : decide (7 < (bn : Int)) = false := decide_eq_false h7
    cases hcx : X.closed with
    | true =>
      have HF := Lib.hid (show putF S ⟨[(ki : Int) + 1, (bn : Int)], word, aok⟩ = ⟨7, S, bs []⟩ by rw [hF0, hcx]; rfl)
      have HCX := Lib.hid hcx
      clear hF0 h7 hcx
      go_enter Tryz.func257, Tryz.ntmps257
      go_wp2
      rw [← HW0.out]
      go_quiet (fail)
      go_wp2_with (first
        | (go_at_call 262; have hh := HTH.out nq; rw [HBF.out] at hh; refine Calls.mono hh ?_; clear hh; rintro e w1 ⟨rfl, hk1⟩; have HK1 := Lib.hid ((((Keep.refl (fun _ => False) w0).drewN nq).alloc (.cells #[.int .i64 ((ki : Int) + 1)] 3)).trans hk1 (fun _ _ h => h)); clear hk1; obtain ⟨⟨x0, _, _, x3⟩, fr⟩ := (H0.out.keep HK1.out (fun _ _ h => h)).lotCellX hv HX.out; rw [HCX.out] at x3)
        | (go_at_call 263; refine Calls.mono (HLT.out w1 HK1.out) ?_; rintro e w' ⟨rfl, rfl⟩))
      go_ret2
      exact ⟨by rw [HF.out]; rfl, V, (fun e => by rw [HF.out] at e; cases e), (Chg.refl base w V).after (HK0.out.trans HK1.out (fun _ _ h => h))⟩
    | false =>
      have hF1 : putF S ⟨[(ki : Int) + 1, (bn : Int)], word, aok⟩ = if (List.range S.lots.length).any (clashAt S ((ki : Int) + 1) (bn : Int) X) then ⟨7, S, bs []⟩ else ⟨0, { S with lots := S.lots.set ki { X with bay := (bn : Int) } }, bs [112, 117, 116]⟩ := by rw [hF0, hcx]; rfl
      have HF1 := Lib.hid hF1
      have HCX := Lib.hid hcx
      clear hF0 hF1 hcx
      go_enter Tryz.func257, Tryz.ntmps257
      go_wp2
      rw [← HW0.out]
      go_quiet (fail)
      go_wp2_with (first
        | (go_at_call 262; have hh := HTH.out nq; rw [HBF.out] at hh; refine Calls.mono hh ?_; clear hh; rintro e w1 ⟨rfl, hk1⟩; have HK1 := Lib.hid ((((Keep.refl (fun _ => False) w0).drewN nq).alloc (.cells #[.int .i64 ((ki : Int) + 1)] 3)).trans hk1 (fun _ _ h => h)); clear hk1; obtain ⟨⟨x0, _, _, x3⟩, fr⟩ := (H0.out.keep HK1.out (fun _ _ h => h)).lotCellX hv HX.out; rw [HCX.out] at x3; have c1 := (H0.out.keep HK1.out (fun _ _ h => h)).blk.cell 1; simp [StV.cells] at c1; rw [hv] at c1)
        | (go_at_call 263; refine Calls.mono (HLT.out w1 HK1.out) ?_; rintro e w' ⟨rfl, rfl⟩))
      have hki2 := HKI.out
      have hwk : IntKind.i64.wrap ((ki : Int) + 1 - 1) = (ki : Int) := by rw [IntWalk.i64_in _ (by have := HL.out.l; omega)]; omega
      have hll := HL.out.l
      go_loopw [43] (fun v wr => ∃ k : Nat, k ≤ S.lots.length ∧ v = .int .i64 k ∧ Keep (fun _ => False) w0 wr ∧ ∀ j, j < k → clashAt S ((ki : Int) + 1) (bn : Int) X j = false) (fun v _ => S.lots.length - (intOf v).toNat)
      case atStart => exact ⟨0, Nat.zero_le _, rfl, HK1.out, fun j h => by omega⟩
      case round =>
        obtain ⟨k, hk, rfl, hkr, hnc⟩ := hrel
        have HKR := Lib.hid hkr; clear hkr
        have HNC := Lib.hid hnc; clear hnc
        by_cases hlt : k < S.lots.length
        · obtain ⟨Y, hY⟩ : ∃ Y, S.lots[k]? = some Y := ⟨_, List.getElem?_eq_getElem hlt⟩
          obtain ⟨ys, yg, yb, yc⟩ := Y
          have hlti : ((k : Int) < (S.lots.length : Int)) = True := by simp; omega
          obtain ⟨⟨y0, y1, y2, y3⟩, _⟩ := (H0.out.keep HKR.out (fun _ _ h => h)).lotCellX hv hY
          dsimp only at y0 y1 y2 y3
          have hcl : clashAt S ((ki : Int) + 1) (bn : Int) X k = (!((k : Int) == (ki : Int) + 1 - 1) && (!yc && (!decide (yb < 0) && (yb == (bn : Int) || (!(ys.toList == X.spice.toList) && adjB S (bn : Int) yb))))) := by unfold clashAt; rw [hY]
          clear hY
          by_cases hkk : k = ki
          · have HCL := Lib.hid (show clashAt S ((ki : Int) + 1) (bn : Int) X k = false by rw [hcl, hkk]; simp)
            have hkd : ((k : Int) == (ki : Int)) = true := by rw [hkk]; simp
            clear hcl hkk
            go_wp2
            go_roundw
            case rel => exact ⟨k + 1, hlt, by go_num, HKR.out.alloc _, fun j hj => by
              by_cases hjk : j = k
              · subst hjk; exact HCL.out
              · exact HNC.out j (by omega)⟩
            case measure => simp [intOf]; omega
          have hkd : ((k : Int) == (ki : Int)) = false := by simp; omega
          have hkd' : ((k : Int) == (ki : Int) + 1 - 1) = false := by simp; omega
          cases yc with
          | true =>
            have HCL := Lib.hid (show clashAt S ((ki : Int) + 1) (bn : Int) X k = false by rw [hcl]; simp)
            clear hcl hkk hkd'
            go_wp2
            go_roundw
            case rel => exact ⟨k + 1, hlt, by go_num, HKR.out.alloc _, fun j hj => by
              by_cases hjk : j = k
              · subst hjk; exact HCL.out
              · exact HNC.out j (by omega)⟩
            case measure => simp [intOf]; omega
          | false =>
            by_cases hyb : yb < 0
            · have HCL := Lib.hid (show clashAt S ((ki : Int) + 1) (bn : Int) X k = false by rw [hcl, decide_eq_true hyb]; simp)
              have hybd : decide (yb < 0) = true := decide_eq_true hyb
              clear hcl hkk hyb hkd'
              go_wp2
              go_roundw
              case rel => exact ⟨k + 1, hlt, by go_num, HKR.out.alloc _, fun j hj => by
                by_cases hjk : j = k
                · subst hjk; exact HCL.out
                · exact HNC.out j (by omega)⟩
              case measure => simp [intOf]; omega
            obtain ⟨c, rfl⟩ := Int.eq_ofNat_of_zero_le (show 0 ≤ yb by omega)
            have hcl2 : clashAt S ((ki : Int) + 1) (bn : Int) X k = (((c : Int) == (bn : Int)) || (!(ys.toList == X.spice.toList) && (S.bays.getD bn 0 / 2 ^ min c 64 % 2 == 1))) := by
              rw [hcl, hkd', decide_eq_false hyb]
              simp only [adjB, Int.toNat_natCast, Bool.not_false, Bool.true_and]
            have hybd : decide ((c : Int) < 0) = false := decide_eq_false hyb
            clear hkk hcl hkd' hyb
            go_wp2
            have hkb := HKR.out.alloc (.cells #[.string ys, .int .i64 yg, .int .i64 (c : Int), .bool false] 214)
            have hzb := Blk.new wr #[.string ys, .int .i64 yg, .int .i64 (c : Int), .bool false] 214
            obtain ⟨wb, hwb⟩ : ∃ wb, wb = wr.alloc (.cells #[.string ys, .int .i64 yg, .int .i64 (c : Int), .bool false] 214) := ⟨_, rfl⟩
            rw [← hwb] at hkb hzb
            rw [← hwb]
            clear hwb y0 y1 y2 y3 hybd
            have z0 := hzb.cell 0
            have z2 := hzb.cell 2
            simp at z0 z2
            have xs := ((H0.out.keep hkb (fun _ _ h => h)).lotCellX hv HX.out).1.1
            have vb0 := (H0.out.keep hkb (fun _ _ h => h)).blk.cell 0
            simp [StV.cells] at vb0
            obtain ⟨gb, ob, cb, hvb, hbc⟩ : ∃ gb ob cb, V.vb = .slice (some ⟨gb, ob, none⟩) 8 cb ∧ wb.cell? ⟨gb, ob + bn, none⟩ = some (.int .i64 (S.bays.getD bn 0)) := by
              have hrb := (H0.out.keep hkb (fun _ _ h => h)).rb
              rcases hrb.2.2 with ⟨_, e⟩ | ⟨gb, ob, cb, e, _, _, hx⟩
              · omega
              · exact ⟨gb, ob, cb, by rw [e, hbays], hx bn _ (icells_get _ _ (by omega))⟩
            rw [hvb] at vb0
            have hb8 : ((bn : Int) < 8) = True := by simp; omega
            have HKB := Lib.hid hkb; clear hkb hzb hvb
            obtain ⟨q, hq⟩ : ∃ q, S.bays.getD bn 0 = q := ⟨_, rfl⟩
            rw [hq] at hbc hcl2
            have HQ := Lib.hid hq; clear hq
            have a1 := i64_and_one
            by_cases hcb : (c : Int) = (bn : Int)
            · have HF := Lib.hid (show putF S ⟨[(ki : Int) + 1, (bn : Int)], word, aok⟩ = ⟨7, S, bs []⟩ by rw [HF1.out, if_pos (List.any_eq_true.2 ⟨k, List.mem_range.2 hlt, by rw [hcl2, hcb]; simp⟩)])
              have hcbd : ((c : Int) == (bn : Int)) = true := by rw [hcb]; simp
              clear hcl2 hcb
              go_quiet (fail)
              go_wp2
              go_ret2
              exact ⟨by rw [HF.out]; rfl, V, (fun e => by rw [HF.out] at e; cases e), (Chg.refl base w V).after (HK0.out.trans (HKB.out.drewN _) (fun _ _ h => h))⟩
            have hcbd : ((c : Int) == (bn : Int)) = false := by simp; omega
            rw [hcbd, Bool.false_or] at hcl2
            clear hcb
            by_cases hsp : ys = X.spice
            · have HCL := Lib.hid (show clashAt S ((ki : Int) + 1) (bn : Int) X k = false by rw [hcl2, hsp]; simp)
              rw [hsp] at z0
              clear hcl2 hsp
              go_quiet (fail)
              go_wp2
              go_roundw
              case rel => exact ⟨k + 1, hlt, by go_num, HKB.out.drewN _, fun j hj => by
                by_cases hjk : j = k
                · subst hjk; exact HCL.out
                · exact HNC.out j (by omega)⟩
              case measure => simp [intOf]; omega
            have hspt : (ys.toList == X.spice.toList) = false := by rw [beq_dec]; exact decide_eq_false hsp
            rw [hspt, Bool.not_false, Bool.true_and] at hcl2
            clear hsp
            cases hbit : (q / 2 ^ min c 64 % 2 == 1) with
            | true =>
              have HF := Lib.hid (show putF S ⟨[(ki : Int) + 1, (bn : Int)], word, aok⟩ = ⟨7, S, bs []⟩ by rw [HF1.out, if_pos (List.any_eq_true.2 ⟨k, List.mem_range.2 hlt, by rw [hcl2, hbit]⟩)])
              clear hcl2
              go_quiet (fail)
              go_wp2
              go_ret2
              exact ⟨by rw [HF.out]; rfl, V, (fun e => by rw [HF.out] at e; cases e), (Chg.refl base w V).after (HK0.out.trans (HKB.out.drewN _) (fun _ _ h => h))⟩
            | false =>
              have HCL := Lib.hid (show clashAt S ((ki : Int) + 1) (bn : Int) X k = false by rw [hcl2, hbit])
              clear hcl2
              go_quiet (fail)
              go_wp2
              go_roundw
              case rel => exact ⟨k + 1, hlt, by go_num, HKB.out.drewN _, fun j hj => by
                by_cases hjk : j = k
                · subst hjk; exact HCL.out
                · exact HNC.out j (by omega)⟩
              case measure => simp [intOf]; omega
        · have hke : k = S.lots.length := by omega
          have HF := Lib.hid (show putF S ⟨[(ki : Int) + 1, (bn : Int)], word, aok⟩ = ⟨0, { S with lots := S.lots.set ki { X with bay := (bn : Int) } }, bs [112, 117, 116]⟩ by
            rw [HF1.out, if_neg]
            intro e
            obtain ⟨j, hj, e⟩ := List.any_eq_true.1 e
            rw [HNC.out j (by rw [hke]; exact List.mem_range.1 hj)] at e
            cases e)
          have hlti : ((k : Int) < (S.lots.length : Int)) = False := by simp; omega
          obtain ⟨⟨_, _, z2, _⟩, fr⟩ := (H0.out.keep HKR.out (fun _ _ h => h)).lotCellX hv HX.out
          have f2 := fr (ki * 4 + 2)
          clear fr hke
          go_wp2
          go_ret2
          obtain ⟨h1, hc1⟩ := (H0.out.keep HKR.out (fun _ _ h => h)).setLotX hv HX.out 2 (by omega) { X with bay := (bn : Int) } (.int .i64 (bn : Int)) rfl
          refine ⟨by rw [HF.out]; rfl, V, fun _ => ?_, hc1.before (HK0.out.trans HKR.out (fun _ _ h => h))⟩
          rw [HF.out]
          exact h1
end Go.Proofs.YthdkamnclbfehaaGreatDoor

/- house.state.do: a line is read as a change, a copy of the state is made, and the command runs on it. -/
namespace Go.Proofs.YthdkamnclbfehaaGreatDoor
set_option linter.unusedSimpArgs false
set_option linter.unusedVariables false
set_option linter.unnecessarySimpa false
open Go.RowKit

def doF (F : Nat → St → FA → Res) (S : St) (line : ByteArray) : Res :=
  match formF line with
  | none => ⟨4, S, bs []⟩
  | some (_, f, a) => if a.ok then (if (F f S a).err = 0 then F f S a else ⟨(F f S a).err, S, bs []⟩) else ⟨4, S, bs []⟩
def DoPost (w : World) (V : StV) (r : Res) (e : Ending) (w' : World) : Prop :=
  ∃ V', e = .returned (.tuple #[.pointer (some ⟨V'.b, 0, none⟩), .string r.out, .int .i64 r.err]) ∧ StAt w' V' r.st ∧ V'.vb = V.vb ∧ (r.err ≠ 0 → V' = V) ∧
    (∀ k, V'.fp k → V.fp k ∨ w.heap.size ≤ k) ∧ Keep (fun _ => False) w w'
/-- What a command must do. -/
def RunOK (F : Nat → St → FA → Res) (S : St) (line : ByteArray) : Prop :=
  ∀ so f a, formF line = some (so, f, a) → a.ok = true → Enters f ∧ ∀ base w V vn, GW base w → OSt base w V S → Args base w vn a →
    Calls Tryz.prog f #[.pointer (some ⟨V.b, 0, none⟩), .agg #[vn, .string a.word]] w (RunPost base w V (F f S a))

set_option maxHeartbeats 4000000 in
set_option maxRecDepth 100000 in
theorem do_any {w : World} {V : StV} {S : St} {line : ByteArray} {F : Nat → St → FA → Res} (hG : Glob w) (h : StAt w V S) (hs : S.small) (hl : line.size ≤ 9223372036854775807) (hrun : RunOK F S line) :
    Calls Tryz.prog 53 #[.pointer (some ⟨V.b, 0, none⟩), .string line] w (DoPost w V (doF F S line)) := by
  have hform := form_any hG hl
  cases hf : formF line with
  | none =>
    have HR := Lib.hid (show doF F S line = ⟨4, S, bs []⟩ by unfold doF; rw [hf])
    unfold FormPost at hform
    rw [hf] at hform
    have HFM := Lib.hid hform; clear hform
    have H := Lib.hid h; clear h
    clear hrun hf
    go_enter Tryz.func53, Tryz.ntmps53
    go_wp2_with (go_at_call 71; refine HFM.out.mono ?_; rintro e w1 ⟨rfl, hk1⟩; have HK1 := Lib.hid hk1; clear hk1)
    go_ret3
    have hk := HK1.out
    refine ⟨V, by rw [HR.out]; rfl, ?_, rfl, fun _ => rfl, fun _ e => .inl e, (HK1.out.alloc _).alloc _⟩
    rw [HR.out]
    exact H.out.keep ((HK1.out.alloc _).alloc _) (fun _ _ h => h)
  | some x =>
    obtain ⟨so, f, a⟩ := x
    unfold FormPost at hform
    rw [hf] at hform
    dsimp only at hform
    cases hok : a.ok with
    | false =>
      have HR := Lib.hid (show doF F S line = ⟨4, S, bs []⟩ by unfold doF; rw [hf]; simp only []; rw [hok]; rfl)
      rw [hok] at hform
      have HFM := Lib.hid hform; clear hform
      have H := Lib.hid h; clear h
      clear hrun hf hok
      go_enter Tryz.func53, Tryz.ntmps53
      go_wp2_with (go_at_call 71; refine HFM.out.mono ?_; rintro e w1 ⟨vn, rfl, ho1, hk1⟩; obtain ⟨ao, cap, rfl, _⟩ := ownsRow_shape ho1; have HO1 := Lib.hid ho1; clear ho1; have HK1 := Lib.hid hk1; clear hk1)
      go_ret3
      refine ⟨V, by rw [HR.out]; rfl, ?_, rfl, fun _ => rfl, fun _ e => .inl e, (HK1.out.alloc _).alloc _⟩
      rw [HR.out]
      exact H.out.keep ((HK1.out.alloc _).alloc _) (fun _ _ h => h)
    | true =>
      have HR := Lib.hid (show doF F S line = if (F f S a).err = 0 then F f S a else ⟨(F f S a).err, S, bs []⟩ by unfold doF; rw [hf]; simp only []; rw [hok, if_pos rfl])
      obtain ⟨hent, hcall⟩ := hrun so f a hf hok
      have eF : ∀ (args : Array Value) (w : World), (callFunc f args).run Tryz.prog w = .ok (.enter f args) w := hent
      clear hent hrun hf
      rw [hok] at hform
      clear hok
      have HFM := Lib.hid hform; clear hform
      have HC := Lib.hid hcall; clear hcall
      have H := Lib.hid h; clear h
      have HS := Lib.hid hs; clear hs
      obtain ⟨R, hR⟩ : ∃ R, F f S a = R := ⟨_, rfl⟩
      rw [hR] at HR HC
      clear hR
      obtain ⟨re, rs, ro⟩ := R
      by_cases hz : re = 0
      · subst hz
        rw [if_pos rfl] at HR
        go_enter Tryz.func53, Tryz.ntmps53
        go_wp2_with (first
          | (go_at_call 71; refine HFM.out.mono ?_; rintro e w1 ⟨vn, rfl, ho1, hk1⟩; obtain ⟨ao, cap, rfl, _⟩ := ownsRow_shape ho1; have HO1 := Lib.hid ho1; clear ho1; have HK1 := Lib.hid hk1; clear hk1)
          | (go_at_call 77; refine Calls.mono (stClone_any (H.out.keep ((HK1.out.alloc _).alloc _) (fun _ _ h => h)) HS.out) ?_; rintro e w3 ⟨V1, rfl, ho3, hvb3, hk3⟩; have hb1 := ((Blk.new w1 #[.string (bs so), .func (.func f) #[] #[]] 132).alloc (.cells #[.slice ao a.n.length cap, .string a.word] 134)).keep hk3 (fun h => h); have hb2 := (Blk.new (w1.alloc (.cells #[.string (bs so), .func (.func f) #[] #[]] 132)) #[.slice ao a.n.length cap, .string a.word] 134).keep hk3 (fun h => h); rw [World.size_alloc] at hb2; have c0 := hb1.cell 0; have c1 := hb1.cell 1; have d0 := hb2.cell 0; have d1 := hb2.cell 1; simp at c0 c1 d0 d1; have HO3 := Lib.hid ho3; clear ho3; have HK3 := Lib.hid hk3; clear hk3 hb1 hb2)
          | (refine Calls.mono (HC.out _ w3 V1 (.slice ao a.n.length cap) ((GW.start (hG.keep ((HK1.out.alloc _).alloc _))).keep HK3.out (fun _ _ h => h)) HO3.out ⟨(ownsRow_rd (((ownsRow_keep HO1.out ((Keep.refl (fun _ => False) w1).alloc _) (fun _ _ h => h)) |> fun h => ownsRow_keep h ((Keep.refl (fun _ => False) _).alloc _) (fun _ _ h => h)) |> fun h => ownsRow_keep h HK3.out (fun _ _ h => h)) (icells_one _)), fun k e => by have := ownsRow_lt HO1.out k e; simp; omega⟩) ?_; rintro e w4 ⟨rfl, V2, ho4, hc4⟩; have HO4 := Lib.hid (ho4 rfl); clear ho4; have HC4 := Lib.hid hc4; clear hc4))
        go_ret3
        have hz1 := HK1.out.size
        have hz3 := HK3.out.size
        simp only [World.size_alloc] at hz3
        have hkA : Keep (fun _ => False) w w3 := ((HK1.out.alloc _).alloc _).trans HK3.out (fun _ _ h => h)
        refine ⟨V2, by rw [HR.out, HC4.out.b]; rfl, ?_, HC4.out.vb.trans hvb3, fun e => ?_, fun k hk => ?_, ?_⟩
        · rw [HR.out]
          exact HO4.out.at HO4.out.lt
        · rw [HR.out] at e
          exact absurd rfl e
        · rcases HC4.out.fp k hk with e | e
          · rcases HO3.out.fp_new k e with e | e
            · exact .inl (.inr (.inl (hvb3 ▸ e)))
            · simp only [World.size_alloc] at e
              exact .inr (by omega)
          · exact .inr (by omega)
        · exact hkA.trans HC4.out.keep (fun k hk e => by have := e.1; simp only [World.size_alloc] at this; omega)
      · rw [if_neg hz] at HR
        have ez : (re != 0) = true := by simpa using hz
        go_enter Tryz.func53, Tryz.ntmps53
        go_wp2_with (first
          | (go_at_call 71; refine HFM.out.mono ?_; rintro e w1 ⟨vn, rfl, ho1, hk1⟩; obtain ⟨ao, cap, rfl, _⟩ := ownsRow_shape ho1; have HO1 := Lib.hid ho1; clear ho1; have HK1 := Lib.hid hk1; clear hk1)
          | (go_at_call 77; refine Calls.mono (stClone_any (H.out.keep ((HK1.out.alloc _).alloc _) (fun _ _ h => h)) HS.out) ?_; rintro e w3 ⟨V1, rfl, ho3, hvb3, hk3⟩; have hb1 := ((Blk.new w1 #[.string (bs so), .func (.func f) #[] #[]] 132).alloc (.cells #[.slice ao a.n.length cap, .string a.word] 134)).keep hk3 (fun h => h); have hb2 := (Blk.new (w1.alloc (.cells #[.string (bs so), .func (.func f) #[] #[]] 132)) #[.slice ao a.n.length cap, .string a.word] 134).keep hk3 (fun h => h); rw [World.size_alloc] at hb2; have c0 := hb1.cell 0; have c1 := hb1.cell 1; have d0 := hb2.cell 0; have d1 := hb2.cell 1; simp at c0 c1 d0 d1; have HO3 := Lib.hid ho3; clear ho3; have HK3 := Lib.hid hk3; clear hk3 hb1 hb2)
          | (refine Calls.mono (HC.out _ w3 V1 (.slice ao a.n.length cap) ((GW.start (hG.keep ((HK1.out.alloc _).alloc _))).keep HK3.out (fun _ _ h => h)) HO3.out ⟨(ownsRow_rd (((ownsRow_keep HO1.out ((Keep.refl (fun _ => False) w1).alloc _) (fun _ _ h => h)) |> fun h => ownsRow_keep h ((Keep.refl (fun _ => False) _).alloc _) (fun _ _ h => h)) |> fun h => ownsRow_keep h HK3.out (fun _ _ h => h)) (icells_one _)), fun k e => by have := ownsRow_lt HO1.out k e; simp; omega⟩) ?_; rintro e w4 ⟨rfl, V2, ho4, hc4⟩; clear ho4; have HC4 := Lib.hid hc4; clear hc4))
        go_ret3
        have hz1 := HK1.out.size
        have hz3 := HK3.out.size
        simp only [World.size_alloc] at hz3
        have hkA : Keep (fun _ => False) w w3 := ((HK1.out.alloc _).alloc _).trans HK3.out (fun _ _ h => h)
        have hkB : Keep (fun _ => False) w w4 := hkA.trans HC4.out.keep (fun k hk e => by have := e.1; simp only [World.size_alloc] at this; omega)
        refine ⟨V, by rw [HR.out]; rfl, ?_, rfl, fun _ => rfl, fun _ e => .inl e, hkB⟩
        rw [HR.out]
        exact H.out.keep hkB (fun _ _ h => h)
end Go.Proofs.YthdkamnclbfehaaGreatDoor

/- bytes.Cut at a byte 10, and a slice of bytes turned into a string. -/
namespace Go.Proofs.YthdkamnclbfehaaGreatDoor
set_option linter.unusedSimpArgs false
set_option linter.unusedVariables false
set_option linter.unnecessarySimpa false
open Go.RowKit

def nums (l : List UInt8) : List Int := l.map fun b => (b.toNat : Int)
theorem nums_length (l : List UInt8) : (nums l).length = l.length := by simp [nums]
theorem bytesOf_nums (l : List UInt8) : Lib.bytesOf (nums l) = l := by
  unfold Lib.bytesOf nums
  rw [List.map_map]
  conv => rhs; rw [← List.map_id l]
  refine List.map_congr_left fun b _ => ?_
  show UInt8.ofNat (Int.toNat (b.toNat : Int)) = b
  rw [Int.toNat_natCast]; exact UInt8.ofNat_toNat
theorem strOfNums_nums (l : List UInt8) : strOfNums (nums l) = bs l := by
  have : (strOfNums (nums l)).toList = l := by rw [Lib.strOfNums_toList, bytesOf_nums]
  rw [ByteArray.toList_eq] at this
  exact ByteArray.ext (Array.toList_inj.1 (by rw [this]; rfl))
theorem nums_getD (l : List UInt8) (j : Nat) (h : j < l.length) : (nums l).getD j 0 = ((l.getD j 0).toNat : Int) := by
  simp [nums, List.getD, h]
theorem Rd.bcell {w : World} {b o n c : Nat} {l : List UInt8} (h : Rd w 1 (.slice (some ⟨b, o, none⟩) n c) l.length (bcells l)) : ∀ j, j < l.length → w.cell? ⟨b, o + j, none⟩ = some (.int .u8 ((nums l).getD j 0)) := fun j hj => by
  rcases h.2.2 with ⟨e, _⟩ | ⟨b', o', c', e, _, _, hx⟩
  · cases e
  · cases e
    rw [nums_getD l j hj]
    exact hx j _ (bcells_get l j hj)
theorem convRd {w : World} {v : Value} {l : List UInt8} (h : Rd w 1 v l.length (bcells l)) : (convert 61 9 v).run Tryz.prog w = .ok (.string (bs l)) w := by
  rcases h.2.2 with ⟨e, h0⟩ | ⟨b, o, c, e, _, _, hx⟩
  · subst e
    rw [List.eq_nil_of_length_eq_zero h0]
    exact run_convert_bytes_nil w 61 5 Tryz.underlying61 Tryz.underlying5 0 0 9 Tryz.underlying9
  · subst e
    rw [← strOfNums_nums]
    exact run_convert_bytes_arg w 61 5 Tryz.underlying61 Tryz.underlying5 b o l.length c (nums l) (nums_length l) h.bcell 9 Tryz.underlying9

/-- The bytes up to the first 10 and those behind it. -/
def cutNL (l : List UInt8) : Option (List UInt8 × List UInt8) :=
  if 0 ≤ Lib.index l [10] then some (l.take (Lib.index l [10]).toNat, l.drop ((Lib.index l [10]).toNat + 1)) else none
def cutPre (l : List UInt8) : List UInt8 := match cutNL l with | some (a, _) => a | none => l
theorem cutNL_some {l a b : List UInt8} (h : cutNL l = some (a, b)) : a.length + 1 ≤ l.length ∧ a = l.take a.length ∧ b = l.drop (a.length + 1) := by
  unfold cutNL at h
  split at h
  · rename_i h0
    have hr := Lib.index_room l [10] h0
    simp only [List.length_singleton] at hr
    simp only [Option.some.injEq, Prod.mk.injEq] at h
    obtain ⟨rfl, rfl⟩ := h
    have : (l.take (Lib.index l [10]).toNat).length = (Lib.index l [10]).toNat := by rw [List.length_take]; omega
    rw [this]
    exact ⟨by omega, rfl, rfl⟩
  · cases h
theorem cutPre_length (l : List UInt8) : (cutPre l).length ≤ l.length := by
  unfold cutPre
  split
  · rename_i a b h
    have := cutNL_some h; omega
  · exact Nat.le_refl _
theorem Rd.take1 {w : World} {ao : Option Addr} {n c : Nat} {l : List UInt8} (h : Rd w 1 (.slice ao n c) l.length (bcells l)) (i : Nat) (hi : i ≤ l.length) : Rd w 1 (.slice ao i c) (l.take i).length (bcells (l.take i)) := by
  have hlen : (l.take i).length = i := by rw [List.length_take]; omega
  refine ⟨by simp [bcells_length], bcells_one _, ?_⟩
  rcases h.2.2 with ⟨e, h0⟩ | ⟨b, o, c', e, h1, h2, hx⟩
  · cases e
    have : i = 0 := by omega
    subst this
    exact .inl ⟨rfl, by simp⟩
  · cases e
    refine .inr ⟨b, o, c, by rw [hlen], by omega, h2, fun j u hu => hx j u ?_⟩
    rw [bcells_take, List.getElem?_take] at hu
    split at hu
    · exact hu
    · cases hu
def CutPost (w : World) (ao : Option Addr) (l : List UInt8) (c : Nat) (e : Ending) (w' : World) : Prop :=
  ∃ v2, e = .returned (.tuple #[.slice ao (cutPre l).length c, v2, .bool (cutNL l).isSome]) ∧ ∃ q, w' = w.drewN q
theorem bcut_any {w : World} {ao : Option Addr} {n c b2 : Nat} {l : List UInt8} (hG : Glob w) (hn : n = l.length) (hv : Rd w 1 (.slice ao n c) l.length (bcells l)) (hsep : w.cell? ⟨b2, 0, none⟩ = some (.int .u8 10)) (hl : l.length < 4294967281) :
    Calls Tryz.prog 56 #[.slice ao n c, .slice (some ⟨b2, 0, none⟩) 1 1] w (CutPost w ao l c) := by
  subst hn
  obtain ⟨m, hm⟩ := hG.maxlen
  have hnc : l.length ≤ c := by
    obtain ⟨_, _, e, h, _⟩ := hv.shape
    cases e; exact h
  have hin : Lib.BytesIn w ao l.length (nums l) := fun hp => by
    rcases hv.2.2 with ⟨e, h0⟩ | ⟨b, o, c', e, h1, h2, hx⟩
    · omega
    · injection e with e1 e2 e3
      subst e1
      exact ⟨b, o, rfl, hv.bcell⟩
  have hin2 : Lib.BytesIn w (some ⟨b2, 0, none⟩) 1 [10] := fun _ => ⟨b2, 0, rfl, fun j hj => by
    have : j = 0 := by omega
    subst this; exact hsep⟩
  refine (Tryz.bytes_Cut_all ao (some ⟨b2, 0, none⟩) l.length c 1 1 (nums l) [10] m w (nums_length l) rfl ?_ (by simp) hin hin2 ?_ hnc hl (by omega) hm).mono ?_
  · intro x hx
    obtain ⟨b, _, rfl⟩ := List.mem_map.1 hx
    have := b.toNat_lt
    omega
  · rintro rfl
    rcases hv.2.2 with ⟨e, h0⟩ | ⟨b, o, c', e, h1, h2, hx⟩
    · injection e
    · injection e with e1
      cases e1
  · rintro e w' ⟨rfl, q, rfl⟩
    rw [bytesOf_nums, show Lib.bytesOf [10] = [10] from rfl]
    unfold Lib.cutV CutPost
    by_cases h0 : 0 ≤ Lib.index l [10]
    · have hr := Lib.index_room l [10] h0
      simp only [List.length_singleton] at hr
      have e1 : cutNL l = some (l.take (Lib.index l [10]).toNat, l.drop ((Lib.index l [10]).toNat + 1)) := by unfold cutNL; rw [if_pos h0]
      have e2 : (cutPre l).length = (Lib.index l [10]).toNat := by
        unfold cutPre; rw [e1]; simp only []; rw [List.length_take]; omega
      rw [if_pos h0, e1, e2]
      exact ⟨_, rfl, q, rfl⟩
    · have e1 : cutNL l = none := by unfold cutNL; rw [if_neg h0]
      have e2 : cutPre l = l := by unfold cutPre; rw [e1]
      rw [if_neg h0, e1, e2]
      exact ⟨_, rfl, q, rfl⟩
theorem cutPre_rd {w : World} {ao : Option Addr} {n c : Nat} {l : List UInt8} (h : Rd w 1 (.slice ao n c) l.length (bcells l)) : Rd w 1 (.slice ao (cutPre l).length c) (cutPre l).length (bcells (cutPre l)) := by
  have h2 := cutPre_length l
  have h3 : cutPre l = l.take (cutPre l).length := by
    unfold cutPre
    split
    · rename_i a b hc
      exact (cutNL_some hc).2.1
    · simp
  have := h.take1 _ h2
  rwa [← h3] at this
end Go.Proofs.YthdkamnclbfehaaGreatDoor

/- math/bits.OnesCount and TrailingZeros at small numbers; chordal.nodes. -/
namespace Go.Proofs.YthdkamnclbfehaaGreatDoor
set_option linter.unusedSimpArgs false
set_option linter.unusedVariables false
set_option linter.unnecessarySimpa false
open Go.RowKit

/-- What OnesCount64 reckons. -/
def onesF (x : Int) : Int :=
  let a := IntKind.u64.wrap (bits .and .u64 (x / 2) 6148914691236517205 + bits .and .u64 x 6148914691236517205)
  let b := IntKind.u64.wrap (bits .and .u64 (a / 4) 3689348814741910323 + bits .and .u64 a 3689348814741910323)
  let c := bits .and .u64 (IntKind.u64.wrap (b / 16 + b)) 1085102592571150095
  let d := IntKind.u64.wrap (c + c / 256)
  let e := IntKind.u64.wrap (d + d / 65536)
  let f := IntKind.u64.wrap (e + e / 4294967296)
  bits .and .i64 (wrap64 f) 127
/-- How many of the first 12 bits are set. -/
def cnt12 (s : Nat) : Nat := ((List.range 12).filter (s.testBit ·)).length
/-- Whatever holds of 64 a + b for all a, b below 64 holds below 4096. -/
theorem below4096 {q : Nat → Prop} (h : ∀ a b : Fin 64, q (64 * a.val + b.val)) (x : Nat) (hx : x < 4096) : q x := by
  have := h ⟨x / 64, by omega⟩ ⟨x % 64, by omega⟩
  simp only at this
  rwa [show 64 * (x / 64) + x % 64 = x by omega] at this
theorem onesF_small (x : Nat) (hx : x < 4096) : onesF (x : Int) = (cnt12 x : Int) :=
  below4096 (q := fun x => onesF (x : Int) = (cnt12 x : Int)) (by decide +kernel) x hx
set_option maxHeartbeats 400000 in
theorem ones64 (x : Int) (hx0 : 0 ≤ x) (hx : x < 4096) (w : World) :
    Calls Tryz.prog 123 #[.int .u64 x] w fun e w' => e = .returned (.int .i64 (onesF x)) ∧ w = w' := by
  go_enter Tryz.func123, Tryz.ntmps123
  go_wp2
  go_ret
  exact ⟨rfl, rfl⟩
theorem onesCount_small (x : Nat) (hx : x < 4096) (w : World) :
    Calls Tryz.prog 81 #[.int .u64 x] w fun e w' => e = .returned (.int .i64 (cnt12 x)) ∧ w = w' := by
  have HX := Lib.hid (onesF_small x hx)
  go_enter Tryz.func81, Tryz.ntmps81
  go_wp2_with (go_at_call 123; refine (ones64 _ (by omega) (by omega) _).mono ?_; rintro e w' ⟨rfl, rfl⟩)
  go_ret
  exact ⟨by rw [← HX.out]; rfl, rfl⟩

/-- The elements of a set of numbers below 12, rising. -/
def elems (s : Nat) : List Nat := (List.range 12).filter (s.testBit ·)
theorem elems_zero : elems 0 = [] := by decide
theorem filter_false {p : Nat → Bool} : ∀ (n : Nat), (∀ i, i < n → p i = false) → (List.range n).filter p = []
  | 0, _ => rfl
  | n + 1, h => by
    rw [List.range_succ, List.filter_append, filter_false n (fun i hi => h i (by omega))]
    simp [h n (by omega)]
theorem filter_step {p q : Nat → Bool} {k : Nat} : ∀ (n : Nat), k < n → (∀ i, i < k → p i = false ∧ q i = false) → p k = true → q k = false → (∀ i, k < i → i < n → p i = q i) →
    (List.range n).filter p = k :: (List.range n).filter q
  | 0, h, _, _, _, _ => by omega
  | n + 1, h, h1, h2, h3, h4 => by
    rw [List.range_succ, List.filter_append, List.filter_append]
    by_cases hk : k = n
    · subst hk
      rw [filter_false k (fun i hi => (h1 i hi).1), filter_false k (fun i hi => (h1 i hi).2)]
      simp [h2, h3]
    · rw [filter_step n (by omega) h1 h2 h3 (fun i a b => h4 i a (by omega))]
      have e : [n].filter p = [n].filter q := by simp only [List.filter_cons, List.filter_nil, h4 n (by omega) (by omega)]
      rw [e, List.cons_append]
theorem and_pred (k m i : Nat) : ((2 ^ k * (2 * m + 1)) &&& (2 ^ k * (2 * m + 1) - 1)).testBit i = (decide (k < i) && m.testBit (i - k - 1)) := by
  have hp : 0 < 2 ^ k := Nat.two_pow_pos k
  have e1 : 2 ^ k * (2 * m + 1) - 1 = 2 ^ k * (2 * m) + (2 ^ k - 1) := by
    rw [Nat.mul_add, Nat.mul_one]; omega
  rw [Nat.testBit_and, Nat.testBit_two_pow_mul, e1, Nat.testBit_two_pow_mul_add _ (by omega)]
  rcases Nat.lt_trichotomy i k with h | h | h
  · simp [show ¬ k ≤ i by omega, show ¬ k < i by omega]
  · subst h; simp
  · have e2 : i - k = (i - k - 1) + 1 := by omega
    simp only [show k ≤ i by omega, h, show ¬ i < k by omega, decide_true, Bool.true_and, if_false, ge_iff_le]
    rw [e2, Nat.testBit_succ, Nat.testBit_succ, show (2 * m + 1) / 2 = m by omega, show 2 * m / 2 = m by omega]
    simp
theorem elems_step (x : Nat) (hx : x < 4096) (h0 : x ≠ 0) : elems x = Lib.ctz 64 x :: elems (x &&& (x - 1)) := by
  have hc : Lib.ctz 64 x = Lib.ctzFrom 64 x := by simp [Lib.ctz, h0]
  obtain ⟨m, hm, _⟩ := Lib.ctzFrom_spec 64 x (by omega) (by omega)
  rw [hc]
  generalize Lib.ctzFrom 64 x = k at *
  have hk : k < 12 := by
    rcases Nat.lt_or_ge k 12 with h | h
    · exact h
    · have : 2 ^ 12 ≤ 2 ^ k := Nat.pow_le_pow_right (by decide) h
      have : 2 ^ k ≤ 2 ^ k * (2 * m + 1) := Nat.le_mul_of_pos_right _ (by omega)
      omega
  have hx' : ∀ i, x.testBit i = (decide (k ≤ i) && (2 * m + 1).testBit (i - k)) := by
    intro i; rw [hm, Nat.testBit_two_pow_mul]
  unfold elems
  refine filter_step 12 hk (fun i hi => ⟨?_, ?_⟩) ?_ ?_ (fun i h1 h2 => ?_)
  · rw [hx']; simp; omega
  · rw [hm, and_pred]; simp; omega
  · rw [hx']; simp
  · rw [hm, and_pred]; simp
  · rw [hx', hm, and_pred]
    have e2 : i - k = (i - k - 1) + 1 := by omega
    simp only [show k ≤ i by omega, h1, decide_true, Bool.true_and]
    rw [e2, Nat.testBit_succ, show (2 * m + 1) / 2 = m by omega]
    simp

theorem tz64_core (x k idx : Nat) (w : World) (hx0 : ((x : Int) == 0) = false)
    (key : IntKind.u64.wrap (bits BinOp.and IntKind.u64 (x : Int) (IntKind.u64.wrap (-(x : Int))) * 285870213051353865) / 288230376151711744 = (idx : Int))
    (hi : idx < 64) (hk : k < 64) (hcell : w.cell? ⟨3, idx, none⟩ = some (.int .u8 k)) :
    Calls Tryz.prog 157 #[.int .u64 x] w fun e w' => e = .returned (.int .i64 k) ∧ w = w' := by
  go_enter Tryz.func157, Tryz.ntmps157
  go_wp2_with (simp only [key])
  go_ret
  exact ⟨rfl, rfl⟩
theorem tz64_any (x : Nat) (hx : x < 4096) (hx0 : x ≠ 0) (w : World) (hT : TabAt 3 Lib.deBruijn64tab w) :
    Calls Tryz.prog 157 #[.int .u64 x] w fun e w' => e = .returned (.int .i64 (Lib.ctz 64 x)) ∧ w = w' := by
  have hx64 : x < 18446744073709551616 := Nat.lt_of_lt_of_le hx (by decide)
  obtain ⟨hlow, hk⟩ := Lib.lowest_bit 64 x hx0 hx64
  obtain ⟨hi, htab⟩ := Lib.deBruijn64_at _ hk
  have hcell := hT _ hi
  rw [htab] at hcell
  exact tz64_core x _ _ w (by simp; omega) (tz64_key x _ hx64 hx0 hlow) hi hk hcell
theorem tz_any (x : Nat) (hx : x < 4096) (hx0 : x ≠ 0) (w : World) (hT : TabAt 3 Lib.deBruijn64tab w) :
    Calls Tryz.prog 127 #[.int .u64 x] w fun e w' => e = .returned (.int .i64 (Lib.ctz 64 x)) ∧ w = w' := by
  have HT := Lib.hid hT; clear hT
  have H0 := Lib.hid hx0; clear hx0
  go_enter Tryz.func127, Tryz.ntmps127
  go_wp2_with (go_at_call 157; refine (tz64_any _ hx H0.out _ HT.out).mono ?_; rintro e w' ⟨rfl, rfl⟩)
  go_ret
  exact ⟨rfl, rfl⟩

def ncells (l : List Nat) : List Value := l.map fun n : Nat => .int .i64 n
theorem ncells_icells (l : List Nat) : ncells l = icells (l.map Int.ofNat) := by simp [ncells, icells]
theorem info3 : (Tryz.prog.info? 3).map (fun i => (i.zero, i.size, i.bytes)) = some (some (.int .i64 0), 1, 8) := by kernel_rfl

def NodesPost (w : World) (s : Nat) (e : Ending) (w' : World) : Prop :=
  ∃ v', e = .returned v' ∧ w'.ownsRow w.heap.size 3 1 v' (elems s).length (ncells (elems s)) ∧ Keep (fun _ => False) w w'

set_option maxHeartbeats 1000000 in
set_option maxRecDepth 100000 in
theorem nodes_any (s : Nat) (hs : s < 4096) (w : World) (hT : TabAt 3 Lib.deBruijn64tab w) (h3 : 3 < w.heap.size) :
    Calls Tryz.prog 86 #[.int .i64 s] w (NodesPost w s) := by
  have HT := Lib.hid hT; clear hT
  go_enter Tryz.func86, Tryz.ntmps86
  go_wp2
  go_loopw [0, 3] (fun c o wr => ∃ (x n : Nat) (l : List Nat), c = .int .i64 x ∧ x < 4096 ∧ elems s = l ++ elems x ∧ n = l.length ∧ n ≤ 12 ∧ wr.ownsRow w.heap.size 3 1 o n (ncells l) ∧ Keep (fun _ => False) w wr) (fun c _ _ => (intOf c).toNat)
  case atStart => exact ⟨s, 0, [], rfl, hs, rfl, rfl, by omega, World.ownsRow_nil _ _ _ _, Keep.refl _ _⟩
  case round =>
    obtain ⟨x, n, l, rfl, hx, hel, hn, hn12, hown, hkeep⟩ := hrel
    obtain ⟨ao, cap, hv, hcap, _⟩ := ownsRow_shape hown
    subst hv
    have HE := Lib.hid hel; clear hel
    have HN := Lib.hid hn; clear hn
    have HO := Lib.hid hown; clear hown
    have HK := Lib.hid hkeep; clear hkeep
    by_cases h0 : x = 0
    · subst h0
      go_wp2
      go_ret
      have hl : elems s = l := by rw [HE.out, elems_zero, List.append_nil]
      exact ⟨_, rfl, by rw [hl, ← HN.out]; exact HO.out, HK.out⟩
    · have hne : ((x : Int) != 0) = true := by rw [bne_iff_ne]; omega
      have HST := Lib.hid (elems_step x hx h0)
      have hx1 : (1 : Int) ≤ x := by omega
      have hlen : n + 1 ≤ 12 := by
        have h1 := congrArg List.length HE.out
        rw [HST.out] at h1
        have h2 : (elems s).length ≤ 12 := by
          have := List.length_filter_le (s.testBit ·) (List.range 12)
          simpa [elems] using this
        simp at h1
        have := HN.out
        omega
      have hand : bits BinOp.and IntKind.i64 (x : Int) ((x : Int) - 1) = ((x &&& (x - 1) : Nat) : Int) := by
        rw [show ((x : Int) - 1) = ((x - 1 : Nat) : Int) by omega]
        exact i64_and_nat x (x - 1) (by omega) (by omega)
      have hlow : x &&& (x - 1) < x := Nat.lt_of_le_of_lt Nat.and_le_right (by omega)
      have HT' := Lib.hid (show TabAt 3 Lib.deBruijn64tab wr from fun j hj => (HK.out.cell (p := ⟨3, j, none⟩) h3 (fun h => h)).trans (HT.out j hj))
      have H0 := Lib.hid h0; clear h0
      have hwr : w.heap.size ≤ wr.heap.size := HK.out.size
      obtain ⟨kk, hkk⟩ : ∃ kk, Lib.ctz 64 x = kk := ⟨_, rfl⟩
      rw [hkk] at HST
      have HKK := Lib.hid hkk; clear hkk
      go_wp2_with (first | (go_at_call 127; refine (tz_any _ hx H0.out _ HT'.out).mono ?_; rintro e w' ⟨rfl, rfl⟩; rw [HKK.out]) | (at_builtin; refine wpList_app (w := wr.alloc (.cells #[.int .i64 kk] 3)) rfl (.tmp 10) (.tmp 14) 34 34 rfl 3 (.int .i64 0) 1 8 Tryz.underlying34 info3 rfl (HO.out.alloc _) rfl (Src.new (P := Tryz.prog) Tryz.underlying34 wr 1 [.int .i64 kk] 3 rfl (by simp [Value.oneCell'])) rfl ?hb1 ?hb2 ?hb3 ?hgo))
      case hb1 => unfold maxLen; omega
      case hb2 => omega
      case hb3 => simp; omega
      case hgo =>
      intro v' w2 happ
      have HA := Lib.hid happ; clear happ
      go_wp2
      go_roundw
      case rel =>
        refine ⟨x &&& (x - 1), n + 1, l ++ [kk], rfl, by omega, ?_, by simp [HN.out], hlen, ?_, ?_⟩
        · rw [HE.out, HST.out]; simp
        · simpa [ncells] using HA.out.own
        · refine (HK.out.alloc _).trans HA.out.keep (fun k hk e => ?_)
          have := (HO.out.lt k e).1
          omega
      case measure => simp [intOf]; omega
end Go.Proofs.YthdkamnclbfehaaGreatDoor

/- chordal.Graph's valid: it answers whether the slice is a graph, for every slice of ints. -/
namespace Go.Proofs.YthdkamnclbfehaaGreatDoor
set_option linter.unusedSimpArgs false
set_option linter.unusedVariables false
set_option linter.unnecessarySimpa false
open Go.RowKit

def rowOk (g : List Int) (i : Nat) : Prop :=
  0 ≤ g.getD i 0 ∧ g.getD i 0 < 2 ^ g.length ∧ g.getD i 0 / 2 ^ i % 2 ≠ 1 ∧ ∀ j, j < g.length → g.getD i 0 / 2 ^ j % 2 = g.getD j 0 / 2 ^ i % 2
instance (g : List Int) (i : Nat) : Decidable (rowOk g i) := by unfold rowOk; infer_instance
def Graph (g : List Int) : Prop := 1 ≤ g.length ∧ g.length ≤ 12 ∧ ∀ i, i < g.length → rowOk g i
instance (g : List Int) : Decidable (Graph g) := by unfold Graph; infer_instance
def validB (g : List Int) : Bool := decide (Graph g)

theorem validB_true {g : List Int} : validB g = true ↔ Graph g := by unfold validB; exact decide_eq_true_iff
theorem validB_false {g : List Int} : validB g = false ↔ ¬ Graph g := by unfold validB; exact decide_eq_false_iff_not

theorem wrap64_pow {n : Nat} (h : n ≤ 12) : wrap64 (2 ^ n) = 2 ^ n := by
  have h1 : (2 : Int) ^ n = ((2 ^ n : Nat) : Int) := by push_cast; rfl
  have h2 : (2 : Nat) ^ n ≤ 2 ^ 12 := Nat.pow_le_pow_right (by decide) h
  rw [h1]
  generalize (2 : Nat) ^ n = q at *
  unfold wrap64
  omega

def DrawPost (w : World) (r : Value) (e : Ending) (w' : World) : Prop := e = .returned r ∧ ∃ n, w' = w.drewN n
theorem DrawPost.keep {w w' : World} {r : Value} {e : Ending} (h : DrawPost w r e w') : e = .returned r ∧ Keep (fun _ => False) w w' := by
  obtain ⟨h, n, rfl⟩ := h; exact ⟨h, (Keep.refl _ _).drewN n⟩

set_option maxHeartbeats 2000000 in
set_option maxRecDepth 100000 in
theorem valid_any {w : World} {v : Value} {g : List Int} (hv : Rd w 1 v g.length (icells g)) (hlen : g.length < 9223372036854775807) :
    Calls Tryz.prog 116 #[v] w (DrawPost w (.bool (validB g))) := by
  obtain ⟨ao, cap, hve, hn, hm, hsp⟩ := hv.shape
  subst hve
  have HV := Lib.hid hv; clear hv
  by_cases hl : g.length < 1
  · have hF := Lib.hid (show validB g = false from validB_false.2 fun h => by have := h.1; have := h.2.1; omega)
    go_enter Tryz.func116, Tryz.ntmps116
    go_wp2
    go_ret
    exact ⟨by rw [hF.out]; rfl, 0, rfl⟩
  have hl' : decide ((g.length : Int) < 1) = false := by simp; omega
  by_cases hl2 : 12 < g.length
  · have hF := Lib.hid (show validB g = false from validB_false.2 fun h => by have := h.1; have := h.2.1; omega)
    go_enter Tryz.func116, Tryz.ntmps116
    go_wp2
    go_ret
    exact ⟨by rw [hF.out]; rfl, 0, rfl⟩
  have hl2' : decide ((12 : Int) < (g.length : Int)) = false := by simp; omega
  have a1 := i64_and_one
  have HP := Lib.hid (wrap64_pow (show g.length ≤ 12 by omega))
  have hl3 : g.length ≤ 12 := by omega
  have hl1 : 1 ≤ g.length := by omega
  clear hl hl2
  go_enter Tryz.func116, Tryz.ntmps116
  go_wp2
  go_loopw [17] (fun i wr => ∃ k n : Nat, k ≤ g.length ∧ i = .int .i64 k ∧ wr = w.drewN n ∧ ∀ i, i < k → rowOk g i) (fun i _ => g.length - (intOf i).toNat)
  case atStart => exact ⟨0, 0, Nat.zero_le _, rfl, rfl, fun i h => by omega⟩
  case round =>
    obtain ⟨k, n, hk, rfl, rfl, h0⟩ := hrel
    have H0 := Lib.hid h0; clear h0
    by_cases hlt : k < g.length
    · obtain ⟨b, o, hao, hcells⟩ : ∃ b o, ao = some ⟨b, o, none⟩ ∧ ∀ j, j < g.length → w.cell? ⟨b, o + j, none⟩ = some (.int .i64 (g.getD j 0)) := by
        rcases HV.out.2.2 with ⟨h, h'⟩ | ⟨b, o, c, h, _, _, hx⟩
        · omega
        · cases h
          exact ⟨b, o, rfl, fun j hj => hx j _ (icells_get g j hj)⟩
      subst hao
      have HC := Lib.hid hcells; clear hcells
      have hcell := HC.out k hlt
      have HBAD : Hid (¬ rowOk g k → validB g = false) := Lib.hid (fun h => validB_false.2 fun hg => h (hg.2.2 k hlt))
      obtain ⟨x, hx⟩ : ∃ x : Int, g.getD k 0 = x := ⟨_, rfl⟩
      rw [hx] at hcell
      have HX := Lib.hid hx; clear hx
      by_cases hneg : x < 0
      · have hF := Lib.hid (HBAD.out (fun h => by have := h.1; rw [HX.out] at this; omega))
        go_wp2
        go_ret
        exact ⟨by rw [hF.out]; rfl, n, rfl⟩
      have hneg' : decide (x < 0) = false := by simp; omega
      by_cases hbig : 2 ^ g.length ≤ x
      · have hF := Lib.hid (HBAD.out (fun h => by have := h.2.1; rw [HX.out] at this; omega))
        have hbig' : decide (wrap64 (2 ^ g.length) ≤ x) = true := by rw [HP.out]; simpa using hbig
        clear hneg hbig
        go_wp2
        go_ret
        exact ⟨by rw [hF.out]; rfl, n, rfl⟩
      have hbig' : decide (wrap64 (2 ^ g.length) ≤ x) = false := by rw [HP.out]; simpa using hbig
      by_cases hself : x / 2 ^ k % 2 = 1
      · have hF := Lib.hid (HBAD.out (fun h => by have := h.2.2.1; rw [HX.out] at this; exact this hself))
        have hself' : (x / 2 ^ k % 2 == 1) = true := by simpa using hself
        clear hneg hbig hself
        go_wp2
        go_ret
        exact ⟨by rw [hF.out]; rfl, n, rfl⟩
      have hself' : (x / 2 ^ k % 2 == 1) = false := by simpa using hself
      have HOK : Hid (0 ≤ x ∧ x < 2 ^ g.length ∧ x / 2 ^ k % 2 ≠ 1) := Lib.hid ⟨by omega, by omega, hself⟩
      clear hneg hbig hself
      go_wp2
      go_loopw [38] (fun i wr => ∃ j m : Nat, j ≤ g.length ∧ i = .int .i64 j ∧ wr = w.drewN m ∧ ∀ i, i < j → x / 2 ^ i % 2 = g.getD i 0 / 2 ^ k % 2) (fun i _ => g.length - (intOf i).toNat)
      case atStart => exact ⟨0, n, Nat.zero_le _, rfl, rfl, fun i h => by omega⟩
      case round =>
        obtain ⟨j, m, hj, rfl, rfl, h1⟩ := hrel
        have H1 := Lib.hid h1; clear h1
        by_cases hjl : j < g.length
        · have hcellj := HC.out j hjl
          obtain ⟨y, hy⟩ : ∃ y : Int, g.getD j 0 = y := ⟨_, rfl⟩
          rw [hy] at hcellj
          have HY := Lib.hid hy; clear hy
          have hjI : (j : Int) < g.length := by omega
          by_cases hne : x / 2 ^ j % 2 = y / 2 ^ k % 2
          · have hne' : (x / 2 ^ j % 2 != y / 2 ^ k % 2) = false := by simpa using hne
            have HNE := Lib.hid hne; clear hne
            go_wp2
            go_quiet (fail)
            go_wp2
            go_roundw
            case rel =>
              refine ⟨j + 1, _, by omega, by go_num, rfl, fun i hi => ?_⟩
              by_cases hij : i = j
              · subst hij; rw [HY.out]; exact HNE.out
              · exact H1.out i (by omega)
            case measure => simp [intOf]; omega
          · have hne' : (x / 2 ^ j % 2 != y / 2 ^ k % 2) = true := by simpa using hne
            have hF := Lib.hid (HBAD.out (fun h => by have := h.2.2.2 j hjl; rw [HX.out, HY.out] at this; exact hne this))
            clear hne
            go_wp2
            go_quiet (fail)
            go_wp2
            go_ret
            exact ⟨by rw [hF.out]; rfl, m + nq, by simp [World.drewN, Nat.add_assoc]⟩
        · go_wp2
          go_roundw
          case rel =>
            refine ⟨k + 1, m, by omega, by go_num, rfl, fun i hi => ?_⟩
            by_cases hik : i = k
            · subst hik
              obtain ⟨q1, q2, q3⟩ := HOK.out
              unfold rowOk
              rw [HX.out]
              exact ⟨q1, q2, q3, fun j' hj' => H1.out j' (by omega)⟩
            · exact H0.out i (by omega)
          case measure => simp [intOf]; omega
    · have hF := Lib.hid (show validB g = true from validB_true.2 (by
        exact ⟨hl1, hl3, fun i hi => H0.out i (by omega)⟩))
      go_wp2
      go_ret
      exact ⟨by rw [hF.out]; rfl, n, rfl⟩
end Go.Proofs.YthdkamnclbfehaaGreatDoor

/- chordal: clique, best, Clique, and house.bays: of every slice they answer whether it is a graph of eight nodes. -/
namespace Go.Proofs.YthdkamnclbfehaaGreatDoor
set_option linter.unusedSimpArgs false
set_option linter.unusedVariables false
set_option linter.unnecessarySimpa false
open Go.RowKit

def gn (g : List Int) (i : Nat) : Nat := (g.getD i 0).toNat
def offB (g : List Int) (s i : Nat) : Bool := sdiff (sdiff s (gn g i)) (2 ^ i) != 0
def cliqueB (g : List Int) (s : Nat) : Bool := !(elems s).any (offB g s)

theorem Graph.bound {g : List Int} (h : Graph g) {i : Nat} (hi : i < g.length) : g.getD i 0 = (gn g i : Int) ∧ gn g i < 2 ^ g.length := by
  have h1 := (h.2.2 i hi).1
  have h2 := (h.2.2 i hi).2.1
  unfold gn
  refine ⟨by omega, ?_⟩
  have : ((2 : Int) ^ g.length) = ((2 ^ g.length : Nat) : Int) := by push_cast; rfl
  omega
theorem pow_le_4096 {n : Nat} (h : n ≤ 12) : 2 ^ n ≤ 4096 := Nat.pow_le_pow_right (n := 2) (by decide) h

set_option maxHeartbeats 800000 in
set_option maxRecDepth 100000 in
theorem clique1_any {w : World} {v : Value} {g : List Int} {s i b2 b3 : Nat} (hg : Graph g) (hv : Rd w 1 v g.length (icells g)) (hs : s < 4096) (hi : i < g.length)
    (h2 : w.cell? ⟨b2, 0, none⟩ = some v) (h3 : w.cell? ⟨b3, 0, none⟩ = some (.int .i64 s)) :
    Calls Tryz.prog 125 #[.int .i64 i, .pointer (some ⟨b3, 0, none⟩), .pointer (some ⟨b2, 0, none⟩)] w (DrawPost w (.bool (offB g s i))) := by
  have hn := hg.2.1
  obtain ⟨b, o, cap, hve, hcell⟩ : ∃ b o cap, v = .slice (some ⟨b, o, none⟩) g.length cap ∧ w.cell? ⟨b, o + i, none⟩ = some (.int .i64 (g.getD i 0)) := by
    rcases hv.2.2 with ⟨h, h'⟩ | ⟨b, o, c, h, _, _, hx⟩
    · omega
    · exact ⟨b, o, c, h, hx i _ (icells_get g i hi)⟩
  subst hve
  obtain ⟨hb1, hb2⟩ := hg.bound hi
  have h4 := pow_le_4096 hn
  rw [hb1] at hcell
  have hlt : gn g i < 9223372036854775808 := Nat.lt_of_lt_of_le hb2 (Nat.le_trans h4 (by decide))
  have hs2 : s < 9223372036854775808 := Nat.lt_of_lt_of_le hs (by decide)
  have e1 := i64_andNot_nat s (gn g i) hs2 hlt
  have hi12 : i ≤ 62 := by omega
  have hpw : 2 ^ i ≤ 4096 := pow_le_4096 (by omega)
  have e2 : IntKind.i64.wrap ((2 : Int) ^ i) = ((2 ^ i : Nat) : Int) := by
    have := shl_one i hi12
    rwa [Nat.min_eq_left (by omega)] at this
  have hsd : sdiff s (gn g i) < 2 ^ 12 := sdiff_lt (by omega)
  have e3 := i64_andNot_nat (sdiff s (gn g i)) (2 ^ i) (by omega) (by omega)
  have e4 : (((sdiff (sdiff s (gn g i)) (2 ^ i) : Nat) : Int) != 0) = offB g s i := by
    unfold offB
    rw [Bool.eq_iff_iff, bne_iff_ne, bne_iff_ne]; omega
  obtain ⟨q, hq⟩ : ∃ q : Nat, 2 ^ i = q := ⟨_, rfl⟩
  rw [hq] at e2 e3 e4
  generalize sdiff s (gn g i) = sd at *
  generalize gn g i = gi at *
  generalize sdiff sd q = sr at *
  generalize offB g s i = res at *
  have hiI : (i : Int) < g.length := by omega
  clear hb1 hb2 h4 hsd hpw hq hv hlt hs2
  go_enter Tryz.func125, Tryz.ntmps125
  go_wp2
  go_quiet (fail)
  go_wp2
  go_ret
  exact ⟨rfl, _, rfl⟩

theorem elems_lt {s n i : Nat} (hs : s < 2 ^ n) (h : i ∈ elems s) : i < n := by
  unfold elems at h
  obtain ⟨_, h2⟩ := List.mem_filter.1 h
  rcases Nat.lt_or_ge i n with hl | hl
  · exact hl
  · have : s.testBit i = false := Nat.testBit_lt_two_pow (Nat.lt_of_lt_of_le hs (Nat.pow_le_pow_right (by decide) hl))
    rw [this] at h2; cases h2

set_option maxHeartbeats 800000 in
set_option maxRecDepth 100000 in
theorem clique_any {w : World} {v : Value} {g : List Int} {s : Nat} (hg : Graph g) (hv : Rd w 1 v g.length (icells g)) (hs : s < 2 ^ g.length) (hT : TabAt 3 Lib.deBruijn64tab w) (hw3 : 3 < w.heap.size) :
    Calls Tryz.prog 83 #[v, .int .i64 s] w (IdxPost w (.bool (cliqueB g s))) := by
  have h4 : s < 4096 := Nat.lt_of_lt_of_le hs (pow_le_4096 hg.2.1)
  have hk2 : Keep (fun _ => False) w ((w.alloc (.cells #[v] 53)).alloc (.cells #[.int .i64 s] 3)) := ((Keep.refl _ _).alloc _).alloc _
  have HT := Lib.hid (show TabAt 3 Lib.deBruijn64tab ((w.alloc (.cells #[v] 53)).alloc (.cells #[.int .i64 s] 3)) from fun j hj => (hk2.cell (p := ⟨3, j, none⟩) hw3 (fun h => h)).trans (hT j hj))
  have HV := Lib.hid (hv.keep hk2 (fun _ _ h => h))
  have HK2 := Lib.hid hk2; clear hk2
  have HG := Lib.hid hg
  have HS := Lib.hid hs; clear hs
  obtain ⟨ao, cap, hve, _⟩ := hv.shape
  clear hv hT hg
  subst hve
  have HC : Hid (∀ w3 v', Keep (fun _ => False) ((w.alloc (.cells #[Value.slice ao g.length cap] 53)).alloc (.cells #[.int .i64 s] 3)) w3 → w3.ownsRow ((w.alloc (.cells #[Value.slice ao g.length cap] 53)).alloc (.cells #[.int .i64 s] 3)).heap.size 3 1 v' (elems s).length (ncells (elems s)) →
      Calls Tryz.prog 85 #[v', .func (.func 125) #[] #[.pointer (some ⟨w.heap.size + 1, 0, none⟩), .pointer (some ⟨w.heap.size, 0, none⟩)]] w3 (IdxPost w3 (.bool ((elems s).any (offB g s))))) := Lib.hid (by
    intro w3 v' hk3 hown
    have hrd : Rd w3 1 v' ((elems s).map Int.ofNat).length (icells ((elems s).map Int.ofNat)) := by
      have := ownsRow_rd hown (by intro u hu; obtain ⟨_, _, rfl⟩ := List.mem_map.1 hu; rfl)
      rw [ncells_icells] at this
      simpa using this
    have hany : ((elems s).map Int.ofNat).any (fun x => offB g s x.toNat) = (elems s).any (offB g s) := by
      rw [List.any_map]; rfl
    have := containsFunc_any (p := fun x => offB g s x.toNat) (F := 125) (capt := #[.pointer (some ⟨w.heap.size + 1, 0, none⟩), .pointer (some ⟨w.heap.size, 0, none⟩)]) hrd (enters_of Tryz.func125 (by kernel_rfl) rfl) (by
      intro w4 hk4 x hx
      obtain ⟨i, hi, rfl⟩ := List.mem_map.1 hx
      have hk34 := hk3.trans hk4 (fun _ _ h => h)
      have c2 : w4.cell? ⟨w.heap.size, 0, none⟩ = some (Value.slice ao g.length cap) := by
        rw [hk34.cell (p := ⟨w.heap.size, 0, none⟩) (by simp; omega) (fun h => h)]
        rw [World.cell?_alloc_past _ _ _ (by simp)]
        rw [World.cell?_alloc_new]; rfl
      have c3 : w4.cell? ⟨w.heap.size + 1, 0, none⟩ = some (.int .i64 s) := by
        rw [hk34.cell (p := ⟨w.heap.size + 1, 0, none⟩) (by simp) (fun h => h)]
        have := World.cell?_alloc_new (w.alloc (.cells #[Value.slice ao g.length cap] 53)) #[.int .i64 s] 3 0
        simpa using this
      refine (clique1_any HG.out (HV.out.keep hk34 (fun _ _ h => h)) h4 (elems_lt HS.out hi) c2 c3).mono ?_
      intro e w5 h5
      exact h5.keep) (by
        have : (elems s).length ≤ 12 := by
          have := List.length_filter_le (s.testBit ·) (List.range 12)
          simpa [elems] using this
        simp; omega)
    rw [hany] at this
    exact this)
  go_enter Tryz.func83, Tryz.ntmps83
  go_wp2_with (first | (go_at_call 86; refine (nodes_any s h4 _ HT.out (by simp; omega)).mono ?_; rintro e w3 ⟨v', rfl, hown, hk3⟩; have HO := Lib.hid hown; clear hown; have HK3 := Lib.hid hk3; clear hk3; have hshape := ownsRow_shape HO.out; obtain ⟨ao', cap', hv', _⟩ := hshape; subst hv'; have c3 : w3.cell? ⟨w.heap.size + 1, 0, none⟩ = some (.int .i64 s) := by rw [HK3.out.cell (p := ⟨w.heap.size + 1, 0, none⟩) (by simp) (fun h => h)]; simpa using World.cell?_alloc_new (w.alloc (.cells #[Value.slice ao g.length cap] 53)) #[.int .i64 s] 3 0) | (go_at_call 85; refine (HC.out _ _ HK3.out HO.out).mono ?_; rintro e w4 ⟨rfl, hk4⟩; have HK4 := Lib.hid hk4; clear hk4))
  go_ret
  exact ⟨by unfold cliqueB; rfl, (HK2.out.trans HK3.out (fun _ _ h => h)).trans HK4.out (fun _ _ h => h)⟩
end Go.Proofs.YthdkamnclbfehaaGreatDoor

/- chordal: all, best, Clique, and house.bays: of every slice it answers whether it is a graph of eight nodes. -/
namespace Go.Proofs.YthdkamnclbfehaaGreatDoor
set_option linter.unusedSimpArgs false
set_option linter.unusedVariables false
set_option linter.unnecessarySimpa false
open Go.RowKit

theorem all_any {w : World} {ao : Option Addr} {n c : Nat} (hn : n ≤ 12) : Calls Tryz.prog 124 #[.slice ao n c] w fun e w' => e = .returned (.int .i64 (((2 ^ n : Nat) : Int) - 1)) ∧ w = w' := by
  have hp := pow_le_4096 hn
  have h1 : 1 ≤ 2 ^ n := Nat.one_le_two_pow
  have e1 : wrap64 ((2 : Int) ^ n) = ((2 ^ n : Nat) : Int) := by rw [wrap64_pow hn]; push_cast; rfl
  obtain ⟨q, hq⟩ : ∃ q : Nat, 2 ^ n = q := ⟨_, rfl⟩
  rw [hq] at hp h1 e1 ⊢
  have HQ := Lib.hid hq; clear hq
  go_enter Tryz.func124, Tryz.ntmps124
  go_wp2
  go_ret
  exact ⟨rfl, rfl⟩

def bestStep (g : List Int) (b s : Nat) : Nat := if cnt12 b < cnt12 s ∧ cliqueB g s = true then s else b
def bestTo (g : List Int) (k : Nat) : Nat := (List.range k).foldl (bestStep g) 0
def bestF (g : List Int) : Nat := bestTo g (2 ^ g.length)
theorem bestTo_succ (g : List Int) (k : Nat) : bestTo g (k + 1) = bestStep g (bestTo g k) k := by simp [bestTo, List.range_succ]
theorem bestTo_lt (g : List Int) : ∀ (k N : Nat), k ≤ N → 0 < N → bestTo g k < N
  | 0, N, _, h => by simpa [bestTo] using h
  | k + 1, N, h, h' => by
    rw [bestTo_succ]; unfold bestStep
    have := bestTo_lt g k N (by omega) h'
    split <;> omega

set_option maxHeartbeats 1000000 in
set_option maxRecDepth 100000 in
theorem best_any {w : World} {v : Value} {g : List Int} (hg : Graph g) (hv : Rd w 1 v g.length (icells g)) (hT : TabAt 3 Lib.deBruijn64tab w) (hw3 : 3 < w.heap.size) :
    Calls Tryz.prog 82 #[v, .func (.func 83) #[v] #[]] w (IdxPost w (.int .i64 (bestF g))) := by
  obtain ⟨ao, cap, hve, _⟩ := hv.shape
  have hn := hg.2.1
  have hp := pow_le_4096 hn
  have h1 : 1 ≤ 2 ^ g.length := Nat.one_le_two_pow
  have HT := Lib.hid hT; clear hT
  have HG := Lib.hid hg; clear hg
  subst hve
  have HV := Lib.hid hv; clear hv
  have HBF := Lib.hid (show bestF g = bestTo g (2 ^ g.length) from rfl)
  obtain ⟨N, hN⟩ : ∃ N : Nat, 2 ^ g.length = N := ⟨_, rfl⟩
  have HN := Lib.hid hN
  rw [hN] at hp h1 HBF
  clear hN
  have HALL : Hid (∀ w1, Calls Tryz.prog 124 #[.slice ao g.length cap] w1 fun e w' => e = .returned (.int .i64 ((N : Int) - 1)) ∧ w1 = w') := Lib.hid (fun w1 => by
    have := all_any (w := w1) (ao := ao) (c := cap) hn
    rwa [HN.out] at this)
  go_enter Tryz.func82, Tryz.ntmps82
  go_wp2_with (go_at_call 124; refine (HALL.out _).mono ?_; rintro e w' ⟨rfl, rfl⟩)
  go_loopw [5, 10] (fun b i wr => ∃ k m : Nat, k ≤ N ∧ i = .int .i64 k ∧ b = .int .i64 m ∧ m = bestTo g k ∧ m < N ∧ Keep (fun _ => False) w wr) (fun _ i _ => N - (intOf i).toNat)
  case atStart => exact ⟨0, 0, by omega, rfl, rfl, rfl, by omega, Keep.refl _ _⟩
  case round =>
    obtain ⟨k, m, hk, rfl, rfl, hm, hmN, hkeep⟩ := hrel
    have HM := Lib.hid hm; clear hm
    have HK := Lib.hid hkeep; clear hkeep
    by_cases hlt : k < N
    · have HST := Lib.hid (bestTo_succ g k)
      have HNX := Lib.hid (bestTo_lt g (k + 1) N (by omega) (by omega))
      by_cases hc : cnt12 m < cnt12 k
      · have hd : decide ((cnt12 m : Int) < cnt12 k) = true := by simpa using hc
        cases hq : cliqueB g k
        · have HE := Lib.hid (show bestTo g (k + 1) = m by rw [HST.out, ← HM.out]; simp [bestStep, hq])
          have HQ := Lib.hid hq; clear hq
          have HC := Lib.hid hc; clear hc
          go_wp2_with (first | (go_at_call 81; refine (onesCount_small _ (by omega) _).mono ?_; rintro e w' ⟨rfl, rfl⟩) | (go_at_call 83; refine (clique_any (s := k) HG.out (HV.out.keep HK.out (fun _ _ h => h)) (by rw [HN.out]; exact hlt) (fun j hj => (HK.out.cell (p := ⟨3, j, none⟩) hw3 (fun h => h)).trans (HT.out j hj)) (Nat.lt_of_lt_of_le hw3 HK.out.size)).mono ?_; rintro e w4 ⟨he, hk4⟩; rw [HQ.out] at he; subst he; have HK4 := Lib.hid hk4; clear hk4))
          go_roundw
          case rel => exact ⟨k + 1, m, by omega, by go_num, rfl, HE.out.symm, hmN, HK.out.trans HK4.out (fun _ _ h => h)⟩
          case measure => simp [intOf]; omega
        · have HE := Lib.hid (show bestTo g (k + 1) = k by rw [HST.out, ← HM.out]; simp [bestStep, hq, hc])
          have HQ := Lib.hid hq; clear hq
          have HC := Lib.hid hc; clear hc
          go_wp2_with (first | (go_at_call 81; refine (onesCount_small _ (by omega) _).mono ?_; rintro e w' ⟨rfl, rfl⟩) | (go_at_call 83; refine (clique_any (s := k) HG.out (HV.out.keep HK.out (fun _ _ h => h)) (by rw [HN.out]; exact hlt) (fun j hj => (HK.out.cell (p := ⟨3, j, none⟩) hw3 (fun h => h)).trans (HT.out j hj)) (Nat.lt_of_lt_of_le hw3 HK.out.size)).mono ?_; rintro e w4 ⟨he, hk4⟩; rw [HQ.out] at he; subst he; have HK4 := Lib.hid hk4; clear hk4))
          go_roundw
          case rel => exact ⟨k + 1, k, by omega, by go_num, rfl, HE.out.symm, hlt, HK.out.trans HK4.out (fun _ _ h => h)⟩
          case measure => simp [intOf]; omega
      · have hd : decide ((cnt12 m : Int) < cnt12 k) = false := by simp; omega
        have HE := Lib.hid (show bestTo g (k + 1) = m by rw [HST.out, ← HM.out]; simp [bestStep, hc])
        have HC := Lib.hid hc; clear hc
        go_wp2_with (go_at_call 81; refine (onesCount_small _ (by omega) _).mono ?_; rintro e w' ⟨rfl, rfl⟩)
        go_roundw
        case rel => exact ⟨k + 1, m, by omega, by go_num, rfl, HE.out.symm, hmN, HK.out⟩
        case measure => simp [intOf]; omega
    · have HE := Lib.hid (show bestF g = m by rw [HBF.out, HM.out, show k = N by omega])
      go_wp2
      go_ret
      exact ⟨by rw [HE.out]; rfl, HK.out⟩

def cliqueE (g : List Int) : Int := if validB g then 0 else 2
theorem chClique_any {w : World} {v : Value} {g : List Int} (hv : Rd w 1 v g.length (icells g)) (hlen : g.length < 9223372036854775807) (hT : TabAt 3 Lib.deBruijn64tab w) (hw3 : 3 < w.heap.size) :
    Calls Tryz.prog 78 #[v] w (IdxPost w (.tuple #[.int .i64 (if validB g then bestF g else 0), .int .i64 (cliqueE g)])) := by
  obtain ⟨ao, cap, hve, _⟩ := hv.shape
  subst hve
  have HT := Lib.hid hT; clear hT
  have HV := Lib.hid hv; clear hv
  cases hb : validB g
  · have HB := Lib.hid hb; clear hb
    go_enter Tryz.func78, Tryz.ntmps78
    go_wp2_with (go_at_call 116; refine (valid_any HV.out hlen).mono ?_; rintro e w1 h; have h := h.keep; rw [HB.out] at h; obtain ⟨rfl, hk1⟩ := h; have HK1 := Lib.hid hk1; clear hk1)
    go_ret2
    exact ⟨by unfold cliqueE; rw [HB.out]; rfl, HK1.out⟩
  · have HB := Lib.hid hb; clear hb
    go_enter Tryz.func78, Tryz.ntmps78
    go_wp2_with (first | (go_at_call 116; refine (valid_any HV.out hlen).mono ?_; rintro e w1 h; have h := h.keep; rw [HB.out] at h; obtain ⟨rfl, hk1⟩ := h; have HK1 := Lib.hid hk1; clear hk1) | (go_at_call 82; refine (best_any (validB_true.1 HB.out) (HV.out.keep HK1.out (fun _ _ h => h)) (fun j hj => (HK1.out.cell (p := ⟨3, j, none⟩) hw3 (fun h => h)).trans (HT.out j hj)) (Nat.lt_of_lt_of_le hw3 HK1.out.size)).mono ?_; rintro e w2 ⟨rfl, hk2⟩; have HK2 := Lib.hid hk2; clear hk2))
    go_ret2
    exact ⟨by unfold cliqueE; rw [HB.out]; rfl, HK1.out.trans HK2.out (fun _ _ h => h)⟩

def baysB (g : List Int) : Bool := validB g && (g.length == 8)
theorem bays_any {w : World} {v : Value} {g : List Int} (hv : Rd w 1 v g.length (icells g)) (hlen : g.length < 9223372036854775807) (hT : TabAt 3 Lib.deBruijn64tab w) (hw3 : 3 < w.heap.size) :
    Calls Tryz.prog 54 #[v] w (IdxPost w (.bool (baysB g))) := by
  obtain ⟨ao, cap, hve, _⟩ := hv.shape
  subst hve
  have HC := Lib.hid (chClique_any hv hlen hT hw3); clear hT hv
  cases hb : validB g
  · have HB := Lib.hid hb; clear hb
    go_enter Tryz.func54, Tryz.ntmps54
    go_wp2_with (go_at_call 78; refine HC.out.mono ?_; rintro e w1 h; unfold cliqueE at h; rw [HB.out] at h; obtain ⟨rfl, hk1⟩ := h; have HK1 := Lib.hid hk1; clear hk1)
    go_ret
    exact ⟨by unfold baysB; rw [HB.out]; rfl, HK1.out⟩
  · have HB := Lib.hid hb; clear hb
    have HE := Lib.hid (show baysB g = ((g.length : Int) == 8) by unfold baysB; rw [HB.out, Bool.true_and, Bool.eq_iff_iff, beq_iff_eq, beq_iff_eq]; omega)
    go_enter Tryz.func54, Tryz.ntmps54
    go_wp2_with (go_at_call 78; refine HC.out.mono ?_; rintro e w1 h; unfold cliqueE at h; rw [HB.out] at h; obtain ⟨rfl, hk1⟩ := h; have HK1 := Lib.hid hk1; clear hk1)
    go_ret
    exact ⟨by rw [HE.out]; rfl, HK1.out⟩
end Go.Proofs.YthdkamnclbfehaaGreatDoor
