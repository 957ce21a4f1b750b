/- house.state.put. -/
import Derived.Test.YtkkjonkcjlnohaaGreatDoorSM13
import Derived.Test.YtkkjonkcjlnohaaGreatDoorSM16

/- house.state.put. -/
namespace Go.Proofs.YtkkjonkcjlnohaaGreatDoor
set_option linter.unusedSimpArgs false
set_option linter.unusedVariables false
set_option linter.unnecessarySimpa false
open Go.RowKit

def adjB (S : St) (b c : Int) : Bool := S.bays.getD b.toNat 0 / 2 ^ min c.toNat 64 % 2 == 1
/-- Does another open lot in a bay stand in the way. -/
def clashAt (S : St) (i b : Int) (X : Lot) (k : Nat) : Bool :=
  match S.lots[k]? with
  | some y => !((k : Int) == i - 1) && (!y.closed && (!decide (y.bay < 0) && (y.bay == b || (!(y.spice.toList == X.spice.toList) && adjB S b y.bay))))
  | none => false
def putF (S : St) (a : FA) : Res :=
  if hasLot S (a.n.getD 0 0) then
    (if 7 < a.n.getD 1 0 then ⟨2, S, bs []⟩
     else match S.lots[(a.n.getD 0 0 - 1).toNat]? with
      | some X => if X.closed then ⟨7, S, bs []⟩
          else if (List.range S.lots.length).any (clashAt S (a.n.getD 0 0) (a.n.getD 1 0) X) then ⟨7, S, bs []⟩
          else ⟨0, { S with lots := S.lots.set (a.n.getD 0 0 - 1).toNat { X with bay := a.n.getD 1 0 } }, bs [112, 117, 116]⟩
      | none => ⟨5, S, bs []⟩)
  else ⟨5, S, bs []⟩

set_option maxHeartbeats 2500000 in
set_option maxRecDepth 100000 in
theorem put_any {base : Nat} {w : World} {V : StV} {S : St} {vn : Value} {a : FA} (hG : GW base w) (h : OSt base w V S) (hl : S.small) (hbays : S.bays.length = 8) (ha : Args base w vn a) (hn : a.n.length = 2) (hbx : ∀ x ∈ a.n, 0 ≤ x ∧ x ≤ 9223372036854775807) :
    Calls Tryz.prog 401 #[.pointer (some ⟨V.b, 0, none⟩), .agg #[vn, .string a.word]] w (RunPost base w V (putF S a)) := by
  obtain ⟨nb, no, nc, rfl, hnc, hC⟩ := args_open h ha (by omega)
  obtain ⟨i, b, hx⟩ : ∃ i b, a.n = [i, b] := by
    match a.n, hn with
    | [i, b], _ => exact ⟨i, b, rfl⟩
  obtain ⟨an, word, aok⟩ := a
  simp only at hx hn hnc hC hbx
  subst hx
  have hib := hbx i (by simp)
  have hbb := hbx b (by simp)
  obtain ⟨bn, rfl⟩ := Int.eq_ofNat_of_zero_le hbb.1
  change Calls Tryz.prog 401 #[.pointer (some ⟨V.b, 0, none⟩), .agg #[.slice (some ⟨nb, no, none⟩) 2 nc, .string word]] w (RunPost base w V (putF S ⟨[i, (bn : Int)], word, aok⟩))
  obtain ⟨w0, hw0⟩ : ∃ w0, w0 = w.alloc (.cells #[.slice (some ⟨nb, no, none⟩) 2 nc, .string word] 98) := ⟨_, rfl⟩
  obtain ⟨b0, b1, b2⟩ := hC _ (Keep.refl _ _)
  have n0 := b2 0 (by simp)
  have n1 := b2 1 (by simp)
  simp only [Nat.add_zero, List.getD_cons_zero, List.getD_cons_succ] at n0 n1
  have b0' : (w.alloc (.cells #[.slice (some ⟨nb, no, none⟩) 2 nc, .string word] 98)).cell? ⟨w.heap.size, 0, none⟩ = some (.slice (some ⟨nb, no, none⟩) 2 nc) := b0
  have n0' : w0.cell? ⟨nb, no, none⟩ = some (.int .i64 i) := by rw [hw0]; exact n0
  have n1' : w0.cell? ⟨nb, no + 1, none⟩ = some (.int .i64 (bn : Int)) := by rw [hw0]; exact n1
  rw [← hw0] at b0'
  have hnc1 : 2 ≤ nc := hnc
  have hk0 : Keep (fun _ => False) w w0 := by rw [hw0]; exact (Keep.refl _ _).alloc _
  have h0 := h.keep hk0 (fun _ _ h => h)
  have HI := Lib.hid hib; have HB := Lib.hid hbb; clear hib hbx
  have H0 := Lib.hid h0; clear h0
  have H := Lib.hid h; clear h
  have HL := Lib.hid hl; clear hl
  have HK0 := Lib.hid hk0; clear hk0
  have HW0 := Lib.hid hw0; clear hw0
  clear b0 b1 b2 n0 n1 hC ha hnc hn
  have HTH : Hid (∀ nq, Calls Tryz.prog 406 #[.pointer (some ⟨V.b, 0, none⟩), .slice (some ⟨w0.heap.size, 0, none⟩) 1 1] ((w0.drewN nq).alloc (.cells #[.int .i64 i] 3)) (IdxPost ((w0.drewN nq).alloc (.cells #[.int .i64 i] 3)) (.bool (hasLot S i)))) := Lib.hid fun nq => by
    have kk := (((Keep.refl (fun _ => False) w0).drewN nq).alloc (.cells #[.int .i64 i] 3))
    have hh := there_any (l := [i]) ((H0.out.keep kk (fun _ _ h => h)).at (Nat.le_trans H0.out.lt kk.size)) HL.out.l (Rd.new (w0.drewN nq) 1 1 (icells [i]) 3 rfl (icells_one _) (by unfold maxLen; omega)) (by simp)
    rw [show allLots S [i] = hasLot S i by simp [allLots]] at hh
    exact hh
  cases hb : hasLot S i with
  | false =>
    have HF := Lib.hid (show putF S ⟨[i, (bn : Int)], word, aok⟩ = ⟨5, S, bs []⟩ by unfold putF; simp only [List.getD_cons_zero, List.getD_cons_succ]; rw [hb]; rfl)
    have HBF := Lib.hid hb; clear hb
    go_enter Tryz.func401, Tryz.ntmps401
    go_wp2
    rw [← HW0.out]
    go_quiet (fail)
    go_wp2_with (go_at_call 406; have hh := HTH.out nq; rw [HBF.out] at hh; refine Calls.mono hh ?_; clear hh; rintro e w1 ⟨rfl, hk1⟩; have HK1 := Lib.hid ((((Keep.refl (fun _ => False) w0).drewN nq).alloc (.cells #[.int .i64 i] 3)).trans hk1 (fun _ _ h => h)); clear hk1)
    go_ret2
    exact ⟨by rw [HF.out]; rfl, V, (fun e => by rw [HF.out] at e; cases e), (Chg.refl base w V).after (HK0.out.trans HK1.out (fun _ _ h => h))⟩
  | true =>
    obtain ⟨ki, rfl, hki⟩ := hasLot_at hb
    obtain ⟨g, cap, hv, hglt, hgb, hgne⟩ := H.out.lotRow (by omega)
    obtain ⟨X, hX⟩ : ∃ X, S.lots[ki]? = some X := ⟨_, List.getElem?_eq_getElem hki⟩
    have hg1 : S.lots[((ki : Int) + 1 - 1).toNat]? = some X := by rw [show ((ki : Int) + 1 - 1).toNat = ki by omega]; exact hX
    have hF0 : putF S ⟨[(ki : Int) + 1, (bn : Int)], word, aok⟩ = if 7 < (bn : Int) then ⟨2, S, bs []⟩ else (if X.closed then ⟨7, S, bs []⟩
          else if (List.range S.lots.length).any (clashAt S ((ki : Int) + 1) (bn : Int) X) then ⟨7, S, bs []⟩
          else ⟨0, { S with lots := S.lots.set ki { X with bay := (bn : Int) } }, bs [112, 117, 116]⟩) := by
      unfold putF
      simp only [List.getD_cons_zero, List.getD_cons_succ]
      rw [hb, if_pos rfl, hg1, show ((ki : Int) + 1 - 1).toNat = ki by omega]
    have HLT : Hid (∀ W, Keep (fun _ => False) w0 W → Calls Tryz.prog 407 #[.pointer (some ⟨V.b, 0, none⟩), .int .i64 ((ki : Int) + 1)] W fun e w' => e = .returned (.pointer (some ⟨g, ki * 4, none⟩)) ∧ W = w') := Lib.hid fun W hk => by
      have hh := lot_any (i := (ki : Int) + 1) ((H0.out.keep hk (fun _ _ h => h)).at (Nat.le_trans H0.out.lt hk.size)) HL.out.l
      unfold LotPost at hh
      rw [hb, if_pos rfl, lotPtr_at hv] at hh
      exact hh
    have HBF := Lib.hid hb; clear hb
    have HX := Lib.hid hX; clear hX hg1
    have HKI := Lib.hid hki; clear hki
    by_cases h7 : 7 < (bn : Int)
    · have HF := Lib.hid (show putF S ⟨[(ki : Int) + 1, (bn : Int)], word, aok⟩ = ⟨2, S, bs []⟩ by rw [hF0, if_pos h7])
      have h7d : decide (7 < (bn : Int)) = true := decide_eq_true h7
      clear hF0 h7
      go_enter Tryz.func401, Tryz.ntmps401
      go_wp2
      rw [← HW0.out]
      go_quiet (fail)
      go_wp2_with (go_at_call 406; have hh := HTH.out nq; rw [HBF.out] at hh; refine Calls.mono hh ?_; clear hh; rintro e w1 ⟨rfl, hk1⟩; have HK1 := Lib.hid ((((Keep.refl (fun _ => False) w0).drewN nq).alloc (.cells #[.int .i64 ((ki : Int) + 1)] 3)).trans hk1 (fun _ _ h => h)); clear hk1)
      go_ret2
      exact ⟨by rw [HF.out]; rfl, V, (fun e => by rw [HF.out] at e; cases e), (Chg.refl base w V).after (HK0.out.trans HK1.out (fun _ _ h => h))⟩
    rw [if_neg h7] at hF0
    have h7d : decide (7 < (bn : Int)) = false := decide_eq_false h7
    cases hcx : X.closed with
    | true =>
      have HF := Lib.hid (show putF S ⟨[(ki : Int) + 1, (bn : Int)], word, aok⟩ = ⟨7, S, bs []⟩ by rw [hF0, hcx]; rfl)
      have HCX := Lib.hid hcx
      clear hF0 h7 hcx
      go_enter Tryz.func401, Tryz.ntmps401
      go_wp2
      rw [← HW0.out]
      go_quiet (fail)
      go_wp2_with (first
        | (go_at_call 406; have hh := HTH.out nq; rw [HBF.out] at hh; refine Calls.mono hh ?_; clear hh; rintro e w1 ⟨rfl, hk1⟩; have HK1 := Lib.hid ((((Keep.refl (fun _ => False) w0).drewN nq).alloc (.cells #[.int .i64 ((ki : Int) + 1)] 3)).trans hk1 (fun _ _ h => h)); clear hk1; obtain ⟨⟨x0, _, _, x3⟩, fr⟩ := (H0.out.keep HK1.out (fun _ _ h => h)).lotCellX hv HX.out; rw [HCX.out] at x3)
        | (go_at_call 407; refine Calls.mono (HLT.out w1 HK1.out) ?_; rintro e w' ⟨rfl, rfl⟩))
      go_ret2
      exact ⟨by rw [HF.out]; rfl, V, (fun e => by rw [HF.out] at e; cases e), (Chg.refl base w V).after (HK0.out.trans HK1.out (fun _ _ h => h))⟩
    | false =>
      have hF1 : putF S ⟨[(ki : Int) + 1, (bn : Int)], word, aok⟩ = if (List.range S.lots.length).any (clashAt S ((ki : Int) + 1) (bn : Int) X) then ⟨7, S, bs []⟩ else ⟨0, { S with lots := S.lots.set ki { X with bay := (bn : Int) } }, bs [112, 117, 116]⟩ := by rw [hF0, hcx]; rfl
      have HF1 := Lib.hid hF1
      have HCX := Lib.hid hcx
      clear hF0 hF1 hcx
      go_enter Tryz.func401, Tryz.ntmps401
      go_wp2
      rw [← HW0.out]
      go_quiet (fail)
      go_wp2_with (first
        | (go_at_call 406; have hh := HTH.out nq; rw [HBF.out] at hh; refine Calls.mono hh ?_; clear hh; rintro e w1 ⟨rfl, hk1⟩; have HK1 := Lib.hid ((((Keep.refl (fun _ => False) w0).drewN nq).alloc (.cells #[.int .i64 ((ki : Int) + 1)] 3)).trans hk1 (fun _ _ h => h)); clear hk1; obtain ⟨⟨x0, _, _, x3⟩, fr⟩ := (H0.out.keep HK1.out (fun _ _ h => h)).lotCellX hv HX.out; rw [HCX.out] at x3; have c1 := (H0.out.keep HK1.out (fun _ _ h => h)).blk.cell 1; simp [StV.cells] at c1; rw [hv] at c1)
        | (go_at_call 407; refine Calls.mono (HLT.out w1 HK1.out) ?_; rintro e w' ⟨rfl, rfl⟩))
      have hki2 := HKI.out
      have hwk : IntKind.i64.wrap ((ki : Int) + 1 - 1) = (ki : Int) := by rw [IntWalk.i64_in _ (by have := HL.out.l; omega)]; omega
      have hll := HL.out.l
      go_loopw [43] (fun v wr => ∃ k : Nat, k ≤ S.lots.length ∧ v = .int .i64 k ∧ Keep (fun _ => False) w0 wr ∧ ∀ j, j < k → clashAt S ((ki : Int) + 1) (bn : Int) X j = false) (fun v _ => S.lots.length - (intOf v).toNat)
      case atStart => exact ⟨0, Nat.zero_le _, rfl, HK1.out, fun j h => by omega⟩
      case round =>
        obtain ⟨k, hk, rfl, hkr, hnc⟩ := hrel
        have HKR := Lib.hid hkr; clear hkr
        have HNC := Lib.hid hnc; clear hnc
        by_cases hlt : k < S.lots.length
        · obtain ⟨Y, hY⟩ : ∃ Y, S.lots[k]? = some Y := ⟨_, List.getElem?_eq_getElem hlt⟩
          obtain ⟨ys, yg, yb, yc⟩ := Y
          have hlti : ((k : Int) < (S.lots.length : Int)) = True := by simp; omega
          obtain ⟨⟨y0, y1, y2, y3⟩, _⟩ := (H0.out.keep HKR.out (fun _ _ h => h)).lotCellX hv hY
          dsimp only at y0 y1 y2 y3
          have hcl : clashAt S ((ki : Int) + 1) (bn : Int) X k = (!((k : Int) == (ki : Int) + 1 - 1) && (!yc && (!decide (yb < 0) && (yb == (bn : Int) || (!(ys.toList == X.spice.toList) && adjB S (bn : Int) yb))))) := by unfold clashAt; rw [hY]
          clear hY
          by_cases hkk : k = ki
          · have HCL := Lib.hid (show clashAt S ((ki : Int) + 1) (bn : Int) X k = false by rw [hcl, hkk]; simp)
            have hkd : ((k : Int) == (ki : Int)) = true := by rw [hkk]; simp
            clear hcl hkk
            go_wp2
            go_roundw
            case rel => exact ⟨k + 1, hlt, by go_num, HKR.out.alloc _, fun j hj => by
              by_cases hjk : j = k
              · subst hjk; exact HCL.out
              · exact HNC.out j (by omega)⟩
            case measure => simp [intOf]; omega
          have hkd : ((k : Int) == (ki : Int)) = false := by simp; omega
          have hkd' : ((k : Int) == (ki : Int) + 1 - 1) = false := by simp; omega
          cases yc with
          | true =>
            have HCL := Lib.hid (show clashAt S ((ki : Int) + 1) (bn : Int) X k = false by rw [hcl]; simp)
            clear hcl hkk hkd'
            go_wp2
            go_roundw
            case rel => exact ⟨k + 1, hlt, by go_num, HKR.out.alloc _, fun j hj => by
              by_cases hjk : j = k
              · subst hjk; exact HCL.out
              · exact HNC.out j (by omega)⟩
            case measure => simp [intOf]; omega
          | false =>
            by_cases hyb : yb < 0
            · have HCL := Lib.hid (show clashAt S ((ki : Int) + 1) (bn : Int) X k = false by rw [hcl, decide_eq_true hyb]; simp)
              have hybd : decide (yb < 0) = true := decide_eq_true hyb
              clear hcl hkk hyb hkd'
              go_wp2
              go_roundw
              case rel => exact ⟨k + 1, hlt, by go_num, HKR.out.alloc _, fun j hj => by
                by_cases hjk : j = k
                · subst hjk; exact HCL.out
                · exact HNC.out j (by omega)⟩
              case measure => simp [intOf]; omega
            obtain ⟨c, rfl⟩ := Int.eq_ofNat_of_zero_le (show 0 ≤ yb by omega)
            have hcl2 : clashAt S ((ki : Int) + 1) (bn : Int) X k = (((c : Int) == (bn : Int)) || (!(ys.toList == X.spice.toList) && (S.bays.getD bn 0 / 2 ^ min c 64 % 2 == 1))) := by
              rw [hcl, hkd', decide_eq_false hyb]
              simp only [adjB, Int.toNat_natCast, Bool.not_false, Bool.true_and]
            have hybd : decide ((c : Int) < 0) = false := decide_eq_false hyb
            clear hkk hcl hkd' hyb
            go_wp2
            have hkb := HKR.out.alloc (.cells #[.string ys, .int .i64 yg, .int .i64 (c : Int), .bool false] 125)
            have hzb := Blk.new wr #[.string ys, .int .i64 yg, .int .i64 (c : Int), .bool false] 125
            obtain ⟨wb, hwb⟩ : ∃ wb, wb = wr.alloc (.cells #[.string ys, .int .i64 yg, .int .i64 (c : Int), .bool false] 125) := ⟨_, rfl⟩
            rw [← hwb] at hkb hzb
            rw [← hwb]
            clear hwb y0 y1 y2 y3 hybd
            have z0 := hzb.cell 0
            have z2 := hzb.cell 2
            simp at z0 z2
            have xs := ((H0.out.keep hkb (fun _ _ h => h)).lotCellX hv HX.out).1.1
            have vb0 := (H0.out.keep hkb (fun _ _ h => h)).blk.cell 0
            simp [StV.cells] at vb0
            obtain ⟨gb, ob, cb, hvb, hbc⟩ : ∃ gb ob cb, V.vb = .slice (some ⟨gb, ob, none⟩) 8 cb ∧ wb.cell? ⟨gb, ob + bn, none⟩ = some (.int .i64 (S.bays.getD bn 0)) := by
              have hrb := (H0.out.keep hkb (fun _ _ h => h)).rb
              rcases hrb.2.2 with ⟨_, e⟩ | ⟨gb, ob, cb, e, _, _, hx⟩
              · omega
              · exact ⟨gb, ob, cb, by rw [e, hbays], hx bn _ (icells_get _ _ (by omega))⟩
            rw [hvb] at vb0
            have hb8 : ((bn : Int) < 8) = True := by simp; omega
            have HKB := Lib.hid hkb; clear hkb hzb hvb
            obtain ⟨q, hq⟩ : ∃ q, S.bays.getD bn 0 = q := ⟨_, rfl⟩
            rw [hq] at hbc hcl2
            have HQ := Lib.hid hq; clear hq
            have a1 := i64_and_one
            by_cases hcb : (c : Int) = (bn : Int)
            · have HF := Lib.hid (show putF S ⟨[(ki : Int) + 1, (bn : Int)], word, aok⟩ = ⟨7, S, bs []⟩ by rw [HF1.out, if_pos (List.any_eq_true.2 ⟨k, List.mem_range.2 hlt, by rw [hcl2, hcb]; simp⟩)])
              have hcbd : ((c : Int) == (bn : Int)) = true := by rw [hcb]; simp
              clear hcl2 hcb
              go_quiet (fail)
              go_wp2
              go_ret2
              exact ⟨by rw [HF.out]; rfl, V, (fun e => by rw [HF.out] at e; cases e), (Chg.refl base w V).after (HK0.out.trans (HKB.out.drewN _) (fun _ _ h => h))⟩
            have hcbd : ((c : Int) == (bn : Int)) = false := by simp; omega
            rw [hcbd, Bool.false_or] at hcl2
            clear hcb
            by_cases hsp : ys = X.spice
            · have HCL := Lib.hid (show clashAt S ((ki : Int) + 1) (bn : Int) X k = false by rw [hcl2, hsp]; simp)
              rw [hsp] at z0
              clear hcl2 hsp
              go_quiet (fail)
              go_wp2
              go_roundw
              case rel => exact ⟨k + 1, hlt, by go_num, HKB.out.drewN _, fun j hj => by
                by_cases hjk : j = k
                · subst hjk; exact HCL.out
                · exact HNC.out j (by omega)⟩
              case measure => simp [intOf]; omega
            have hspt : (ys.toList == X.spice.toList) = false := by rw [beq_dec]; exact decide_eq_false hsp
            rw [hspt, Bool.not_false, Bool.true_and] at hcl2
            clear hsp
            cases hbit : (q / 2 ^ min c 64 % 2 == 1) with
            | true =>
              have HF := Lib.hid (show putF S ⟨[(ki : Int) + 1, (bn : Int)], word, aok⟩ = ⟨7, S, bs []⟩ by rw [HF1.out, if_pos (List.any_eq_true.2 ⟨k, List.mem_range.2 hlt, by rw [hcl2, hbit]⟩)])
              clear hcl2
              go_quiet (fail)
              go_wp2
              go_ret2
              exact ⟨by rw [HF.out]; rfl, V, (fun e => by rw [HF.out] at e; cases e), (Chg.refl base w V).after (HK0.out.trans (HKB.out.drewN _) (fun _ _ h => h))⟩
            | false =>
              have HCL := Lib.hid (show clashAt S ((ki : Int) + 1) (bn : Int) X k = false by rw [hcl2, hbit])
              clear hcl2
              go_quiet (fail)
              go_wp2
              go_roundw
              case rel => exact ⟨k + 1, hlt, by go_num, HKB.out.drewN _, fun j hj => by
                by_cases hjk : j = k
                · subst hjk; exact HCL.out
                · exact HNC.out j (by omega)⟩
              case measure => simp [intOf]; omega
        · have hke : k = S.lots.length := by omega
          have HF := Lib.hid (show putF S ⟨[(ki : Int) + 1, (bn : Int)], word, aok⟩ = ⟨0, { S with lots := S.lots.set ki { X with bay := (bn : Int) } }, bs [112, 117, 116]⟩ by
            rw [HF1.out, if_neg]
            intro e
            obtain ⟨j, hj, e⟩ := List.any_eq_true.1 e
            rw [HNC.out j (by rw [hke]; exact List.mem_range.1 hj)] at e
            cases e)
          have hlti : ((k : Int) < (S.lots.length : Int)) = False := by simp; omega
          obtain ⟨⟨_, _, z2, _⟩, fr⟩ := (H0.out.keep HKR.out (fun _ _ h => h)).lotCellX hv HX.out
          have f2 := fr (ki * 4 + 2)
          clear fr hke
          go_wp2
          go_ret2
          obtain ⟨h1, hc1⟩ := (H0.out.keep HKR.out (fun _ _ h => h)).setLotX hv HX.out 2 (by omega) { X with bay := (bn : Int) } (.int .i64 (bn : Int)) rfl
          refine ⟨by rw [HF.out]; rfl, V, fun _ => ?_, hc1.before (HK0.out.trans HKR.out (fun _ _ h => h))⟩
          rw [HF.out]
          exact h1
end Go.Proofs.YtkkjonkcjlnohaaGreatDoor
