/- history.run.retry, walked. -/
import Derived.Test.YthdkamnclbfehaaGreatDoorSerialM25
/- history.run.retry, walked. -/
namespace Go.Proofs.YthdkamnclbfehaaGreatDoor
set_option linter.unusedSimpArgs false
set_option linter.unusedVariables false
set_option linter.unnecessarySimpa false
open Go.RowKit
def RetryPost (base : Nat) (w : World) (r : Nat) (s : LS) (e : Ending) (w' : World) : Prop :=
  e = .returned (.tuple #[]) ∧ ∃ s' V', RetryR s s' ∧ RunAt base w' r V' s' ∧ Keep (fun k => base ≤ k) w w'
def RtRel (base : Nat) (w : World) (r : Nat) (s : LS) (gh : Nat) (wr : World) : Prop :=
  ∃ (V1 : RunV) (s1 : LS), gh = wsum s1 ∧ RunAt base wr r V1 s1 ∧ Ok s1 ∧ (∀ s', RetryR s1 s' → RetryR s s') ∧ Keep (fun k => base ≤ k) w wr
def IRel (s : LS) (vw : Int → Option Value) (bw : Nat) (wr : World) (v : Value) (wx : World) : Prop :=
  ∃ (left : Int → Bool) (cnt : Nat) (best : Int), v = .int .i64 best ∧ RangeAt wx bw wr.heap.size 6 vw left cnt ∧ BestI s vw left best ∧ (best = 0 ∨ (1 ≤ best ∧ best ≤ 6)) ∧ Keep (fun k => wr.heap.size ≤ k) wr wx
set_option maxHeartbeats 4000000 in
set_option maxRecDepth 100000 in
theorem retry_any {base : Nat} {w : World} {r : Nat} {V : RunV} {s : LS} (h : RunAt base w r V s) (hb : base ≤ w.heap.size) (hok : Ok s) :
    Calls Tryz.prog 110 #[.pointer (some ⟨r, 0, none⟩)] w (RetryPost base w r s) := by
  have H := Lib.hid h; clear h
  have HOK := Lib.hid hok; clear hok
  have HBW := Lib.hid hb; clear hb
  go_enter Tryz.func110, Tryz.ntmps110
  go_wp2_with fail
  go_loopg [2] (wsum s) (fun gh v wr => RtRel base w r s gh wr)
  case atStart => exact ⟨V, s, rfl, H.out, HOK.out, fun _ q => q, Keep.refl _ _⟩
  case round =>
    obtain ⟨V1, s1, hgh, hrr, hok1, hre, hkw⟩ := hrel
    obtain ⟨w0, rfl⟩ : ∃ w0, w0 = wr := ⟨_, rfl⟩
    have HR := Lib.hid hrr; have HO1 := Lib.hid hok1; have HRE := Lib.hid hre; have HKW := Lib.hid hkw
    have c14 : w0.cell? ⟨r, 14, none⟩ = some (.map (some V1.bw)) := by rw [hrr.lk.blk.cell]; exact lock_rest (j := 2)
    obtain ⟨w1, cnt, hrun, hrg, hcnt, hk1, hs1⟩ := hrr.wt.map.range Tryz.underlying193
    have HRG := Lib.hid hrg; have HK1 := Lib.hid hk1; have HGH := Lib.hid hgh; clear hrr hok1 hre hkw hrg hk1 hcnt hs1 hgh
    go_wp2_with fail
    go_loopw [2] (fun v wx => IRel s1 V1.vw V1.bw w0 v wx) (fun _ wx => wx.rangeLeft V1.bw w0.heap.size)
    case atStart => exact ⟨_, cnt, 0, rfl, HRG.out, BestI.start _ _, .inl rfl, HK1.out.mono (fun _ _ e => e.elim)⟩
    case round =>
      obtain ⟨left, cnt2, best, rfl, hrg, hbest, hb6, hkx⟩ := hrel
      have HB := Lib.hid hbest; have HKX := Lib.hid hkx; have HB6 := Lib.hid hb6
      have hle := hrg.left_eq
      have HLE := Lib.hid hle
      rcases hrg.next 0 with ⟨h0, hlf, hrun2⟩ | ⟨x, v, w5, cnt3, hwf, hlx, hfx, hrun2, hrg5, hlt, hk5, hs5, hen⟩
      · have HLF := Lib.hid hlf
        clear hrg hbest hkx hb6 hlf hle
        have hall : ∀ u a, Ready s1 u a → (kI u).wf = true ∧ (V1.vw u).isSome = true := fun u a q => by
          obtain ⟨o, rs, e, _⟩ := q
          obtain ⟨q1, q2, _⟩ := HO1.out.keys e
          have hw : (kI u).wf = true := kI_wf (by omega) (by omega)
          refine ⟨hw, ?_⟩
          cases hv : V1.vw u with
          | none => rw [HR.out.wt.emp u hw hv] at e; cases e
          | some _ => rfl
        have HALL := Lib.hid hall; clear hall
        by_cases hb0 : best = 0
        · have HB0 := Lib.hid hb0
          subst hb0
          go_wp2_with fail
          go_end0
          refine ⟨rfl, s1, V1, HRE.out _ (.stop (fun t a q => ?_)), HR.out.keep HKX.out (fun b hb e => by have := (HR.out.fp_ge hb).2; omega), HKW.out.trans HKX.out (fun i hi e => by have := HBW.out; have := HKW.out.size; have e' : w0.heap.size ≤ i := e; omega)⟩
          obtain ⟨q1, q2⟩ := HALL.out t a q
          rcases HB.out with ⟨_, h1⟩ | ⟨h1, _⟩
          · exact h1 t a q1 q2 (HLF.out t q1) q
          · exact h1 rfl
        · have hbr : 1 ≤ best ∧ best ≤ 6 := by
            rcases HB6.out with e | e
            · exact absurd e hb0
            · exact e
          have hrd : ∃ a, Ready s1 best a ∧ ∀ u b, Ready s1 u b → a ≤ b := by
            rcases HB.out with ⟨h1, _⟩ | ⟨_, a, ha, h1⟩
            · exact absurd h1 hb0
            · exact ⟨a, ha, fun u b q => by obtain ⟨q1, q2⟩ := HALL.out u b q; exact h1 u b q1 q2 (HLF.out u q1) q⟩
          obtain ⟨a, ha, hmin⟩ := hrd
          have HA := Lib.hid ha; have HMIN := Lib.hid hmin
          have hbb : (best == 0) = false := by simpa using hb0
          have hrx := HR.out.keep HKX.out (fun b hb e => by have := (HR.out.fp_ge hb).2; omega)
          have hbx : base ≤ wr.heap.size := Nat.le_trans HBW.out (Nat.le_trans HKW.out.size HKX.out.size)
          have HGO := Lib.hid (goOn_any hrx hbx hbr HO1.out)
          have HBRR := Lib.hid hbr; clear ha hmin hrx hbx hbr hb0
          go_wp2_with (go_at_call 109; refine Calls.mono HGO.out ?_; rintro e w6 ⟨rfl, ⟨V6, hr6⟩, hk6⟩; have HR6 := Lib.hid hr6; have HK6 := Lib.hid hk6; clear hr6 hk6)
          go_roundg (wsum (goOnT s1 best))
          case measure => rw [HGH.out]; exact goOnT_less HO1.out HA.out
          case rel =>
            refine ⟨V6, goOnT s1 best, rfl, HR6.out, goOnT_ok HO1.out best, fun s' q => HRE.out s' (.go HA.out HMIN.out q), ?_⟩
            exact (HKW.out.trans HKX.out (fun i hi e => by have := HBW.out; have := HKW.out.size; have e' : w0.heap.size ≤ i := e; omega)).trans HK6.out (fun _ _ e => e)
      · have hr0 : ∀ b, V1.fp r b → b < w0.heap.size := fun b hb => (HR.out.fp_ge hb).2
        have hkx5 : Keep (fun k => w0.heap.size ≤ k) w0 w5 := hkx.trans hk5 (fun i hi e => by have e' : i = w0.heap.size := e; omega)
        have hrr5 := HR.out.keep hkx5 (fun b hb e => by have := hr0 b hb; omega)
        have hxr := HR.out.wt.keys x v hwf hfx
        have HK5 := Lib.hid hkx5; have HR5 := Lib.hid hrr5; have HRG5 := Lib.hid hrg5; have HLT := Lib.hid hlt; have HXR := Lib.hid hxr
        have hx0 : x ≠ 0 := by omega
        have HX0 := Lib.hid hx0
        have hwin := hrr5.wt.win x v hwf hfx
        cases hwt : s1.wt x with
        | nil =>
          rw [hwt] at hwin
          have hsk : ∀ a, ¬ Ready s1 x a := fun a q => by obtain ⟨o, rs, e, _⟩ := q; rw [hwt] at e; cases e
          have HSK := Lib.hid hsk
          have hv0 : ∃ lo lc, v = .slice lo 0 lc := by
            rcases hwin.shape with ⟨e, _⟩ | ⟨g3, o3, c3, e, _⟩
            · exact ⟨_, _, e⟩
            · exact ⟨_, _, e⟩
          obtain ⟨lo, lc, rfl⟩ := hv0
          clear hrg hbest hkx hb6 hrg5 hlt hk5 hs5 hr0 hkx5 hrr5 hxr hx0 hwin hwt hsk hfx hlx hle
          go_wp2_with fail
          go_quiet (fail)
          go_wp2_with fail
          go_roundw
          case rel => exact ⟨_, cnt3, best, rfl, HRG5.out, HB.out.skip HSK.out, HB6.out, HK5.out.drewN _⟩
          case measure =>
            have e : (w5.drewN nq).rangeLeft V1.bw w0.heap.size = w5.rangeLeft V1.bw w0.heap.size := rfl
            rw [e, HRG5.out.left_eq, HLE.out]; exact HLT.out
        | cons p rest =>
          obtain ⟨⟨txn, kind, item⟩, at_⟩ := p
          obtain ⟨_, _, ho, hot⟩ := HO1.out.keys hwt
          obtain ⟨k, hk⟩ := Int.eq_ofNat_of_zero_le ho.2.2.2.2.1
          have hk' : item = (k : Int) := hk
          subst hk'
          have hk6 : k < 6 := by have := ho.2.2.2.2.2; simp at this; omega
          rw [hwt] at hwin
          rcases hwin.shape with ⟨_, h0⟩ | ⟨g3, o3, cap3, rfl, hc3, _⟩
          · simp at h0
          have d0 : w5.cell? ⟨g3, o3, none⟩ = some (.int .i64 txn) := hwin.cell (j := 0) (by simp [heldC, opC])
          have d1 : w5.cell? ⟨g3, o3 + 1, none⟩ = some (.int .i64 kind) := hwin.cell (j := 1) (by simp [heldC, opC])
          have d2 : w5.cell? ⟨g3, o3 + 2, none⟩ = some (.int .i64 k) := hwin.cell (j := 2) (by simp [heldC, opC])
          have d3 : w5.cell? ⟨g3, o3 + 3, none⟩ = some (.int .i64 at_) := hwin.cell (j := 3) (by simp [heldC, opC])
          have HDC : Hid (∀ W, Keep (fun _ => False) w5 W → W.cell? ⟨g3, o3, none⟩ = some (.int .i64 txn) ∧ W.cell? ⟨g3, o3 + 1, none⟩ = some (.int .i64 kind) ∧ W.cell? ⟨g3, o3 + 2, none⟩ = some (.int .i64 k)) := Lib.hid fun W hk => ⟨(hk.cell (p := ⟨g3, o3, none⟩) (World.block_lt_of_cell? _ _ d0) (fun e => e)).trans d0, (hk.cell (p := ⟨g3, o3 + 1, none⟩) (World.block_lt_of_cell? _ _ d1) (fun e => e)).trans d1, (hk.cell (p := ⟨g3, o3 + 2, none⟩) (World.block_lt_of_cell? _ _ d2) (fun e => e)).trans d2⟩
          have HD3 : Hid (∀ W, Keep (fun _ => False) w5 W → W.cell? ⟨g3, o3 + 3, none⟩ = some (.int .i64 at_)) := Lib.hid fun W hk => (hk.cell (p := ⟨g3, o3 + 3, none⟩) (World.block_lt_of_cell? _ _ d3) (fun e => e)).trans d3
          have HKR : Hid (Keep (fun _ => False) w5 w5) := Lib.hid (Keep.refl _ _)
          have HRN : Hid (∀ W, Keep (fun _ => False) w5 W → Calls Tryz.prog 150 #[.pointer (some ⟨r, 0, none⟩), .agg #[.int .i64 txn, .int .i64 kind, .int .i64 k]] W (HindPost W (s1.ex k) txn kind (V1.f k) 6)) := Lib.hid fun W hk => by
            have hR := HR5.out.idle hk
            exact hinders_any (n := 6) (f := V1.f k) (x := s1.ex k) hk6 (by rw [hR.lk.blk.cell]; exact lock_map hk6) (by rw [hR.lk.blk.cell]; exact lock_ex hk6) (hR.lk.maps k hk6) (by omega)
          have hn4 : (((rest.length : Int) + 1) == 0) = false := by simp; omega
          have hn3 : ((0 : Int) < ((rest.length + 1 : Nat) : Int)) = True := eq_true (by omega)
          have hn5 : 0 < rest.length + 1 := by omega
          have HOO := Lib.hid ho; have HWT := Lib.hid hwt; clear hrg hbest hkx hb6 hrg5 hlt hk5 hs5 hr0 hkx5 hrr5 hxr hx0 hwin hwt hfx hlx hle ho hot hk d0 d1 d2 d3 hc3
          (try simp only [List.length_cons])
          go_upto_region 4 with fail
          by_cases hH : Hdd s1 (txn, kind, (k : Int))
          · have HH := Lib.hid hH
            have hkd : kind ≤ 1 := hH.1
            clear hH
            go_cut [37] from 15 to 37 (fun s37 wx => s37 = .bool true ∧ Keep (fun _ => False) w5 wx)
            case first =>
              go_region_held3 (fun W => W.cell? ⟨g3, o3, none⟩ = some (.int .i64 txn) ∧ W.cell? ⟨g3, o3 + 1, none⟩ = some (.int .i64 kind) ∧ W.cell? ⟨g3, o3 + 2, none⟩ = some (.int .i64 k)) ((refine HDC.out _ ?_; repeat (first | exact HKR.out | apply Keep.drewN | apply Keep.drew))) ((go_at_call 150; refine Calls.mono (HRN.out _ (by repeat (first | exact HKR.out | apply Keep.drewN | apply Keep.drew))) ?_; rintro e w6 ⟨v6, l, rfl, ho6, hl6, hn6, hk6'⟩; obtain ⟨lo6, lc6, rfl, _⟩ := ownsRow_shape ho6; have hp6 : 0 < l.length := (by obtain ⟨y, hy⟩ := HH.out.2; have q := (hl6 y).2 ((hind_of HR5.out HOO.out y).2 hy); exact List.length_pos_of_mem q); have HKR := Lib.hid (HKR.out.trans ((((Keep.refl (fun _ => False) w5).drewN _)).trans hk6' (fun _ _ e => e)) (fun _ _ e => e)); clear ho6 hl6 hk6'))
              go_wp2_with fail
              go_meet
              exact ⟨rfl, HKR.out⟩
            case rest =>
              obtain ⟨rfl, hk6w⟩ := hcut
              have HK6 := Lib.hid hk6w
              have HSK : Hid (∀ a, ¬ Ready s1 x a) := Lib.hid (fun a q => by
                obtain ⟨o, rs, e, hn⟩ := q
                rw [HWT.out] at e
                cases e
                exact hn HH.out)
              clear hk6w hkd
              go_wp2_with fail
              go_roundw
              case rel => exact ⟨_, cnt3, best, rfl, HRG5.out.keep HK6.out (fun e => e) (fun e => e), HB.out.skip HSK.out, HB6.out, HK5.out.trans HK6.out (fun _ _ e => e.elim)⟩
              case measure => rw [(HRG5.out.keep HK6.out (fun e => e) (fun e => e)).left_eq, HLE.out]; exact HLT.out
          · have HH := Lib.hid hH
            clear hH
            have HRX : Hid (Ready s1 x at_) := Lib.hid ⟨_, _, HWT.out, HH.out⟩
            go_cut [37] from 15 to 37 (fun s37 wx => s37 = .bool false ∧ Keep (fun _ => False) w5 wx)
            case first =>
              by_cases hkd : kind ≤ 1
              · have HKD := Lib.hid hkd
                go_region_held3 (fun W => W.cell? ⟨g3, o3, none⟩ = some (.int .i64 txn) ∧ W.cell? ⟨g3, o3 + 1, none⟩ = some (.int .i64 kind) ∧ W.cell? ⟨g3, o3 + 2, none⟩ = some (.int .i64 k)) ((refine HDC.out _ ?_; repeat (first | exact HKR.out | apply Keep.drewN | apply Keep.drew))) ((go_at_call 150; refine Calls.mono (HRN.out _ (by repeat (first | exact HKR.out | apply Keep.drewN | apply Keep.drew))) ?_; rintro e w6 ⟨v6, l, rfl, ho6, hl6, hn6, hk6'⟩; obtain ⟨lo6, lc6, rfl, _⟩ := ownsRow_shape ho6; have hp6 : ¬ 0 < l.length := (by intro hp; obtain ⟨y, hy⟩ := List.exists_mem_of_length_pos hp; exact HH.out ⟨HKD.out, y, (hind_of HR5.out HOO.out y).1 ((hl6 y).1 hy)⟩); have HKR := Lib.hid (HKR.out.trans ((((Keep.refl (fun _ => False) w5).drewN _)).trans hk6' (fun _ _ e => e)) (fun _ _ e => e)); clear ho6 hl6 hk6'))
                go_wp2_with fail
                go_meet
                exact ⟨rfl, HKR.out⟩
              · have hkd2 : 1 < kind := by omega
                have hkd3 : decide (kind ≤ 1) = false := decide_eq_false hkd
                have hq := HDC.out w5 (Keep.refl _ _)
                obtain ⟨d0, d1, d2⟩ := hq
                clear hkd
                go_quiet (fail)
                go_wp2_with fail
                go_meet
                exact ⟨rfl, HKR.out.drewN _⟩
            case rest =>
              obtain ⟨rfl, hk6w⟩ := hcut
              have HK6 := Lib.hid hk6w
              have HRW := Lib.hid (HR5.out.idle hk6w)
              have HRGW := Lib.hid (HRG5.out.keep hk6w (fun e => e) (fun e => e))
              have d3 := HD3.out wc hk6w
              clear hk6w
              by_cases hb0 : best = 0
              · subst hb0
                go_upto_region 5 with fail
                go_quiet (fail)
                go_wp2_with fail
                go_roundw
                case rel => exact ⟨_, cnt3, x, rfl, HRGW.out, HB.out.first HRX.out HX0.out, .inr HXR.out, (HK5.out.trans HK6.out (fun _ _ e => e.elim)).drewN _⟩
                case measure =>
                  have e : (wc.drewN nq).rangeLeft V1.bw w0.heap.size = wc.rangeLeft V1.bw w0.heap.size := rfl
                  rw [e, HRGW.out.left_eq, HLE.out]; exact HLT.out
              · have hbr : 1 ≤ best ∧ best ≤ 6 := by
                  rcases HB6.out with e | e
                  · exact absurd e hb0
                  · exact e
                have hrb : ∃ b, Ready s1 best b := by
                  rcases HB.out with ⟨h1, _⟩ | ⟨_, a, ha, _⟩
                  · exact absurd h1 hb0
                  · exact ⟨a, ha⟩
                obtain ⟨bt, hbt⟩ := hrb
                have HBT := Lib.hid hbt; have HBN := Lib.hid hb0
                obtain ⟨ob, rsb, eb, _⟩ := hbt
                obtain ⟨gb, oob, capb, hvb, hcb, hwb⟩ := wt_first HRW.out hbr eb
                have hbw : (kI best).wf = true := kI_wf (by omega) (by omega)
                have hlkb : ∀ n, (Instr.lookup 193 (.map (some V1.bw)) (.int .i64 best) false).run Tryz.prog (wc.drewN n) = .ok (.slice (some ⟨gb, oob, none⟩) (rsb.length + 1) capb) (wc.drewN n) := fun n => by
                  have := (HRW.out.wt.map.keep ((Keep.refl (fun _ => False) wc).drewN n) (fun e => e)).look Tryz.underlying193 zero202 hbw
                  rw [hvb] at this
                  simpa using this
                have db : wc.cell? ⟨gb, oob + 3, none⟩ = some (.int .i64 bt) := hwb.cell (j := 3) (by simp [heldC, opC])
                have c14 : wc.cell? ⟨r, 14, none⟩ = some (.map (some V1.bw)) := by rw [HRW.out.lk.blk.cell]; exact lock_rest (j := 2)
                have hnb : ((0 : Int) < ((rsb.length + 1 : Nat) : Int)) = True := eq_true (by omega)
                have hnb5 : 0 < rsb.length + 1 := by omega
                have hbb : (best == 0) = false := by simpa using hb0
                clear hvb hcb hwb eb hb0
                by_cases hlt : at_ < bt
                · have hle2 : at_ < bt := hlt
                  go_upto_region 5 with fail
                  go_quiet (fail)
                  go_wp2_with fail
                  go_roundw
                  case rel => exact ⟨_, cnt3, x, rfl, HRGW.out, HB.out.less HBT.out HBN.out HRX.out HX0.out hlt, .inr HXR.out, (HK5.out.trans HK6.out (fun _ _ e => e.elim)).drewN _⟩
                  case measure =>
                    have e : (wc.drewN nq).rangeLeft V1.bw w0.heap.size = wc.rangeLeft V1.bw w0.heap.size := rfl
                    rw [e, HRGW.out.left_eq, HLE.out]; exact HLT.out
                · have hle2 : bt ≤ at_ := by omega
                  go_upto_region 5 with fail
                  go_quiet (fail)
                  go_wp2_with fail
                  go_roundw
                  case rel => exact ⟨_, cnt3, best, rfl, HRGW.out, HB.out.more HBT.out HBN.out HRX.out hle2, HB6.out, (HK5.out.trans HK6.out (fun _ _ e => e.elim)).drewN _⟩
                  case measure =>
                    have e : (wc.drewN nq).rangeLeft V1.bw w0.heap.size = wc.rangeLeft V1.bw w0.heap.size := rfl
                    rw [e, HRGW.out.left_eq, HLE.out]; exact HLT.out
end Go.Proofs.YthdkamnclbfehaaGreatDoor
/- slices.Contains of ints; history.Valid. -/
namespace Go.Proofs.YthdkamnclbfehaaGreatDoor
set_option linter.unusedSimpArgs false
set_option linter.unusedVariables false
set_option linter.unnecessarySimpa false
open Go.RowKit
theorem rd_at {w : World} {v : Value} {l : List Int} (h : Rd w 1 v l.length (icells l)) {j : Nat} (hj : j < l.length) : ∃ g o cap y, v = .slice (some ⟨g, o, none⟩) l.length cap ∧ l[j]? = some y ∧ w.cell? ⟨g, o + j, none⟩ = some (.int .i64 y) := by
  obtain ⟨y, hy⟩ : ∃ y, l[j]? = some y := ⟨_, List.getElem?_eq_getElem hj⟩
  rcases h.2.2 with ⟨_, h0⟩ | ⟨g, o, cap, rfl, _, _, hx⟩
  · omega
  · exact ⟨g, o, cap, y, rfl, hy, hx j _ (by simp [icells, hy])⟩
set_option maxHeartbeats 1600000 in
set_option maxRecDepth 100000 in
theorem indexI_any {w : World} {v : Value} {l : List Int} {x : Int} (h : Rd w 1 v l.length (icells l)) (hl : l.length ≤ 1000000) :
    Calls Tryz.prog 146 #[v, .int .i64 x] w (fun e w' => (∃ i : Int, e = .returned (.int .i64 i) ∧ (0 ≤ i ↔ x ∈ l)) ∧ w' = w) := by
  obtain ⟨ao, cap, rfl, _⟩ := h.shape
  have H := Lib.hid h; clear h
  go_enter Tryz.func146, Tryz.ntmps146
  go_wp2_with fail
  go_loopw [8] (fun v wr => ∃ j : Nat, j ≤ l.length ∧ v = .int .i64 j ∧ x ∉ l.take j ∧ wr = w) (fun v _ => l.length - (intOf v).toNat)
  case atStart => exact ⟨0, by omega, rfl, by simp, rfl⟩
  case round =>
    obtain ⟨j, hj, rfl, hx, rfl⟩ := hrel
    have HX := Lib.hid hx; clear hx
    by_cases hjl : j < l.length
    · obtain ⟨g, o, c, y, hv, hy, hc⟩ := rd_at H.out hjl
      injection hv with h1 h2 h3
      subst h1
      have hj1 : ((j : Int) < (l.length : Int)) = True := eq_true (by omega)
      have hj0 : ((0 : Int) ≤ (j : Int)) = True := eq_true (by omega)
      have hw : IntKind.i64.wrap ((j : Int) + 1) = ((j + 1 : Nat) : Int) := by rw [show ((j : Int) + 1) = ((j + 1 : Nat) : Int) by omega]; exact IntWalk.i64_in _ (by omega)
      have HY := Lib.hid hy; have HJL := Lib.hid hjl; clear h2 h3 hy hjl
      cases hxy : (x == y) with
      | true =>
        have hxy' : x = y := by simpa using hxy
        have HXY := Lib.hid hxy'
        clear hxy'
        go_wp2_with fail
        go_ret
        exact ⟨⟨j, rfl, ⟨fun _ => by rw [HXY.out]; exact List.mem_of_getElem? HY.out, fun _ => by omega⟩⟩, rfl⟩
      | false =>
        have hxy' : x ≠ y := by simpa using hxy
        have HXY := Lib.hid hxy'
        clear hxy'
        go_wp2_with fail
        go_roundw
        case rel =>
          refine ⟨j + 1, by have := HJL.out; omega, rfl, ?_, (by first | rfl | trivial)⟩
          rw [List.take_add_one, HY.out]
          intro hm
          rcases List.mem_append.1 hm with e | e
          · exact HX.out e
          · simp at e; exact HXY.out e
        case measure => have := HJL.out; simp [intOf]; omega
    · have hj1 : ((j : Int) < (l.length : Int)) = False := eq_false (by omega)
      have hjj : j = l.length := by omega
      have HJJ := Lib.hid hjj; clear hjj hjl
      go_wp2_with fail
      go_ret
      refine ⟨⟨-1, rfl, ⟨fun h => by omega, fun h => ?_⟩⟩, rfl⟩
      have := HX.out
      rw [HJJ.out, List.take_length] at this
      exact absurd h this
set_option maxHeartbeats 1600000 in
set_option maxRecDepth 100000 in
theorem containsI_any {w : World} {v : Value} {l : List Int} {x : Int} (h : Rd w 1 v l.length (icells l)) (hl : l.length ≤ 1000000) :
    Calls Tryz.prog 108 #[v, .int .i64 x] w (fun e w' => (∃ b : Bool, e = .returned (.bool b) ∧ (b = true ↔ x ∈ l)) ∧ w' = w) := by
  obtain ⟨ao, cap, rfl, _⟩ := h.shape
  have H := Lib.hid (indexI_any (x := x) h hl); clear h
  go_enter Tryz.func108, Tryz.ntmps108
  go_wp2_with (go_at_call 146; refine Calls.mono H.out ?_; rintro e w' ⟨⟨i, rfl, hi⟩, rfl⟩; have HI := Lib.hid hi; clear hi)
  go_ret
  exact ⟨⟨_, rfl, by rw [← HI.out]; simp⟩, rfl⟩
def endsB (o : LOp) : Bool := decide (o.2.1 = 2) || decide (o.2.1 = 3)
def opOkB (o : LOp) : Bool := decide (1 ≤ o.1 ∧ o.1 ≤ 6 ∧ 0 ≤ o.2.1 ∧ o.2.1 ≤ 3 ∧ 0 ≤ o.2.2 ∧ o.2.2 ≤ 5) && !(endsB o && o.2.2 != 0)
def validL : (Int → Bool) → List LOp → Bool
  | _, [] => true
  | ended, o :: l => opOkB o && !ended o.1 && validL (fun y => if y = o.1 then endsB o else ended y) l
def validHB (h : List LOp) : Bool := decide (h.length ≤ 40) && validL (fun _ => false) h
theorem validL_ok : ∀ (l : List LOp) (e : Int → Bool), validL e l = true → ∀ o ∈ l, OpOK o := by
  intro l
  induction l with
  | nil => intro e _ o ho; cases ho
  | cons p l ih =>
    intro e h o ho
    unfold validL at h
    simp only [Bool.and_eq_true] at h
    rcases List.mem_cons.1 ho with e1 | e1
    · subst e1
      have := h.1.1
      unfold opOkB at this
      simp only [Bool.and_eq_true, decide_eq_true_eq] at this
      obtain ⟨⟨q1, q2, q3, q4, q5, q6⟩, _⟩ := this
      exact ⟨q1, q2, q3, q4, q5, q6⟩
    · exact ih _ h.2 o e1
def endF (ended : Int → Bool) (dom : Int → Bool) : Int → Option Value := fun y => if dom y = true then some (.bool (ended y)) else none
theorem opsC_at (l : List LOp) {j : Nat} {o : LOp} (h : l[j]? = some o) : (opsC l)[3 * j]? = some (.int .i64 o.1) ∧ (opsC l)[3 * j + 1]? = some (.int .i64 o.2.1) ∧ (opsC l)[3 * j + 2]? = some (.int .i64 o.2.2) := by
  induction l generalizing j with
  | nil => simp at h
  | cons p l ih =>
    cases j with
    | zero => simp at h; subst h; simp [opsC, opC]
    | succ j =>
      simp at h
      obtain ⟨h1, h2, h3⟩ := ih h
      have e : opsC (p :: l) = opC p ++ opsC l := by simp [opsC]
      have hl : (opC p).length = 3 := rfl
      rw [e]
      refine ⟨?_, ?_, ?_⟩
      · rw [List.getElem?_append_right (by rw [hl]; omega), hl, show 3 * (j + 1) - 3 = 3 * j by omega]; exact h1
      · rw [List.getElem?_append_right (by rw [hl]; omega), hl, show 3 * (j + 1) + 1 - 3 = 3 * j + 1 by omega]; exact h2
      · rw [List.getElem?_append_right (by rw [hl]; omega), hl, show 3 * (j + 1) + 2 - 3 = 3 * j + 2 by omega]; exact h3
theorem rd_op {w : World} {v : Value} {l : List LOp} (h : Rd w 3 v l.length (opsC l)) {j : Nat} (hj : j < l.length) : ∃ g o cap p, v = .slice (some ⟨g, o, none⟩) l.length cap ∧ l[j]? = some p ∧
    w.cell? ⟨g, o + 3 * j, none⟩ = some (.int .i64 p.1) ∧ w.cell? ⟨g, o + (3 * j + 1), none⟩ = some (.int .i64 p.2.1) ∧ w.cell? ⟨g, o + (3 * j + 2), none⟩ = some (.int .i64 p.2.2) := by
  obtain ⟨p, hp⟩ : ∃ p, l[j]? = some p := ⟨_, List.getElem?_eq_getElem hj⟩
  obtain ⟨h1, h2, h3⟩ := opsC_at l hp
  rcases h.2.2 with ⟨_, h0⟩ | ⟨g, o, cap, rfl, _, _, hx⟩
  · omega
  · exact ⟨g, o, cap, p, rfl, hp, hx _ _ h1, hx _ _ h2, hx _ _ h3⟩
end Go.Proofs.YthdkamnclbfehaaGreatDoor
/- history.Valid, walked. -/
namespace Go.Proofs.YthdkamnclbfehaaGreatDoor
set_option linter.unusedSimpArgs false
set_option linter.unusedVariables false
set_option linter.unnecessarySimpa false
open Go.RowKit
set_option maxHeartbeats 4000000 in
set_option maxRecDepth 100000 in
theorem validH_any {w : World} {v : Value} {h : List LOp} (hr : Rd w 3 v h.length (opsC h)) (hl : h.length ≤ 1000000) :
    Calls Tryz.prog 107 #[v] w (fun e w' => e = .returned (.bool (validHB h)) ∧ Keep (fun _ => False) w w') := by
  obtain ⟨ao, cap, rfl, _⟩ := hr.shape
  have HR := Lib.hid hr; clear hr
  have hmm := @run_makeMap Tryz.prog
  by_cases h40 : h.length ≤ 40
  · have hd : decide ((40 : Int) < (h.length : Int)) = false := decide_eq_false (by omega)
    have hd2 : ¬ 40 < h.length := by omega
    have HVB : Hid (validHB h = validL (fun _ => false) h) := Lib.hid (by unfold validHB; rw [decide_eq_true h40]; rfl)
    go_enter Tryz.func107, Tryz.ntmps107
    go_wp2_with fail
    go_loopw [13] (fun v wr => ∃ (j : Nat) (ended dom : Int → Bool), j ≤ h.length ∧ v = .int .i64 j ∧ MapAt wr w.heap.size 6 (endF ended dom) ∧ (∀ y, dom y = false → ended y = false) ∧ (∀ y, dom y = true → 1 ≤ y ∧ y ≤ 6) ∧ validL (fun _ => false) h = validL ended (h.drop j) ∧ Keep (fun _ => False) w wr) (fun v _ => h.length - (intOf v).toNat)
    case atStart =>
      exact ⟨0, fun _ => false, fun _ => false, by omega, rfl, (MapAt.made w).mono (Nat.zero_le _), fun _ _ => rfl, fun y h => (by cases h), rfl, (Keep.refl _ _).alloc _⟩
    case round =>
      obtain ⟨j, ended, dom, hj, rfl, hm, hd0, hd1, hv, hk⟩ := hrel
      have HM := Lib.hid hm; have HD0 := Lib.hid hd0; have HD1 := Lib.hid hd1; have HV := Lib.hid hv; have HK := Lib.hid hk; clear hm hd0 hd1 hv hk
      by_cases hjl : j < h.length
      · obtain ⟨g, o, c, p, hvv, hp, e0, e1, e2⟩ := rd_op (HR.out.keep HK.out (fun _ _ e => e)) hjl
        obtain ⟨txn, kind, item⟩ := p
        injection hvv with h1 h2 h3
        subst h1
        have hj1 : ((j : Int) < (h.length : Int)) = True := eq_true (by omega)
        have hj0 : ((0 : Int) ≤ (j : Int)) = True := eq_true (by omega)
        have hw : IntKind.i64.wrap ((j : Int) + 1) = ((j + 1 : Nat) : Int) := by rw [show ((j : Int) + 1) = ((j + 1 : Nat) : Int) by omega]; exact IntWalk.i64_in _ (by omega)
        have f0 : wr.cell? ⟨g, o + j * 3, none⟩ = some (.int .i64 txn) := by rw [Nat.mul_comm j 3]; exact e0
        have f1 : wr.cell? ⟨g, o + j * 3 + 1, none⟩ = some (.int .i64 kind) := by rw [Nat.mul_comm j 3, Nat.add_assoc]; exact e1
        have f2 : wr.cell? ⟨g, o + j * 3 + 2, none⟩ = some (.int .i64 item) := by rw [Nat.mul_comm j 3, Nat.add_assoc]; exact e2
        have HP : Hid (h.drop j = (txn, kind, item) :: h.drop (j + 1)) := Lib.hid (by
          rw [List.drop_eq_getElem_cons hjl]; congr 1
          rw [List.getElem?_eq_getElem hjl] at hp; exact Option.some.inj hp)
        have HJL := Lib.hid hjl; clear hp h2 h3 hjl e0 e1 e2
        go_upto_region 7 with fail
        obtain ⟨w1, hw1⟩ : ∃ w1, w1 = wr.alloc (.cells #[.int .i64 txn, .int .i64 kind, .int .i64 item] 146) := ⟨_, rfl⟩
        have HK1 : Hid (Keep (fun _ => False) wr w1) := Lib.hid (by rw [hw1]; exact (Keep.refl _ _).alloc _)
        have HB1 : Hid (Blk w1 wr.heap.size #[.int .i64 txn, .int .i64 kind, .int .i64 item] 146) := Lib.hid (by rw [hw1]; exact Blk.new _ _ _)
        have c0 : w1.cell? ⟨wr.heap.size, 0, none⟩ = some (.int .i64 txn) := HB1.out.cell 0
        have c1 : w1.cell? ⟨wr.heap.size, 1, none⟩ = some (.int .i64 kind) := HB1.out.cell 1
        have c2 : w1.cell? ⟨wr.heap.size, 2, none⟩ = some (.int .i64 item) := HB1.out.cell 2
        rw [← hw1]
        clear hw1 f0 f1 f2
        go_cut [6] from 17 to 24 (fun s6 wx => s6 = .bool (endsB (txn, kind, item)) ∧ wx = w1)
        case first =>
          by_cases q2 : kind = 2
          · have z : (kind == 2) = true := by simpa using q2
            have HE : Hid (endsB (txn, kind, item) = true) := Lib.hid (by simp [endsB, q2])
            clear q2
            go_wp2_with fail
            go_meet
            exact ⟨by rw [HE.out], rfl⟩
          · have z : (kind == 2) = false := by simpa using q2
            by_cases q3 : kind = 3
            · have z3 : (kind == 3) = true := by simpa using q3
              have HE : Hid (endsB (txn, kind, item) = true) := Lib.hid (by simp [endsB, q3])
              clear q2 q3
              go_wp2_with fail
              go_meet
              exact ⟨by rw [HE.out], rfl⟩
            · have z3 : (kind == 3) = false := by simpa using q3
              have HE : Hid (endsB (txn, kind, item) = false) := Lib.hid (by simp [endsB, q2, q3])
              clear q2 q3
              go_wp2_with fail
              go_meet
              exact ⟨by rw [HE.out], rfl⟩
        case rest =>
          obtain ⟨rfl, rfl⟩ := hcut
          go_upto_region 8 with fail
          obtain ⟨en, hen⟩ : ∃ en, en = endsB (txn, kind, item) := ⟨_, rfl⟩
          have HEN := Lib.hid hen
          rw [← hen]
          clear hen
          go_cut [6, 66] from 25 to 66 (fun s6 s66 wx => s6 = .bool en ∧ s66 = .bool (!(opOkB (txn, kind, item) && !ended txn)) ∧ wx = wc)
          case first =>
            by_cases t0 : txn < 1
            · have u0 : decide (txn < 1) = true := decide_eq_true t0
              have hb : opOkB (txn, kind, item) = false := by
                show (decide (1 ≤ txn ∧ txn ≤ 6 ∧ 0 ≤ kind ∧ kind ≤ 3 ∧ 0 ≤ item ∧ item ≤ 5) && _) = false
                rw [decide_eq_false (by omega)]; rfl
              have HB := Lib.hid hb; clear hb
              go_wp2_with fail
              go_meet
              exact ⟨rfl, by rw [HB.out]; rfl, rfl⟩
            · have u0 : decide (txn < 1) = false := decide_eq_false t0
              by_cases t1 : 6 < txn
              · have u1 : decide (6 < txn) = true := decide_eq_true t1
                have hb : opOkB (txn, kind, item) = false := by
                  show (decide (1 ≤ txn ∧ txn ≤ 6 ∧ 0 ≤ kind ∧ kind ≤ 3 ∧ 0 ≤ item ∧ item ≤ 5) && _) = false
                  rw [decide_eq_false (by omega)]; rfl
                have HB := Lib.hid hb; clear hb
                go_wp2_with fail
                go_meet
                exact ⟨rfl, by rw [HB.out]; rfl, rfl⟩
              · have u1 : decide (6 < txn) = false := decide_eq_false t1
                by_cases t2 : kind < 0
                · have u2 : decide (kind < 0) = true := decide_eq_true t2
                  have hb : opOkB (txn, kind, item) = false := by
                    show (decide (1 ≤ txn ∧ txn ≤ 6 ∧ 0 ≤ kind ∧ kind ≤ 3 ∧ 0 ≤ item ∧ item ≤ 5) && _) = false
                    rw [decide_eq_false (by omega)]; rfl
                  have HB := Lib.hid hb; clear hb
                  go_wp2_with fail
                  go_meet
                  exact ⟨rfl, by rw [HB.out]; rfl, rfl⟩
                · have u2 : decide (kind < 0) = false := decide_eq_false t2
                  by_cases t3 : 3 < kind
                  · have u3 : decide (3 < kind) = true := decide_eq_true t3
                    have hb : opOkB (txn, kind, item) = false := by
                      show (decide (1 ≤ txn ∧ txn ≤ 6 ∧ 0 ≤ kind ∧ kind ≤ 3 ∧ 0 ≤ item ∧ item ≤ 5) && _) = false
                      rw [decide_eq_false (by omega)]; rfl
                    have HB := Lib.hid hb; clear hb
                    go_wp2_with fail
                    go_meet
                    exact ⟨rfl, by rw [HB.out]; rfl, rfl⟩
                  · have u3 : decide (3 < kind) = false := decide_eq_false t3
                    by_cases t4 : item < 0
                    · have u4 : decide (item < 0) = true := decide_eq_true t4
                      have hb : opOkB (txn, kind, item) = false := by
                        show (decide (1 ≤ txn ∧ txn ≤ 6 ∧ 0 ≤ kind ∧ kind ≤ 3 ∧ 0 ≤ item ∧ item ≤ 5) && _) = false
                        rw [decide_eq_false (by omega)]; rfl
                      have HB := Lib.hid hb; clear hb
                      go_wp2_with fail
                      go_meet
                      exact ⟨rfl, by rw [HB.out]; rfl, rfl⟩
                    · have u4 : decide (item < 0) = false := decide_eq_false t4
                      by_cases t5 : 6 ≤ item
                      · have u5 : decide (6 ≤ item) = true := decide_eq_true t5
                        have hb : opOkB (txn, kind, item) = false := by
                          show (decide (1 ≤ txn ∧ txn ≤ 6 ∧ 0 ≤ kind ∧ kind ≤ 3 ∧ 0 ≤ item ∧ item ≤ 5) && _) = false
                          rw [decide_eq_false (by omega)]; rfl
                        have HB := Lib.hid hb; clear hb
                        go_wp2_with fail
                        go_meet
                        exact ⟨rfl, by rw [HB.out]; rfl, rfl⟩
                      · have u5 : decide (6 ≤ item) = false := decide_eq_false t5
                        have hrange : decide (1 ≤ txn ∧ txn ≤ 6 ∧ 0 ≤ kind ∧ kind ≤ 3 ∧ 0 ≤ item ∧ item ≤ 5) = true := decide_eq_true (by omega)
                        have hlk := (HM.out.keep HK1.out (fun e => e)).look Tryz.underlying194 zero4 (kI_wf (t := txn) (by omega) (by omega))
                        have hval : (endF ended dom txn).getD (.bool false) = .bool (ended txn) := by
                          unfold endF
                          cases hdm : dom txn with
                          | true => simp
                          | false => simp [HD0.out txn hdm]
                        rw [hval] at hlk
                        cases en with
                        | true =>
                          by_cases ti : item = 0
                          · have ui : (item != 0) = false := by simp [ti]
                            have hb : opOkB (txn, kind, item) = true := by unfold opOkB; rw [hrange, ← HEN.out]; simp [ti]
                            have HB := Lib.hid hb; clear hb hrange hval
                            (try clear ti)
                            go_wp2_with fail
                            go_meet
                            exact ⟨rfl, by rw [HB.out]; simp, rfl⟩
                          · have ui : (item != 0) = true := by simpa using ti
                            have hb : opOkB (txn, kind, item) = false := by unfold opOkB; rw [← HEN.out]; simp [ti]
                            have HB := Lib.hid hb; clear hb
                            go_wp2_with fail
                            go_meet
                            exact ⟨rfl, by rw [HB.out]; rfl, rfl⟩
                        | false =>
                          have hb : opOkB (txn, kind, item) = true := by unfold opOkB; rw [hrange, ← HEN.out]; rfl
                          have HB := Lib.hid hb; clear hb hrange hval
                          (try clear ti)
                          go_wp2_with fail
                          go_meet
                          exact ⟨rfl, by rw [HB.out]; simp, rfl⟩
          case rest =>
            obtain ⟨rfl, rfl, rfl⟩ := hcut
            cases hbad : (opOkB (txn, kind, item) && !ended txn) with
            | false =>
              have HBAD := Lib.hid hbad; clear hbad
              go_wp2_with fail
              go_ret
              refine ⟨?_, HK.out.trans HK1.out (fun _ _ e => e)⟩
              rw [HVB.out, HV.out, HP.out]
              unfold validL
              rw [HBAD.out]; rfl
            | true =>
              have HBAD := Lib.hid hbad
              have hok : opOkB (txn, kind, item) = true := by
                cases hq : opOkB (txn, kind, item) with
                | true => rfl
                | false => rw [hq] at hbad; cases hbad
              have htr : 1 ≤ txn ∧ txn ≤ 6 := by
                unfold opOkB at hok
                simp only [Bool.and_eq_true, decide_eq_true_eq] at hok
                exact ⟨hok.1.1, hok.1.2.1⟩
              have HTR := Lib.hid htr
              obtain ⟨w5, hrun, hm5, hk5, _⟩ := (HM.out.keep HK1.out (fun e => e)).store Tryz.underlying194 (by unfold maxLen; omega) (kI_wf (t := txn) (by omega) (by omega)) (.bool en)
              have HM5 := Lib.hid hm5
              have HK5 := Lib.hid (HK.out.trans ((HK1.out.mono (T := fun k => k = w.heap.size) (fun _ _ e => e.elim)).trans hk5 (fun _ _ e => e)) (fun i hi e => by have e' : i = w.heap.size := e; omega))
              clear hbad hok hm5 hk5 htr
              go_wp2_with fail
              go_roundw
              case rel =>
                refine ⟨j + 1, (fun y => if y = txn then en else ended y), (fun y => if y = txn then true else dom y), by have := HJL.out; omega, rfl, ?_, fun y q => ?_, fun y q => ?_, ?_, HK5.out⟩
                · have ef : (fun y => if y = txn then some (.bool en) else endF ended dom y) = endF (fun y => if y = txn then en else ended y) (fun y => if y = txn then true else dom y) := by
                    funext y; by_cases e : y = txn <;> simp [endF, e]
                  have h5 := HM5.out
                  rw [ef] at h5
                  refine h5.tight (fun y hy q => ?_)
                  by_cases e : y = txn
                  · rw [e]; exact HTR.out
                  · simp only [endF, if_neg e] at q
                    cases hdy : dom y with
                    | true => exact HD1.out y hdy
                    | false => simp [hdy] at q
                · by_cases e : y = txn
                  · simp [e] at q
                  · simp only [if_neg e] at q ⊢; exact HD0.out y q
                · by_cases e : y = txn
                  · rw [e]; exact HTR.out
                  · simp only [if_neg e] at q; exact HD1.out y q
                · rw [HV.out, HP.out]
                  conv => lhs; unfold validL
                  rw [HBAD.out, HEN.out]; rfl
              case measure => have := HJL.out; simp [intOf]; omega
      · have hj1 : ((j : Int) < (h.length : Int)) = False := eq_false (by omega)
        have HJJ : Hid (h.drop j = []) := Lib.hid (List.drop_eq_nil_of_le (by omega))
        clear hjl
        go_wp2_with fail
        go_ret
        refine ⟨?_, HK.out⟩
        rw [HVB.out, HV.out, HJJ.out]; rfl
  · have hd2 : 40 < h.length := by omega
    have HVB : Hid (validHB h = false) := Lib.hid (by unfold validHB; rw [decide_eq_false h40]; rfl)
    clear h40
    go_enter Tryz.func107, Tryz.ntmps107
    go_wp2_with fail
    go_ret
    exact ⟨by rw [HVB.out]; rfl, (Keep.refl _ _).alloc _⟩
end Go.Proofs.YthdkamnclbfehaaGreatDoor
/- history.Lock, in plain words. -/
namespace Go.Proofs.YthdkamnclbfehaaGreatDoor
set_option linter.unusedSimpArgs false
set_option linter.unusedVariables false
set_option linter.unnecessarySimpa false
open Go.RowKit
theorem tot_do {s : LS} {t at_ : Int} {o : LOp} {rest : List (LOp × Int)} (ht : 1 ≤ t ∧ t ≤ 6) (e : s.wt t = (o, at_) :: rest) : tot (doS s t o rest) ≤ tot s :=
  tot_upd (s.done ++ [o]) (updW s.wt t rest) s ht rest rfl (by rw [e]; simp; omega) _ _ _
theorem tot_abort {s : LS} {t : Int} {p : LOp × Int} {rest : List (LOp × Int)} (ht : 1 ≤ t ∧ t ≤ 6) (e : s.wt t = p :: rest) : tot (abortS s t) ≤ tot s :=
  tot_upd (s.done ++ [(t, 3, 0)]) (updW s.wt t []) s ht [] rfl (by rw [e]; simp) _ _ _
theorem goOnS_tot : ∀ (n : Nat) (s : LS) (t : Int), 1 ≤ t ∧ t ≤ 6 → tot (goOnS n s t).1 ≤ tot s := by
  intro n
  induction n with
  | zero => intro s t _; exact Nat.le_refl _
  | succ n ih =>
    intro s t ht
    cases e : s.wt t with
    | nil => rw [goOnS_nil e]; exact Nat.le_refl _
    | cons p rest =>
      obtain ⟨o, a⟩ := p
      by_cases hh : Hdd s o
      · by_cases hr : Reach s t t
        · rw [goOnS_abort e hh hr]; exact tot_abort ht e
        · rw [goOnS_wait e hh hr]; exact Nat.le_refl _
      · rw [goOnS_do e hh]; exact Nat.le_trans (ih _ t ht) (tot_do ht e)
theorem RetryR.tot {s s' : LS} (h : RetryR s s') (hok : Ok s) : Go.Proofs.YthdkamnclbfehaaGreatDoor.tot s' ≤ Go.Proofs.YthdkamnclbfehaaGreatDoor.tot s := by
  induction h with
  | stop _ => exact Nat.le_refl _
  | go hr _ _ ih =>
    obtain ⟨o, rest, e, _⟩ := hr
    obtain ⟨h1, h2, _⟩ := hok.keys e
    exact Nat.le_trans (ih (goOnT_ok hok _)) (goOnS_tot _ _ _ ⟨h1, h2⟩)
def s0L : LS := ⟨[], [], fun _ => 0, fun _ _ => false, fun _ => []⟩
def enq (s : LS) (o : LOp) (i : Int) : LS := { s with wt := updW s.wt o.1 (s.wt o.1 ++ [(o, i)]) }
inductive LStep (s : LS) (o : LOp) (i : Int) : LS → Prop
  | gone : o.1 ∈ s.ab → LStep s o i s
  | wait : o.1 ∉ s.ab → s.wt o.1 ≠ [] → LStep s o i (enq s o i)
  | go : o.1 ∉ s.ab → s.wt o.1 = [] → (goOnS ((enq s o i).wt o.1).length (enq s o i) o.1).2 = false → LStep s o i (goOnT (enq s o i) o.1)
  | re {s' : LS} : o.1 ∉ s.ab → s.wt o.1 = [] → (goOnS ((enq s o i).wt o.1).length (enq s o i) o.1).2 = true → RetryR (goOnT (enq s o i) o.1) s' → LStep s o i s'
inductive LRun : Nat → LS → List LOp → LS → Prop
  | nil {i : Nat} {s : LS} : LRun i s [] s
  | cons {i : Nat} {s s1 s2 : LS} {o : LOp} {l : List LOp} : LStep s o (i : Int) s1 → LRun (i + 1) s1 l s2 → LRun i s (o :: l) s2
theorem LRun.snoc {i : Nat} {s s1 s2 : LS} {l : List LOp} (h : LRun i s l s1) : ∀ {o : LOp}, LStep s1 o ((i + l.length : Nat) : Int) s2 → LRun i s (l ++ [o]) s2 := by
  induction h with
  | nil => intro o h2; exact .cons (by simpa using h2) .nil
  | @cons i s s1 s2 o1 l h1 h3 ih =>
    intro o h2
    refine .cons h1 (ih ?_)
    have e : i + 1 + l.length = i + (o1 :: l).length := by simp; omega
    rw [e]; exact h2
theorem Ok.enq {s : LS} (h : Ok s) {o : LOp} (ho : OpOK o) (i : Int) (ht : Go.Proofs.YthdkamnclbfehaaGreatDoor.tot s ≤ 99) : Ok (Go.Proofs.YthdkamnclbfehaaGreatDoor.enq s o i) ∧ Go.Proofs.YthdkamnclbfehaaGreatDoor.tot (Go.Proofs.YthdkamnclbfehaaGreatDoor.enq s o i) ≤ Go.Proofs.YthdkamnclbfehaaGreatDoor.tot s + 1 := by
  have hx : o.1 = 1 ∨ o.1 = 2 ∨ o.1 = 3 ∨ o.1 = 4 ∨ o.1 = 5 ∨ o.1 = 6 := by have := ho.1; have := ho.2.1; omega
  have hto : Go.Proofs.YthdkamnclbfehaaGreatDoor.tot (Go.Proofs.YthdkamnclbfehaaGreatDoor.enq s o i) ≤ Go.Proofs.YthdkamnclbfehaaGreatDoor.tot s + 1 := by
    unfold Go.Proofs.YthdkamnclbfehaaGreatDoor.tot Go.Proofs.YthdkamnclbfehaaGreatDoor.enq updW
    rcases hx with e | e | e | e | e | e <;> rw [e] <;> simp <;> omega
  refine ⟨⟨fun x p hp => ?_, by omega, h.ab⟩, hto⟩
  have hp' : p ∈ updW s.wt o.1 (s.wt o.1 ++ [(o, i)]) x := hp
  unfold updW at hp'
  by_cases e : x = o.1
  · rw [if_pos e] at hp'
    rcases List.mem_append.1 hp' with q | q
    · rw [e]; exact h.ops _ p q
    · simp at q; rw [q, e]; exact ⟨ho, rfl⟩
  · rw [if_neg e] at hp'; exact h.ops x p hp'
theorem LStep.ok {s s' : LS} {o : LOp} {i : Int} (h : LStep s o i s') (hok : Ok s) (ho : OpOK o) (ht : Go.Proofs.YthdkamnclbfehaaGreatDoor.tot s ≤ 99) : Ok s' ∧ Go.Proofs.YthdkamnclbfehaaGreatDoor.tot s' ≤ Go.Proofs.YthdkamnclbfehaaGreatDoor.tot s + 1 := by
  obtain ⟨h1, h2⟩ := hok.enq ho i ht
  have hx : 1 ≤ o.1 ∧ o.1 ≤ 6 := ⟨ho.1, ho.2.1⟩
  cases h with
  | gone _ => exact ⟨hok, by omega⟩
  | wait _ _ => exact ⟨h1, h2⟩
  | go _ _ _ => exact ⟨goOnT_ok h1 _, Nat.le_trans (goOnS_tot _ _ _ hx) h2⟩
  | re _ _ _ hr => exact ⟨hr.ok (goOnT_ok h1 _), Nat.le_trans (hr.tot (goOnT_ok h1 _)) (Nat.le_trans (goOnS_tot _ _ _ hx) h2)⟩
theorem ok_s0 : Ok s0L ∧ Go.Proofs.YthdkamnclbfehaaGreatDoor.tot s0L = 0 := ⟨⟨fun x p h => (by cases h), by unfold Go.Proofs.YthdkamnclbfehaaGreatDoor.tot s0L; simp, Nat.le_refl _⟩, rfl⟩
end Go.Proofs.YthdkamnclbfehaaGreatDoor
/- history.Lock, walked. -/
namespace Go.Proofs.YthdkamnclbfehaaGreatDoor
set_option linter.unusedSimpArgs false
set_option linter.unusedVariables false
set_option linter.unnecessarySimpa false
open Go.RowKit
theorem info204 : (Tryz.prog.info? 204).map (fun i => (i.zero, i.size, i.bytes)) = some (some (.agg #[.int .i64 0, .int .i64 0, .int .i64 0, .int .i64 0]), 4, 32) := by kernel_rfl
theorem wt_val {base : Nat} {w : World} {r : Nat} {V : RunV} {s : LS} (h : RunAt base w r V s) {t : Int} (ht : 1 ≤ t ∧ t ≤ 6) : ∃ ao cap, (V.vw t).getD (.slice none 0 0) = .slice ao (s.wt t).length cap ∧ Win w base 204 4 (.slice ao (s.wt t).length cap) (s.wt t).length (heldC (s.wt t)) ∧
    ∀ g, (Value.slice ao (s.wt t).length cap).ownBlock = some g → ∃ v0, V.vw t = some v0 ∧ v0.ownBlock = some g := by
  have htw : (kI t).wf = true := kI_wf (by omega) (by omega)
  cases hv : V.vw t with
  | none =>
    have e := h.wt.emp t htw hv
    rw [e]
    exact ⟨none, 0, rfl, Win.nil _ _ _ _, fun g hg => by cases hg⟩
  | some v =>
    have hw := h.wt.win t v htw hv
    rcases hw.shape with ⟨e, h0⟩ | ⟨g, o, cap, e, _⟩
    · refine ⟨none, 0, by rw [Option.getD_some, e, h0], ?_, fun g hg => by cases hg⟩
      rw [e] at hw; rw [h0] at hw ⊢; exact hw
    · refine ⟨_, cap, by rw [Option.getD_some, e], by rw [e] at hw; exact hw, fun g' hg' => ⟨v, rfl, by rw [e]; exact hg'⟩⟩
def LockPost (w : World) (h : List LOp) (e : Ending) (w' : World) : Prop :=
  Keep (fun _ => False) w w' ∧ ((validHB h = false ∧ e = .returned (.tuple #[.slice none 0 0, .slice none 0 0, .int .i64 2])) ∨
    (validHB h = true ∧ ∃ s' vd va, e = .returned (.tuple #[vd, va, .int .i64 0]) ∧ LRun 0 s0L h s' ∧ Ok s' ∧ w'.ownsRow w.heap.size 146 3 vd s'.done.length (opsC s'.done)))
theorem run_start (w w1 : World) (hw : w.heap.size ≤ w1.heap.size) : RunAt w.heap.size ((w1.alloc (.map #[] 0)).alloc (.cells (lockCells (fun _ => none) (fun _ => 0) [.slice none 0 0, .slice none 0 0, .map (some w1.heap.size)]) 200)) (w1.heap.size + 1) ⟨fun _ => none, fun _ _ => none, .slice none 0 0, .slice none 0 0, w1.heap.size, fun _ => none⟩ s0L := by
  have hb := Blk.new (w1.alloc (.map #[] 0)) (lockCells (fun _ => none) (fun _ => 0) [.slice none 0 0, .slice none 0 0, .map (some w1.heap.size)]) 200
  rw [show (w1.alloc (.map #[] 0)).heap.size = w1.heap.size + 1 by simp] at hb
  refine ⟨⟨hb, fun i _ => .inl ⟨rfl, rfl⟩, fun i j b _ _ e => (by cases e)⟩, fun i y _ _ => rfl, fun i y _ _ e => (by cases e), fun i _ => ⟨Int.le_refl _, by show (0 : Int) ≤ 6; decide⟩, World.ownsRow_nil _ _ _ _, World.ownsRow_nil _ _ _ _, ⟨?_, hw, fun t _ _ => rfl, fun t v _ e => (by cases e), fun t u v v' g _ _ e => (by cases e), fun t v _ e => (by cases e)⟩, fun i _ e => (by cases e), by omega, fun i b _ e => (by cases e)⟩
  exact ((MapAt.made w1).mono (Nat.zero_le 6)).keep ((Keep.refl (fun _ => False) _).alloc _) (fun e => e)
set_option maxHeartbeats 8000000 in
set_option maxRecDepth 100000 in
theorem lock_any {w : World} {v : Value} {h : List LOp} (hr : Rd w 3 v h.length (opsC h)) (hl : h.length ≤ 1000000) : Calls Tryz.prog 73 #[v] w (LockPost w h) := by
  obtain ⟨ao, cap, rfl, _⟩ := hr.shape
  have HR := Lib.hid hr
  have HVL := Lib.hid (validH_any hr hl)
  clear hr
  have hmm := @run_makeMap Tryz.prog
  cases hvb : validHB h with
  | false =>
    have HVB := Lib.hid hvb; clear hvb
    go_enter Tryz.func73, Tryz.ntmps73
    go_wp2_with (go_at_call 107; refine Calls.mono HVL.out ?_; rintro e w1 ⟨rfl, hk1⟩; rw [HVB.out]; have HK1 := Lib.hid hk1; clear hk1)
    go_ret3
    exact ⟨HK1.out, .inl ⟨HVB.out, rfl⟩⟩
  | true =>
    have HVB := Lib.hid hvb
    have h40 : h.length ≤ 40 := by
      unfold validHB at hvb
      simp only [Bool.and_eq_true, decide_eq_true_eq] at hvb
      exact hvb.1
    have hall : ∀ o ∈ h, OpOK o := by
      unfold validHB at hvb
      simp only [Bool.and_eq_true, decide_eq_true_eq] at hvb
      exact validL_ok h _ hvb.2
    have HALL := Lib.hid hall; clear hvb hall hl
    go_enter Tryz.func73, Tryz.ntmps73
    go_wp2_with (go_at_call 107; refine Calls.mono HVL.out ?_; rintro e w1 ⟨rfl, hk1⟩; rw [HVB.out]; have HK1 := Lib.hid hk1; clear hk1)
    have hrs := run_start w w1 HK1.out.size
    obtain ⟨w2, hw2⟩ : ∃ w2, w2 = (w1.alloc (.map #[] 0)).alloc (.cells (lockCells (fun _ => none) (fun _ => 0) [.slice none 0 0, .slice none 0 0, .map (some w1.heap.size)]) 200) := ⟨_, rfl⟩
    have hk2 : Keep (fun _ => False) w w2 := by rw [hw2]; exact (HK1.out.alloc _).alloc _
    rw [← hw2] at hrs
    rw [show lockCells (fun _ => none) (fun _ => 0) [.slice none 0 0, .slice none 0 0, .map (some w1.heap.size)] = #[.map none, .map none, .map none, .map none, .map none, .map none, .int .i64 0, .int .i64 0, .int .i64 0, .int .i64 0, .int .i64 0, .int .i64 0, .slice none 0 0, .slice none 0 0, .map (some w1.heap.size)] by simp [lockCells]] at hw2
    rw [← hw2]
    have HRS := Lib.hid hrs; have HK2 := Lib.hid hk2
    obtain ⟨r, hre⟩ : ∃ r, r = w1.heap.size + 1 := ⟨_, rfl⟩
    rw [← hre] at HRS ⊢
    clear hrs hk2 hw2 hre
    go_loopw [17] (fun v wr => ∃ (j : Nat) (s : LS) (V : RunV), j ≤ h.length ∧ v = .int .i64 j ∧ RunAt w.heap.size wr r V s ∧ Ok s ∧ tot s ≤ j ∧ LRun 0 s0L (h.take j) s ∧ Keep (fun _ => False) w wr) (fun v _ => h.length - (intOf v).toNat)
    case atStart => exact ⟨0, s0L, _, by omega, rfl, HRS.out, ok_s0.1, by rw [ok_s0.2]; exact Nat.zero_le _, .nil, HK2.out⟩
    case round =>
      obtain ⟨j, s, V, hj, rfl, hrr, hok, htot, hrun, hk⟩ := hrel
      have HRR := Lib.hid hrr; have HOK := Lib.hid hok; have HTO := Lib.hid htot; have HRN := Lib.hid hrun; have HK := Lib.hid hk; clear hrr hok htot hrun hk
      by_cases hjl : j < h.length
      · obtain ⟨g, o, c, p, hvv, hp, e0, e1, e2⟩ := rd_op (HR.out.keep HK.out (fun _ _ e => e)) hjl
        obtain ⟨txn, kind, item⟩ := p
        injection hvv with h1 h2 h3
        subst h1
        have hj1 : ((j : Int) < (h.length : Int)) = True := eq_true (by omega)
        have hj0 : ((0 : Int) ≤ (j : Int)) = True := eq_true (by omega)
        have hw : IntKind.i64.wrap ((j : Int) + 1) = ((j + 1 : Nat) : Int) := by rw [show ((j : Int) + 1) = ((j + 1 : Nat) : Int) by omega]; exact IntWalk.i64_in _ (by omega)
        have f0 : wr.cell? ⟨g, o + j * 3, none⟩ = some (.int .i64 txn) := by rw [Nat.mul_comm j 3]; exact e0
        have f1 : wr.cell? ⟨g, o + j * 3 + 1, none⟩ = some (.int .i64 kind) := by rw [Nat.mul_comm j 3, Nat.add_assoc]; exact e1
        have f2 : wr.cell? ⟨g, o + j * 3 + 2, none⟩ = some (.int .i64 item) := by rw [Nat.mul_comm j 3, Nat.add_assoc]; exact e2
        have HTK : Hid (h.take (j + 1) = h.take j ++ [(txn, kind, item)]) := Lib.hid (by rw [List.take_add_one, hp]; rfl)
        have ho := HALL.out _ (List.mem_of_getElem? hp)
        have HOP := Lib.hid ho
        have htx : 1 ≤ txn ∧ txn ≤ 6 := ⟨ho.1, ho.2.1⟩
        have HTX := Lib.hid htx; have HJL := Lib.hid hjl
        have HLT : Hid (((0 + (h.take j).length : Nat) : Int) = (j : Int)) := Lib.hid (by rw [List.length_take]; omega)
        clear hp h2 h3 hjl e0 e1 e2 ho
        go_upto_region 7 with fail
        obtain ⟨w3, hw3⟩ : ∃ w3, w3 = wr.alloc (.cells #[.int .i64 txn, .int .i64 kind, .int .i64 item] 146) := ⟨_, rfl⟩
        have hk3 : Keep (fun _ => False) wr w3 := by rw [hw3]; exact (Keep.refl _ _).alloc _
        have HB3 : Hid (Blk w3 wr.heap.size #[.int .i64 txn, .int .i64 kind, .int .i64 item] 146) := Lib.hid (by rw [hw3]; exact Blk.new _ _ _)
        have HK3 := Lib.hid hk3
        have hr3 := HRR.out.idle hk3
        obtain ⟨aao, acap, hva, _⟩ := ownsRow_shape hr3.ab
        have c13 : w3.cell? ⟨r, 13, none⟩ = some (.slice aao s.ab.length acap) := (hr3.lk.blk.cell 13).trans ((lock_rest (j := 1)).trans (by simp [hva]))
        have c14 : w3.cell? ⟨r, 14, none⟩ = some (.map (some V.bw)) := (hr3.lk.blk.cell 14).trans (lock_rest (j := 2))
        have b0 : w3.cell? ⟨wr.heap.size, 0, none⟩ = some (.int .i64 txn) := HB3.out.cell 0
        have b1 : w3.cell? ⟨wr.heap.size, 1, none⟩ = some (.int .i64 kind) := HB3.out.cell 1
        have b2 : w3.cell? ⟨wr.heap.size, 2, none⟩ = some (.int .i64 item) := HB3.out.cell 2
        have hal : s.ab.length ≤ 1000000 := by have := HOK.out.ab; have := HOK.out.tot; unfold tot at this; omega
        have HCT : Hid (∀ n, Calls Tryz.prog 108 #[.slice aao s.ab.length acap, .int .i64 txn] (w3.drewN n) (fun e w' => (∃ b : Bool, e = .returned (.bool b) ∧ (b = true ↔ txn ∈ s.ab)) ∧ w' = w3.drewN n)) := Lib.hid fun n => by
          have hh := ownsRow_rd ((hr3.idle ((Keep.refl (fun _ => False) w3).drewN n)).ab) (fun u hu => by simp [icells] at hu; obtain ⟨y, _, rfl⟩ := hu; rfl)
          rw [hva] at hh
          exact containsI_any hh hal
        have HR3 := Lib.hid hr3
        rw [← hw3]
        clear hw3 f0 f1 f2 hr3 hk3 hva hal
        by_cases hin : txn ∈ s.ab
        · have HIN := Lib.hid hin
          clear hin
          go_still_tail 6, (by kernel_rfl)
          change wpList _ _ _ _ _ w3.drew
          go_wp2_with (go_at_call 108; refine Calls.mono (HCT.out 1) ?_; rintro e w5 ⟨⟨b, rfl, hb⟩, rfl⟩; obtain rfl : b = true := circ_t hb HIN.out; clear hb)
          go_roundw
          case rel => exact ⟨j + 1, s, V, by have := HJL.out; omega, rfl, HR3.out.idle ((Keep.refl _ _).drewN 1), HOK.out, by have := HTO.out; omega, by rw [HTK.out]; exact HRN.out.snoc (.gone HIN.out), (HK.out.trans HK3.out (fun _ _ e => e)).drewN 1⟩
          case measure => have := HJL.out; simp [intOf]; omega
        · have HIN := Lib.hid hin
          clear hin
          go_still_tail 6, (by kernel_rfl)
          change wpList _ _ _ _ _ w3.drew
          go_upto_region 8 with (go_at_call 108; refine Calls.mono (HCT.out 1) ?_; rintro e w5 ⟨⟨b, rfl, hb⟩, rfl⟩; obtain rfl : b = false := circ_f hb HIN.out; clear hb)
          obtain ⟨w4, hw4⟩ : ∃ w4, w4 = w3.drewN 1 := ⟨_, rfl⟩
          have hk4 : Keep (fun _ => False) w3 w4 := by rw [hw4]; exact (Keep.refl _ _).drewN 1
          have HK4 := Lib.hid hk4
          have hr4 := HR3.out.idle hk4
          rw [← hw4]
          obtain ⟨vao, vcap, hval, hwn, hown⟩ := wt_val hr4 HTX.out
          obtain ⟨nw, hnw⟩ : ∃ nw, nw = (s.wt txn).length := ⟨_, rfl⟩
          rw [← hnw] at hval hwn hown
          have hlk : ∀ n, (Instr.lookup 193 (.map (some V.bw)) (.int .i64 txn) false).run Tryz.prog (w4.drewN n) = .ok (.slice vao nw vcap) (w4.drewN n) := fun n => by
            have := (hr4.wt.map.keep ((Keep.refl (fun _ => False) w4).drewN n) (fun e => e)).look Tryz.underlying193 zero202 (kI_wf (t := txn) (by omega) (by omega))
            rw [hval] at this; exact this
          have c14' : w4.cell? ⟨r, 14, none⟩ = some (.map (some V.bw)) := (hr4.lk.blk.cell 14).trans (lock_rest (j := 2))
          have hb4 := HB3.out.keep hk4 (fun e => e)
          have b0' : w4.cell? ⟨wr.heap.size, 0, none⟩ = some (.int .i64 txn) := hb4.cell 0
          have HR4 := Lib.hid hr4; have HVL2 := Lib.hid hval; have HWN := Lib.hid hwn; have HOW := Lib.hid hown; have HNW := Lib.hid hnw; have HB4 := Lib.hid hb4
          have hnwl : nw ≤ 100 := by have := Nat.le_trans (tot_wt (s := s) HTX.out) HOK.out.tot; omega
          clear c13 c14 b0 b1 b2 hw4 hk4 hr4 hval hwn hown hnw hb4
          go_quiet (fail)
          go_upto_region 9 with fail
          obtain ⟨wb, hwb⟩ : ∃ wb : Bool, wb = decide (0 < nw) := ⟨_, rfl⟩
          rw [← hwb]
          have HWB := Lib.hid hwb; clear hwb
          obtain ⟨w5, hw5⟩ : ∃ w5, w5 = (w4.drewN nq) := ⟨_, rfl⟩
          have hk5 : Keep (fun _ => False) w4 w5 := by rw [hw5]; exact (Keep.refl _ _).drewN _
          have HK5 := Lib.hid hk5
          have hr5 := HR4.out.idle hk5
          have hb5 := HB4.out.keep hk5 (fun e => e)
          have hwn5 := HWN.out.keep hk5 (fun _ _ e => e)
          rw [← hw5]
          have hne : ∀ b', (b' = V.bw ∨ (Value.slice vao nw vcap).ownBlock = some b') → wr.heap.size ≠ b' ∧ r ≠ b' := by
            rintro b' (e | e)
            · exact ⟨fun q => hr5.wt.map.ne_cells hb5 (by rw [← e, q]), fun q => hr5.wt.map.ne_cells hr5.lk.blk (by rw [← e, q])⟩
            · obtain ⟨c1, z1, q1⟩ := Win_cells hwn5 e
              exact ⟨cells_ne hb5 q1 (by decide), cells_ne hr5.lk.blk q1 (by decide)⟩
          have HSQ : Hid (∀ W, Keep (fun b' => b' = V.bw ∨ (Value.slice vao nw vcap).ownBlock = some b') w5 W → W.cell? ⟨wr.heap.size, 0, none⟩ = some (.int .i64 txn) ∧ W.cell? ⟨wr.heap.size, 1, none⟩ = some (.int .i64 kind) ∧ W.cell? ⟨wr.heap.size, 2, none⟩ = some (.int .i64 item) ∧ W.cell? ⟨r, 14, none⟩ = some (.map (some V.bw))) := Lib.hid fun W hk => by
            have q1 := hb5.keep hk (fun e => (hne _ e).1 rfl)
            have q2 := hr5.lk.blk.keep hk (fun e => (hne _ e).2 rfl)
            exact ⟨q1.cell 0, q1.cell 1, q1.cell 2, (q2.cell 14).trans (lock_rest (j := 2))⟩
          have HR5 := Lib.hid hr5; have HB5 := Lib.hid hb5; have HW5 := Lib.hid hwn5
          have hbs5 : w.heap.size ≤ w5.heap.size := Nat.le_trans HK.out.size (Nat.le_trans HK3.out.size (Nat.le_trans HK4.out.size HK5.out.size))
          clear hw5 hk5 hr5 hb5 hwn5 hne hlk c14' b0'
          go_cut [] from 38 to 55 (fun wx => (∃ V2, RunAt w.heap.size wx r V2 (enq s (txn, kind, item) (j : Int))) ∧ wx.cell? ⟨wr.heap.size, 0, none⟩ = some (.int .i64 txn) ∧ Keep (fun b' => w.heap.size ≤ b') w5 wx)
          case first =>
            rename_i Jq Kq hJq hKq
            refine region_letters fun Q1 hQ1 => ?_
            have HQ1 := Lib.hid hQ1; clear hQ1
            refine wp_region_noPanic ?_
            refine wp_region_held_drew (S := (fun W => W.cell? ⟨wr.heap.size, 0, none⟩ = some (.int .i64 txn) ∧ W.cell? ⟨wr.heap.size, 1, none⟩ = some (.int .i64 kind) ∧ W.cell? ⟨wr.heap.size, 2, none⟩ = some (.int .i64 item) ∧ W.cell? ⟨r, 14, none⟩ = some (.map (some V.bw)))) (by kernel_rfl) (HSQ.out _ ((Keep.refl _ _).drew)) (fun hHeld => ?_)
            refine wpAnyH_letter fun ac0 HQA0 => ?_
            have HS : Hid (ac0.tmps.size = 75) := Lib.hid (by rw [HQA0.out]; kernel_rfl)
            have e5 : ac0.tmps[5]?.getD undef = .pointer (some ⟨r, 0, none⟩) := by rw [HQA0.out]; kernel_rfl
            have e6 : ac0.tmps[6]?.getD undef = .int .i64 j := by rw [HQA0.out]; kernel_rfl
            have e7 : ac0.tmps[7]?.getD undef = .pointer (some ⟨wr.heap.size, 0, none⟩) := by rw [HQA0.out]; kernel_rfl
            refine wpAnyH_take (i := 0) (oi := _) (v := ?_) rfl (by kernel_rfl) (by kernel_rfl) (by kernel_rfl) (fun _ _ _ h => h) (Or.inl ⟨by rfl, ?_⟩) hHeld ?_
            rotate_left
            · (intro w hSw; obtain ⟨q0, q1, q2, q3⟩ := hSw; go_simp) <;> with_reducible rfl
            refine wpAnyH_letter fun ac1 HQA1 => ?_; replace e5 := po HQA1 e5; replace e6 := po HQA1 e6; replace e7 := po HQA1 e7; have e38 := put_at HQA1 HS.out (by decide); replace HS := Lib.hid (put_sz HQA1 HS.out)
            refine wpAnyH_take (i := 1) (oi := _) (v := ?_) rfl (by kernel_rfl) (by kernel_rfl) (by kernel_rfl) (fun _ _ _ h => h) (Or.inl ⟨by rfl, ?_⟩) hHeld ?_
            rotate_left
            · (intro w hSw; obtain ⟨q0, q1, q2, q3⟩ := hSw; go_simp) <;> with_reducible rfl
            refine wpAnyH_letter fun ac2 HQA2 => ?_; replace e5 := po HQA2 e5; replace e6 := po HQA2 e6; replace e7 := po HQA2 e7; replace e38 := po HQA2 e38; have e39 := put_at HQA2 HS.out (by decide); replace HS := Lib.hid (put_sz HQA2 HS.out)
            refine wpAnyH_take (i := 2) (oi := _) (v := ?_) rfl (by kernel_rfl) (by kernel_rfl) (by kernel_rfl) (fun _ _ _ h => h) (Or.inl ⟨by rfl, ?_⟩) hHeld ?_
            rotate_left
            · (intro w hSw; obtain ⟨q0, q1, q2, q3⟩ := hSw; go_simp) <;> with_reducible rfl
            refine wpAnyH_letter fun ac3 HQA3 => ?_; replace e5 := po HQA3 e5; replace e6 := po HQA3 e6; replace e7 := po HQA3 e7; replace e38 := po HQA3 e38; replace e39 := po HQA3 e39; have e40 := put_at HQA3 HS.out (by decide); replace HS := Lib.hid (put_sz HQA3 HS.out)
            refine wpAnyH_take (i := 3) (oi := _) (v := ?_) rfl (by kernel_rfl) (by kernel_rfl) (by kernel_rfl) (fun _ _ _ h => h) (Or.inl ⟨by rfl, ?_⟩) hHeld ?_
            rotate_left
            · (intro w hSw; obtain ⟨q0, q1, q2, q3⟩ := hSw; go_simp) <;> with_reducible rfl
            refine wpAnyH_letter fun ac4 HQA4 => ?_; replace e5 := po HQA4 e5; replace e6 := po HQA4 e6; replace e7 := po HQA4 e7; replace e38 := po HQA4 e38; replace e39 := po HQA4 e39; replace e40 := po HQA4 e40; have e41 := put_at HQA4 HS.out (by decide); replace HS := Lib.hid (put_sz HQA4 HS.out)
            refine wpAnyH_take (i := 4) (oi := _) (v := ?_) rfl (by kernel_rfl) (by kernel_rfl) (by kernel_rfl) (fun _ _ _ h => h) (Or.inl ⟨by rfl, ?_⟩) hHeld ?_
            rotate_left
            · (intro w hSw; obtain ⟨q0, q1, q2, q3⟩ := hSw; go_simp) <;> with_reducible rfl
            refine wpAnyH_letter fun ac5 HQA5 => ?_; replace e5 := po HQA5 e5; replace e6 := po HQA5 e6; replace e7 := po HQA5 e7; replace e38 := po HQA5 e38; replace e39 := po HQA5 e39; replace e40 := po HQA5 e40; replace e41 := po HQA5 e41; have e42 := put_at HQA5 HS.out (by decide); replace HS := Lib.hid (put_sz HQA5 HS.out)
            refine wpAnyH_take (i := 5) (oi := _) (v := ?_) rfl (by kernel_rfl) (by kernel_rfl) (by kernel_rfl) (fun _ _ _ h => h) (Or.inl ⟨by rfl, ?_⟩) hHeld ?_
            rotate_left
            · (intro w hSw; obtain ⟨q0, q1, q2, q3⟩ := hSw; go_simp) <;> with_reducible rfl
            refine wpAnyH_letter fun ac6 HQA6 => ?_; replace e5 := po HQA6 e5; replace e6 := po HQA6 e6; replace e7 := po HQA6 e7; replace e38 := po HQA6 e38; replace e39 := po HQA6 e39; replace e40 := po HQA6 e40; replace e41 := po HQA6 e41; replace e42 := po HQA6 e42; have e43 := put_at HQA6 HS.out (by decide); replace HS := Lib.hid (put_sz HQA6 HS.out)
            refine wpAnyH_take (i := 6) (oi := _) (v := ?_) rfl (by kernel_rfl) (by kernel_rfl) (by kernel_rfl) (fun _ _ _ h => h) (Or.inl ⟨by rfl, ?_⟩) hHeld ?_
            rotate_left
            · (intro w hSw; obtain ⟨q0, q1, q2, q3⟩ := hSw; go_simp) <;> with_reducible rfl
            refine wpAnyH_letter fun ac7 HQA7 => ?_; replace e5 := po HQA7 e5; replace e6 := po HQA7 e6; replace e7 := po HQA7 e7; replace e38 := po HQA7 e38; replace e39 := po HQA7 e39; replace e40 := po HQA7 e40; replace e41 := po HQA7 e41; replace e42 := po HQA7 e42; replace e43 := po HQA7 e43; have e44 := put_at HQA7 HS.out (by decide); replace HS := Lib.hid (put_sz HQA7 HS.out)
            refine wpAnyH_take (i := 7) (oi := _) (v := ?_) rfl (by kernel_rfl) (by kernel_rfl) (by kernel_rfl) (fun _ _ _ h => h) (Or.inl ⟨by rfl, ?_⟩) hHeld ?_
            rotate_left
            · (intro w hSw; obtain ⟨q0, q1, q2, q3⟩ := hSw; go_simp) <;> with_reducible rfl
            refine wpAnyH_letter fun ac8 HQA8 => ?_; replace e5 := po HQA8 e5; replace e6 := po HQA8 e6; replace e7 := po HQA8 e7; replace e38 := po HQA8 e38; replace e39 := po HQA8 e39; replace e40 := po HQA8 e40; replace e41 := po HQA8 e41; replace e42 := po HQA8 e42; replace e43 := po HQA8 e43; replace e44 := po HQA8 e44; have e45 := put_at HQA8 HS.out (by decide); replace HS := Lib.hid (put_sz HQA8 HS.out)
            refine wpAnyH_take (i := 8) (oi := _) (v := ?_) rfl (by kernel_rfl) (by kernel_rfl) (by kernel_rfl) (fun _ _ _ h => h) (Or.inl ⟨by rfl, ?_⟩) hHeld ?_
            rotate_left
            · (intro w hSw; obtain ⟨q0, q1, q2, q3⟩ := hSw; go_simp) <;> with_reducible rfl
            refine wpAnyH_letter fun ac9 HQA9 => ?_; replace e5 := po HQA9 e5; replace e6 := po HQA9 e6; replace e7 := po HQA9 e7; replace e38 := po HQA9 e38; replace e39 := po HQA9 e39; replace e40 := po HQA9 e40; replace e41 := po HQA9 e41; replace e42 := po HQA9 e42; replace e43 := po HQA9 e43; replace e44 := po HQA9 e44; replace e45 := po HQA9 e45; have e46 := put_at HQA9 HS.out (by decide); replace HS := Lib.hid (put_sz HQA9 HS.out)
            refine wpAnyH_take (i := 9) (oi := _) (v := ?_) rfl (by kernel_rfl) (by kernel_rfl) (by kernel_rfl) (fun _ _ _ h => h) (Or.inl ⟨by rfl, ?_⟩) hHeld ?_
            rotate_left
            · (intro w hSw; obtain ⟨q0, q1, q2, q3⟩ := hSw; go_simp) <;> with_reducible rfl
            refine wpAnyH_letter fun ac10 HQA10 => ?_; replace e5 := po HQA10 e5; replace e6 := po HQA10 e6; replace e7 := po HQA10 e7; replace e38 := po HQA10 e38; replace e39 := po HQA10 e39; replace e40 := po HQA10 e40; replace e41 := po HQA10 e41; replace e42 := po HQA10 e42; replace e43 := po HQA10 e43; replace e44 := po HQA10 e44; replace e45 := po HQA10 e45; replace e46 := po HQA10 e46; have e47 := put_at HQA10 HS.out (by decide); replace HS := Lib.hid (put_sz HQA10 HS.out)
            refine wpAnyH_take (i := 10) (oi := _) (v := ?_) rfl (by kernel_rfl) (by kernel_rfl) (by kernel_rfl) (fun _ _ _ h => h) (Or.inl ⟨by rfl, ?_⟩) hHeld ?_
            rotate_left
            · (intro w hSw; obtain ⟨q0, q1, q2, q3⟩ := hSw; go_simp) <;> with_reducible rfl
            refine wpAnyH_letter fun ac11 HQA11 => ?_; replace e5 := po HQA11 e5; replace e6 := po HQA11 e6; replace e7 := po HQA11 e7; replace e38 := po HQA11 e38; replace e39 := po HQA11 e39; replace e40 := po HQA11 e40; replace e41 := po HQA11 e41; replace e42 := po HQA11 e42; replace e43 := po HQA11 e43; replace e44 := po HQA11 e44; replace e45 := po HQA11 e45; replace e46 := po HQA11 e46; replace e47 := po HQA11 e47; have e48 := put_at HQA11 HS.out (by decide); replace HS := Lib.hid (put_sz HQA11 HS.out)
            refine wpAnyH_take (i := 11) (oi := _) (v := ?_) rfl (by kernel_rfl) (by kernel_rfl) (by kernel_rfl) (fun _ _ _ h => h) (Or.inl ⟨by rfl, ?_⟩) hHeld ?_
            rotate_left
            · (intro w hSw; obtain ⟨q0, q1, q2, q3⟩ := hSw; go_simp) <;> with_reducible rfl
            refine wpAnyH_letter fun ac12 HQA12 => ?_; replace e5 := po HQA12 e5; replace e6 := po HQA12 e6; replace e7 := po HQA12 e7; replace e38 := po HQA12 e38; replace e39 := po HQA12 e39; replace e40 := po HQA12 e40; replace e41 := po HQA12 e41; replace e42 := po HQA12 e42; replace e43 := po HQA12 e43; replace e44 := po HQA12 e44; replace e45 := po HQA12 e45; replace e46 := po HQA12 e46; replace e47 := po HQA12 e47; replace e48 := po HQA12 e48; have e49 := put_at HQA12 HS.out (by decide); replace HS := Lib.hid (put_sz HQA12 HS.out)
            refine wpAnyH_take (i := 13) (oi := _) (v := ?_) rfl (by kernel_rfl) (by kernel_rfl) (by kernel_rfl) (fun _ _ _ h => h) (Or.inl ⟨by rfl, ?_⟩) hHeld ?_
            rotate_left
            · (intro w hSw; obtain ⟨q0, q1, q2, q3⟩ := hSw; go_simp) <;> with_reducible rfl
            refine wpAnyH_letter fun ac13 HQA13 => ?_; replace e5 := po HQA13 e5; replace e6 := po HQA13 e6; replace e7 := po HQA13 e7; replace e38 := po HQA13 e38; replace e39 := po HQA13 e39; replace e40 := po HQA13 e40; replace e41 := po HQA13 e41; replace e42 := po HQA13 e42; replace e43 := po HQA13 e43; replace e44 := po HQA13 e44; replace e45 := po HQA13 e45; replace e46 := po HQA13 e46; replace e47 := po HQA13 e47; replace e48 := po HQA13 e48; replace e49 := po HQA13 e49; have e51 := put_at HQA13 HS.out (by decide); replace HS := Lib.hid (put_sz HQA13 HS.out)
            refine wpAnyH_take (i := 14) (oi := _) (v := ?_) rfl (by kernel_rfl) (by kernel_rfl) (by kernel_rfl) (fun _ _ _ h => h) (Or.inl ⟨by rfl, ?_⟩) hHeld ?_
            rotate_left
            · (intro w hSw; obtain ⟨q0, q1, q2, q3⟩ := hSw; go_simp) <;> with_reducible rfl
            refine wpAnyH_letter fun ac14 HQA14 => ?_; replace e5 := po HQA14 e5; replace e6 := po HQA14 e6; replace e7 := po HQA14 e7; replace e38 := po HQA14 e38; replace e39 := po HQA14 e39; replace e40 := po HQA14 e40; replace e41 := po HQA14 e41; replace e42 := po HQA14 e42; replace e43 := po HQA14 e43; replace e44 := po HQA14 e44; replace e45 := po HQA14 e45; replace e46 := po HQA14 e46; replace e47 := po HQA14 e47; replace e48 := po HQA14 e48; replace e49 := po HQA14 e49; replace e51 := po HQA14 e51; have e52 := put_at HQA14 HS.out (by decide); replace HS := Lib.hid (put_sz HQA14 HS.out)
            refine wpAnyH_take (i := 15) (oi := _) (v := ?_) rfl (by kernel_rfl) (by kernel_rfl) (by kernel_rfl) (fun _ _ _ h => h) (Or.inl ⟨by rfl, ?_⟩) hHeld ?_
            rotate_left
            · (intro w hSw; obtain ⟨q0, q1, q2, q3⟩ := hSw; go_simp) <;> with_reducible rfl
            refine wpAnyH_letter fun ac15 HQA15 => ?_; replace e5 := po HQA15 e5; replace e6 := po HQA15 e6; replace e7 := po HQA15 e7; replace e38 := po HQA15 e38; replace e39 := po HQA15 e39; replace e40 := po HQA15 e40; replace e41 := po HQA15 e41; replace e42 := po HQA15 e42; replace e43 := po HQA15 e43; replace e44 := po HQA15 e44; replace e45 := po HQA15 e45; replace e46 := po HQA15 e46; replace e47 := po HQA15 e47; replace e48 := po HQA15 e48; replace e49 := po HQA15 e49; replace e51 := po HQA15 e51; replace e52 := po HQA15 e52; have e53 := put_at HQA15 HS.out (by decide); replace HS := Lib.hid (put_sz HQA15 HS.out)
            refine wpAnyH_ready (rs := [12, 16]) (by kernel_rfl) (by simp) ?_
            refine AllReadyH.cons (o := _) rfl (fun K hK => ?_) (AllReadyH.cons (o := _) rfl (fun K hK => ?_) AllReadyH.nil)
            · have hl := (HR5.out.wt.map.keep ((Keep.refl (fun _ => False) w5).drew) (fun e => e)).look Tryz.underlying193 zero202 (kI_wf (t := txn) (by have := HTX.out; omega) (by have := HTX.out; omega))
              rw [HVL2.out] at hl
              go_simp
              refine hK.out _ _ ?_ (fun hHeld => ?_)
              · exact HSQ.out _ ((Keep.refl _ _).drew)
              clear hK K; refine wpAnyH_letter fun ac16 HQA16 => ?_; replace e5 := po HQA16 e5; replace e6 := po HQA16 e6; replace e7 := po HQA16 e7; replace e38 := po HQA16 e38; replace e39 := po HQA16 e39; replace e40 := po HQA16 e40; replace e41 := po HQA16 e41; replace e42 := po HQA16 e42; replace e43 := po HQA16 e43; replace e44 := po HQA16 e44; replace e45 := po HQA16 e45; replace e46 := po HQA16 e46; replace e47 := po HQA16 e47; replace e48 := po HQA16 e48; replace e49 := po HQA16 e49; replace e51 := po HQA16 e51; replace e52 := po HQA16 e52; replace e53 := po HQA16 e53; have e50 := put_at HQA16 HS.out (by decide); replace HS := Lib.hid (put_sz HQA16 HS.out); refine wpAnyH_ready (rs := [16]) (by kernel_rfl) (by simp) ?_; refine AllReadyH.cons (o := _) rfl (fun K hK => ?_) AllReadyH.nil
              go_simp
              refine hK.out _ _ ?_ (fun hHeld => ?_)
              · first | exact HSQ.out _ (((Keep.refl _ _).alloc _).drew) | exact HSQ.out _ (((Keep.refl _ _).drew).alloc _)
              clear hK K; refine wpAnyH_letter fun ac17 HQA17 => ?_; replace e5 := po HQA17 e5; replace e6 := po HQA17 e6; replace e7 := po HQA17 e7; replace e38 := po HQA17 e38; replace e39 := po HQA17 e39; replace e40 := po HQA17 e40; replace e41 := po HQA17 e41; replace e42 := po HQA17 e42; replace e43 := po HQA17 e43; replace e44 := po HQA17 e44; replace e45 := po HQA17 e45; replace e46 := po HQA17 e46; replace e47 := po HQA17 e47; replace e48 := po HQA17 e48; replace e49 := po HQA17 e49; replace e51 := po HQA17 e51; replace e52 := po HQA17 e52; replace e53 := po HQA17 e53; replace e50 := po HQA17 e50; have e54 := put_at HQA17 HS.out (by decide); replace HS := Lib.hid (put_sz HQA17 HS.out); refine wpAnyH_ready (rs := [17]) (by kernel_rfl) (by simp) ?_; refine AllReadyH.cons (o := _) rfl (fun K hK => ?_) AllReadyH.nil
              rw [if_pos (by rfl)]
              refine oper_win (.tmp 50) (.tmp 54) 202 202 rfl 204 (.agg #[.int .i64 0, .int .i64 0, .int .i64 0, .int .i64 0]) 4 32 Tryz.underlying202 info204 rfl (HW5.out.keep (((Keep.refl (fun _ => False) w5).alloc (.cells #[.int .i64 txn, .int .i64 kind, .int .i64 item, .int .i64 j] 204)).drew) (fun _ _ e => e)) (evalsL e50) (((Rd.new w5 4 1 [.int .i64 txn, .int .i64 kind, .int .i64 item, .int .i64 j] 204 rfl (by simp [Value.oneCell']) (by unfold maxLen; omega)).keep ((Keep.refl (fun _ => False) _).drew) (fun _ _ h => h)).src Tryz.underlying202) (evalsL e54) (by unfold maxLen; omega) (by omega) (Nat.le_trans hbs5 (((Keep.refl (fun _ => False) w5).alloc (.cells #[.int .i64 txn, .int .i64 kind, .int .i64 item, .int .i64 j] 204)).drew).size) (fun v' w7 happ => ?_)
              have hk7 : Keep (fun b' => (Value.slice vao nw vcap).ownBlock = some b') w5 w7 := ((((Keep.refl (fun _ => False) w5).alloc (.cells #[.int .i64 txn, .int .i64 kind, .int .i64 item, .int .i64 j] 204)).drew).mono (fun _ _ e => e.elim)).trans happ.keep (fun _ _ e => e)
              have hm7 : MapAt w7 V.bw 6 V.vw := HR5.out.wt.map.keep hk7 (fun e => by
                obtain ⟨c1, z1, q1⟩ := Win_cells HW5.out e
                exact HR5.out.wt.map.ne_cells q1 rfl)
              have HM7 := Lib.hid hm7; have HK7 := Lib.hid hk7
              have HW7 := Lib.hid happ.own
              have HF7 := Lib.hid happ.fresh
              clear happ hk7 hm7
              (try dsimp only)
              refine hK.out _ _ ?_ (fun hHeld => ?_)
              · exact HSQ.out _ (HK7.out.mono (fun _ _ e => .inr e))
              clear hK K; refine wpAnyH_letter fun ac18 HQA18 => ?_; replace e5 := po HQA18 e5; replace e6 := po HQA18 e6; replace e7 := po HQA18 e7; replace e38 := po HQA18 e38; replace e39 := po HQA18 e39; replace e40 := po HQA18 e40; replace e41 := po HQA18 e41; replace e42 := po HQA18 e42; replace e43 := po HQA18 e43; replace e44 := po HQA18 e44; replace e45 := po HQA18 e45; replace e46 := po HQA18 e46; replace e47 := po HQA18 e47; replace e48 := po HQA18 e48; replace e49 := po HQA18 e49; replace e51 := po HQA18 e51; replace e52 := po HQA18 e52; replace e53 := po HQA18 e53; replace e50 := po HQA18 e50; replace e54 := po HQA18 e54; have e55 := put_at HQA18 HS.out (by decide); replace HS := Lib.hid (put_sz HQA18 HS.out)
              obtain ⟨w8, hrun8, hm8, hk8, _⟩ := HM7.out.store Tryz.underlying193 (by unfold maxLen; omega) (kI_wf (t := txn) (by have := HTX.out; omega) (by have := HTX.out; omega)) v'
              have HM8 := Lib.hid hm8; have HK8 := Lib.hid hk8; clear hm8 hk8; refine wpAnyH_ready (rs := [18]) (by kernel_rfl) (by simp) ?_; refine AllReadyH.cons (o := _) rfl (fun K hK => ?_) AllReadyH.nil
              go_simp
              refine hK.out _ _ ?_ (fun hHeld => ?_)
              · exact HSQ.out _ ((HK7.out.mono (fun _ _ e => .inr e)).trans HK8.out (fun _ _ e => .inl e))
              clear hK K
              have HFIN : RunAt w.heap.size w8 r { V with vw := fun y => if y = txn then some v' else V.vw y } (enq s (txn, kind, item) (j : Int)) := by
                have hwin8 : Win w8 w.heap.size 204 4 v' (s.wt txn ++ [((txn, kind, item), (j : Int))]).length (heldC (s.wt txn ++ [((txn, kind, item), (j : Int))])) := by
                  have h7 := HW7.out
                  rw [HNW.out] at h7
                  rw [List.length_append, heldC_snoc]
                  exact h7.keep HK8.out (fun b' hb e => by
                    obtain ⟨c1, z1, q1⟩ := Win_cells HW7.out hb
                    exact HM7.out.ne_cells q1 e.symm)
                refine HR5.out.setWt HTX.out HM8.out ((HK7.out.mono (fun b' hb e => .inr (HOW.out b' e))).trans HK8.out (fun _ _ e => .inl e)) hwin8 (fun u v b' hu hne hv hg e => ?_)
                rcases HF7.out with e2 | ⟨g7, e2, hg7⟩
                · rw [e2] at e
                  obtain ⟨v0, hv0, hg0⟩ := HOW.out b' e
                  exact hne (HR5.out.wt.apart u txn v v0 b' hu (kI_wf (t := txn) (by have := HTX.out; omega) (by have := HTX.out; omega)) hv hv0 hg hg0)
                · rw [e2] at e; cases e
                  have h1 := ((HR5.out.wt.win u v hu hv).lt b' hg).2
                  have h2 := (((Keep.refl (fun _ => False) w5).alloc (.cells #[.int .i64 txn, .int .i64 kind, .int .i64 item, .int .i64 j] 204)).drew).size
                  omega
              refine wpAnyH_done (by kernel_rfl) ?_ _
              refine NoPanic.normal ?_
              rw [HQ1.out]
              have g0 := uE0 ac0 [38, 39, 40, 41, 42, 43, 44, 45, 46, 47, 48, 49, 50, 51, 52, 53, 54, 55]
              have g1 := uE HQA1 g0 (by rfl); have g2 := uE HQA2 g1 (by rfl); have g3 := uE HQA3 g2 (by rfl); have g4 := uE HQA4 g3 (by rfl); have g5 := uE HQA5 g4 (by rfl); have g6 := uE HQA6 g5 (by rfl); have g7 := uE HQA7 g6 (by rfl); have g8 := uE HQA8 g7 (by rfl); have g9 := uE HQA9 g8 (by rfl); have g10 := uE HQA10 g9 (by rfl); have g11 := uE HQA11 g10 (by rfl); have g12 := uE HQA12 g11 (by rfl); have g13 := uE HQA13 g12 (by rfl); have g14 := uE HQA14 g13 (by rfl); have g15 := uE HQA15 g14 (by rfl); have g16 := uE HQA16 g15 (by rfl); have g17 := uE HQA17 g16 (by rfl); have g18 := uE HQA18 g17 (by rfl)
              obtain ⟨f, hf⟩ := g18
              rw [HQA0.out] at hf
              refine hKq _ _ (Met.intro (hJq _ _ ?_))
              refine ⟨f 38, f 39, f 40, f 41, f 42, f 43, f 44, f 45, f 46, f 47, f 48, f 49, f 50, f 51, f 52, f 53, f 54, f 55, ⟨⟨_, HFIN⟩, (HSQ.out w8 ((HK7.out.mono (fun _ _ e => .inr e)).trans HK8.out (fun _ _ e => .inl e))).1, (HK7.out.mono (fun b' hb e => (HW5.out.lt b' e).1)).trans HK8.out (fun i hi e => by have e' : i = V.bw := e; rw [e']; exact HR5.out.wt.ge)⟩, hf.trans (by kernel_rfl)⟩
            · go_simp
              refine hK.out _ _ ?_ (fun hHeld => ?_)
              · first | exact HSQ.out _ (((Keep.refl _ _).alloc _).drew) | exact HSQ.out _ (((Keep.refl _ _).drew).alloc _)
              clear hK K; refine wpAnyH_letter fun ac16 HQA16 => ?_; replace e5 := po HQA16 e5; replace e6 := po HQA16 e6; replace e7 := po HQA16 e7; replace e38 := po HQA16 e38; replace e39 := po HQA16 e39; replace e40 := po HQA16 e40; replace e41 := po HQA16 e41; replace e42 := po HQA16 e42; replace e43 := po HQA16 e43; replace e44 := po HQA16 e44; replace e45 := po HQA16 e45; replace e46 := po HQA16 e46; replace e47 := po HQA16 e47; replace e48 := po HQA16 e48; replace e49 := po HQA16 e49; replace e51 := po HQA16 e51; replace e52 := po HQA16 e52; replace e53 := po HQA16 e53; have e54 := put_at HQA16 HS.out (by decide); replace HS := Lib.hid (put_sz HQA16 HS.out); refine wpAnyH_ready (rs := [12]) (by kernel_rfl) (by simp) ?_; refine AllReadyH.cons (o := _) rfl (fun K hK => ?_) AllReadyH.nil
              have hl := (HR5.out.wt.map.keep (((Keep.refl (fun _ => False) w5).alloc (.cells #[.int .i64 txn, .int .i64 kind, .int .i64 item, .int .i64 j] 204)).drew) (fun e => e)).look Tryz.underlying193 zero202 (kI_wf (t := txn) (by have := HTX.out; omega) (by have := HTX.out; omega))
              rw [HVL2.out] at hl
              go_simp
              refine hK.out _ _ ?_ (fun hHeld => ?_)
              · first | exact HSQ.out _ (((Keep.refl _ _).alloc _).drew) | exact HSQ.out _ (((Keep.refl _ _).drew).alloc _)
              clear hK K; refine wpAnyH_letter fun ac17 HQA17 => ?_; replace e5 := po HQA17 e5; replace e6 := po HQA17 e6; replace e7 := po HQA17 e7; replace e38 := po HQA17 e38; replace e39 := po HQA17 e39; replace e40 := po HQA17 e40; replace e41 := po HQA17 e41; replace e42 := po HQA17 e42; replace e43 := po HQA17 e43; replace e44 := po HQA17 e44; replace e45 := po HQA17 e45; replace e46 := po HQA17 e46; replace e47 := po HQA17 e47; replace e48 := po HQA17 e48; replace e49 := po HQA17 e49; replace e51 := po HQA17 e51; replace e52 := po HQA17 e52; replace e53 := po HQA17 e53; replace e54 := po HQA17 e54; have e50 := put_at HQA17 HS.out (by decide); replace HS := Lib.hid (put_sz HQA17 HS.out); refine wpAnyH_ready (rs := [17]) (by kernel_rfl) (by simp) ?_; refine AllReadyH.cons (o := _) rfl (fun K hK => ?_) AllReadyH.nil
              rw [if_pos (by rfl)]
              refine oper_win (.tmp 50) (.tmp 54) 202 202 rfl 204 (.agg #[.int .i64 0, .int .i64 0, .int .i64 0, .int .i64 0]) 4 32 Tryz.underlying202 info204 rfl (HW5.out.keep (((Keep.refl (fun _ => False) w5).alloc (.cells #[.int .i64 txn, .int .i64 kind, .int .i64 item, .int .i64 j] 204)).drew) (fun _ _ e => e)) (evalsL e50) (((Rd.new w5 4 1 [.int .i64 txn, .int .i64 kind, .int .i64 item, .int .i64 j] 204 rfl (by simp [Value.oneCell']) (by unfold maxLen; omega)).keep ((Keep.refl (fun _ => False) _).drew) (fun _ _ h => h)).src Tryz.underlying202) (evalsL e54) (by unfold maxLen; omega) (by omega) (Nat.le_trans hbs5 (((Keep.refl (fun _ => False) w5).alloc (.cells #[.int .i64 txn, .int .i64 kind, .int .i64 item, .int .i64 j] 204)).drew).size) (fun v' w7 happ => ?_)
              have hk7 : Keep (fun b' => (Value.slice vao nw vcap).ownBlock = some b') w5 w7 := ((((Keep.refl (fun _ => False) w5).alloc (.cells #[.int .i64 txn, .int .i64 kind, .int .i64 item, .int .i64 j] 204)).drew).mono (fun _ _ e => e.elim)).trans happ.keep (fun _ _ e => e)
              have hm7 : MapAt w7 V.bw 6 V.vw := HR5.out.wt.map.keep hk7 (fun e => by
                obtain ⟨c1, z1, q1⟩ := Win_cells HW5.out e
                exact HR5.out.wt.map.ne_cells q1 rfl)
              have HM7 := Lib.hid hm7; have HK7 := Lib.hid hk7
              have HW7 := Lib.hid happ.own
              have HF7 := Lib.hid happ.fresh
              clear happ hk7 hm7
              (try dsimp only)
              refine hK.out _ _ ?_ (fun hHeld => ?_)
              · exact HSQ.out _ (HK7.out.mono (fun _ _ e => .inr e))
              clear hK K; refine wpAnyH_letter fun ac18 HQA18 => ?_; replace e5 := po HQA18 e5; replace e6 := po HQA18 e6; replace e7 := po HQA18 e7; replace e38 := po HQA18 e38; replace e39 := po HQA18 e39; replace e40 := po HQA18 e40; replace e41 := po HQA18 e41; replace e42 := po HQA18 e42; replace e43 := po HQA18 e43; replace e44 := po HQA18 e44; replace e45 := po HQA18 e45; replace e46 := po HQA18 e46; replace e47 := po HQA18 e47; replace e48 := po HQA18 e48; replace e49 := po HQA18 e49; replace e51 := po HQA18 e51; replace e52 := po HQA18 e52; replace e53 := po HQA18 e53; replace e54 := po HQA18 e54; replace e50 := po HQA18 e50; have e55 := put_at HQA18 HS.out (by decide); replace HS := Lib.hid (put_sz HQA18 HS.out)
              obtain ⟨w8, hrun8, hm8, hk8, _⟩ := HM7.out.store Tryz.underlying193 (by unfold maxLen; omega) (kI_wf (t := txn) (by have := HTX.out; omega) (by have := HTX.out; omega)) v'
              have HM8 := Lib.hid hm8; have HK8 := Lib.hid hk8; clear hm8 hk8; refine wpAnyH_ready (rs := [18]) (by kernel_rfl) (by simp) ?_; refine AllReadyH.cons (o := _) rfl (fun K hK => ?_) AllReadyH.nil
              go_simp
              refine hK.out _ _ ?_ (fun hHeld => ?_)
              · exact HSQ.out _ ((HK7.out.mono (fun _ _ e => .inr e)).trans HK8.out (fun _ _ e => .inl e))
              clear hK K
              have HFIN : RunAt w.heap.size w8 r { V with vw := fun y => if y = txn then some v' else V.vw y } (enq s (txn, kind, item) (j : Int)) := by
                have hwin8 : Win w8 w.heap.size 204 4 v' (s.wt txn ++ [((txn, kind, item), (j : Int))]).length (heldC (s.wt txn ++ [((txn, kind, item), (j : Int))])) := by
                  have h7 := HW7.out
                  rw [HNW.out] at h7
                  rw [List.length_append, heldC_snoc]
                  exact h7.keep HK8.out (fun b' hb e => by
                    obtain ⟨c1, z1, q1⟩ := Win_cells HW7.out hb
                    exact HM7.out.ne_cells q1 e.symm)
                refine HR5.out.setWt HTX.out HM8.out ((HK7.out.mono (fun b' hb e => .inr (HOW.out b' e))).trans HK8.out (fun _ _ e => .inl e)) hwin8 (fun u v b' hu hne hv hg e => ?_)
                rcases HF7.out with e2 | ⟨g7, e2, hg7⟩
                · rw [e2] at e
                  obtain ⟨v0, hv0, hg0⟩ := HOW.out b' e
                  exact hne (HR5.out.wt.apart u txn v v0 b' hu (kI_wf (t := txn) (by have := HTX.out; omega) (by have := HTX.out; omega)) hv hv0 hg hg0)
                · rw [e2] at e; cases e
                  have h1 := ((HR5.out.wt.win u v hu hv).lt b' hg).2
                  have h2 := (((Keep.refl (fun _ => False) w5).alloc (.cells #[.int .i64 txn, .int .i64 kind, .int .i64 item, .int .i64 j] 204)).drew).size
                  omega
              refine wpAnyH_done (by kernel_rfl) ?_ _
              refine NoPanic.normal ?_
              rw [HQ1.out]
              have g0 := uE0 ac0 [38, 39, 40, 41, 42, 43, 44, 45, 46, 47, 48, 49, 50, 51, 52, 53, 54, 55]
              have g1 := uE HQA1 g0 (by rfl); have g2 := uE HQA2 g1 (by rfl); have g3 := uE HQA3 g2 (by rfl); have g4 := uE HQA4 g3 (by rfl); have g5 := uE HQA5 g4 (by rfl); have g6 := uE HQA6 g5 (by rfl); have g7 := uE HQA7 g6 (by rfl); have g8 := uE HQA8 g7 (by rfl); have g9 := uE HQA9 g8 (by rfl); have g10 := uE HQA10 g9 (by rfl); have g11 := uE HQA11 g10 (by rfl); have g12 := uE HQA12 g11 (by rfl); have g13 := uE HQA13 g12 (by rfl); have g14 := uE HQA14 g13 (by rfl); have g15 := uE HQA15 g14 (by rfl); have g16 := uE HQA16 g15 (by rfl); have g17 := uE HQA17 g16 (by rfl); have g18 := uE HQA18 g17 (by rfl)
              obtain ⟨f, hf⟩ := g18
              rw [HQA0.out] at hf
              refine hKq _ _ (Met.intro (hJq _ _ ?_))
              refine ⟨f 38, f 39, f 40, f 41, f 42, f 43, f 44, f 45, f 46, f 47, f 48, f 49, f 50, f 51, f 52, f 53, f 54, f 55, ⟨⟨_, HFIN⟩, (HSQ.out w8 ((HK7.out.mono (fun _ _ e => .inr e)).trans HK8.out (fun _ _ e => .inl e))).1, (HK7.out.mono (fun b' hb e => (HW5.out.lt b' e).1)).trans HK8.out (fun i hi e => by have e' : i = V.bw := e; rw [e']; exact HR5.out.wt.ge)⟩, hf.trans (by kernel_rfl)⟩
          case rest =>
            obtain ⟨⟨V2, h8⟩, hbx8, hk8⟩ := hcut
            obtain ⟨w8, hw8⟩ : ∃ w8, w8 = wc := ⟨_, rfl⟩
            rw [← hw8] at h8 hbx8 hk8 ⊢
            clear hw8; have HR8 := Lib.hid h8
            have HK8 : Hid (Keep (fun _ => False) w w8) := Lib.hid ((((HK.out.trans HK3.out (fun _ _ e => e)).trans HK4.out (fun _ _ e => e)).trans HK5.out (fun _ _ e => e)).trans hk8 (fun i hi e => by have e' : w.heap.size ≤ i := e; omega))
            have hoe := HOK.out.enq HOP.out (j : Int) (by have := HTO.out; omega)
            have HOE := Lib.hid hoe
            have HG8 := Lib.hid (goOn_any h8 HK8.out.size HTX.out hoe.1)
            clear h8 hk8 hoe
            cases wb with
            | false =>
              have h0 : s.wt txn = [] := by
                have q := HWB.out.symm
                simp only [decide_eq_false_iff_not, Nat.not_lt, Nat.le_zero] at q
                exact List.eq_nil_of_length_eq_zero (HNW.out.symm.trans q)
              have HE := Lib.hid h0; clear h0
              cases hb2 : (goOnS ((enq s (txn, kind, item) (j : Int)).wt txn).length (enq s (txn, kind, item) (j : Int)) txn).2 with
              | false =>
                have HBB := Lib.hid hb2; clear hb2
                go_wp2_with (go_at_call 109; refine Calls.mono HG8.out ?_; rintro e w9 ⟨rfl, ⟨V9, h9⟩, hk9⟩; rw [HBB.out]; have HR9 := Lib.hid h9; have HK9 := Lib.hid hk9; clear h9 hk9)
                go_roundw
                case rel =>
                  have hst : LStep s (txn, kind, item) (j : Int) (goOnT (enq s (txn, kind, item) (j : Int)) txn) := .go HIN.out HE.out HBB.out
                  have hok2 := hst.ok HOK.out HOP.out (by have := HTO.out; omega)
                  exact ⟨j + 1, goOnT (enq s (txn, kind, item) (j : Int)) txn, V9, by have := HJL.out; omega, rfl, HR9.out, hok2.1, by have := HTO.out; have := hok2.2; omega, by rw [HTK.out]; exact HRN.out.snoc (by rw [HLT.out]; exact hst), HK8.out.trans HK9.out (fun i hi e => by have e' : w.heap.size ≤ i := e; omega)⟩
                case measure => have := HJL.out; simp [intOf]; omega
              | true =>
                have HBB := Lib.hid hb2; clear hb2
                go_upto_region 11 with (go_at_call 109; refine Calls.mono HG8.out ?_; rintro e w9 ⟨rfl, ⟨V9, h9⟩, hk9⟩; rw [HBB.out]; have HK9 : Hid (Keep (fun _ => False) w w9) := Lib.hid (HK8.out.trans hk9 (fun i hi e => by have e' : w.heap.size ≤ i := e; omega)); have HRT := Lib.hid (retry_any h9 HK9.out.size (goOnT_ok HOE.out.1 txn)); clear h9 hk9)
                go_wp2_with (go_at_call 110; refine Calls.mono HRT.out ?_; rintro e w10 ⟨rfl, s10, V10, hrt, h10, hk10⟩; have HR10 := Lib.hid h10; have HRY := Lib.hid hrt; have HK10 : Hid (Keep (fun _ => False) w w10) := Lib.hid (HK9.out.trans hk10 (fun i hi e => by have e' : w.heap.size ≤ i := e; omega)); clear h10 hrt hk10)
                go_roundw
                case rel =>
                  have hst : LStep s (txn, kind, item) (j : Int) s10 := .re HIN.out HE.out HBB.out HRY.out
                  have hok2 := hst.ok HOK.out HOP.out (by have := HTO.out; omega)
                  exact ⟨j + 1, _, V10, by have := HJL.out; omega, rfl, HR10.out, hok2.1, by have := HTO.out; have := hok2.2; omega, by rw [HTK.out]; exact HRN.out.snoc (by rw [HLT.out]; exact hst), HK10.out⟩
                case measure => have := HJL.out; simp [intOf]; omega
            | true =>
              have h0 : s.wt txn ≠ [] := by
                have q := HWB.out.symm
                simp only [decide_eq_true_eq] at q
                rw [HNW.out] at q
                exact List.length_pos_iff.1 q
              have HE := Lib.hid h0; clear h0
              go_wp2_with fail
              go_roundw
              case rel =>
                have hst : LStep s (txn, kind, item) (j : Int) (enq s (txn, kind, item) (j : Int)) := .wait HIN.out HE.out
                have hok2 := hst.ok HOK.out HOP.out (by have := HTO.out; omega)
                exact ⟨j + 1, _, V2, by have := HJL.out; omega, rfl, HR8.out, hok2.1, by have := HTO.out; have := hok2.2; omega, by rw [HTK.out]; exact HRN.out.snoc (by rw [HLT.out]; exact hst), HK8.out⟩
              case measure => have := HJL.out; simp [intOf]; omega
      · have hj1 : ((j : Int) < (h.length : Int)) = False := eq_false (by omega)
        have HJJ : Hid (h.take j = h) := Lib.hid (List.take_of_length_le (by omega))
        obtain ⟨dao, dcap, hvd, _⟩ := ownsRow_shape HRR.out.done
        obtain ⟨aao, acap, hva, _⟩ := ownsRow_shape HRR.out.ab
        have c12 : wr.cell? ⟨r, 12, none⟩ = some (.slice dao s.done.length dcap) := (HRR.out.lk.blk.cell 12).trans ((lock_rest (j := 0)).trans (by simp [hvd]))
        have c13 : wr.cell? ⟨r, 13, none⟩ = some (.slice aao s.ab.length acap) := (HRR.out.lk.blk.cell 13).trans ((lock_rest (j := 1)).trans (by simp [hva]))
        have HVD := Lib.hid hvd; clear hjl hvd hva
        go_wp2_with fail
        go_quiet (fail)
        go_wp2_with fail
        go_ret3
        refine ⟨HK.out.drewN _, .inr ⟨HVB.out, s, _, _, rfl, by have := HRN.out; rw [HJJ.out] at this; exact this, HOK.out, ?_⟩⟩
        have := HRR.out.done
        rw [HVD.out] at this
        exact this
end Go.Proofs.YthdkamnclbfehaaGreatDoor
