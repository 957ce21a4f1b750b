/- cubebref09.Do: blend. -/
import Derived.Test.YthdkamnclbfehaaGreatDoorO27
import Derived.Deep.LoopGhost
import Derived.Deep.DeepCutAuto
import Derived.Deep.CutBlock
/- cubebref09.Do: blend. -/
namespace Go.Proofs.YthdkamnclbfehaaGreatDoor
set_option linter.unusedSimpArgs false
set_option linter.unusedVariables false
set_option linter.unnecessarySimpa false
open Go.RowKit
theorem run_index_two (W : World) (a b : Int) : (Instr.index 176 (.agg #[.int .i64 a, .int .i64 b]) (.int .i64 0)).run Tryz.prog W = .ok (.int .i64 a) W ∧
    (Instr.index 176 (.agg #[.int .i64 a, .int .i64 b]) (.int .i64 1)).run Tryz.prog W = .ok (.int .i64 b) W := by
  constructor <;> kernel_rfl
theorem wp_as_then {P : Program} {s : Code} {Q : Exit → Act → World → Prop} {a : Act} {w : World} (h : ∀ K : Act → World → Prop, (∀ a' w', Q .normal a' w' → K a' w') → s.wp P (Exit.then K Q) a w) : s.wp P Q a w := by
  refine wp_mono (h (fun a' w' => Q .normal a' w') (fun _ _ q => q)) (fun e a' w' hq => ?_)
  cases e <;> exact hq
def BRel (base nb : Nat) (w3 : World) (vl vt : Value) (S3 : St) (n1 a b : Int) (v : Value) (wr : World) : Prop :=
  ∃ uc un, Keep (fun k => base ≤ k) w3 wr ∧ ((v = .int .i64 0 ∧ RO base wr nb vl uc vt un S3) ∨ (v = .int .i64 1 ∧ RO base wr nb vl uc vt un (touchS S3 n1 a)) ∨ (v = .int .i64 2 ∧ RO base wr nb vl uc vt un (touchS (touchS S3 n1 a) n1 b)))
set_option maxHeartbeats 20000000 in
set_option maxRecDepth 100000 in
theorem rdo_blend {w : World} {vl vc vt vn bv : Value} {S : St} {m : Nat} {s wd nm : ByteArray} {ns : List Int} (hG : Glob w) (hb : Rd w 1 bv S.bays.length (icells S.bays)) (hS : RSt w vl vc vt vn S) (hI : Inv m S) (hm : m ≤ 1000000) (hs : s.size ≤ 4096)
    (hread : readR s = some (wd, nm, ns)) (hwd : wd.data.toList = [98, 108, 101, 110, 100]) {i j q : Int} (hns : ns = [i, j, q]) (hi : numB i) (hj : numB j) (hq : numB q) (hdo : doF runF S s = blendF S ⟨ns, nm, true⟩) : Calls Tryz.prog 67 #[bv, .agg #[vl, vc, vt, vn], .string s] w (RDoPost w (doF runF S s)) := by
  have H95 : Hid (∀ W, Keep (fun _ => False) w W → Calls Tryz.prog 95 #[.string s] W (ReadSaid W s)) := Lib.hid fun W hk => rread_any (hG.keep hk) hs
  have H96 : Hid (∀ W, Keep (fun _ => False) w W → Calls Tryz.prog 96 #[.int .i64 ((S.lots.length : Int) + 1)] W (ItoaPost W ((S.lots.length : Int) + 1))) := Lib.hid fun W hk => itoa_any (hG.keep hk) (by omega) (by have := hI.l; omega)
  have HREAD := Lib.hid hread; have HNS := Lib.hid hns; have HWD := Lib.hid hwd; have HDF := Lib.hid hdo; clear hns hwd hdo; have HNI := Lib.hid hi; have HNJ := Lib.hid hj; have HNQ := Lib.hid hq; clear hi hj hq; have HG := Lib.hid hG; have HBV := Lib.hid hb; have HST := Lib.hid hS; have HI := Lib.hid hI
  have hl20 := hI.l
  have hc2 := hI.c
  have ht2 := hI.t
  have hn2 := hI.n
  obtain ⟨lo, lc, hvl, hlc, _⟩ := hS.l.shape
  obtain ⟨co, cc, hvc, hcc, _⟩ := hS.c.shape
  obtain ⟨to_, tc, hvt, htc, _⟩ := hS.t.shape
  obtain ⟨no, nc, hvn, hnc, _⟩ := hS.n.shape
  subst hvl hvc hvt hvn
  obtain ⟨cells, hcells⟩ : ∃ c : Array Value, c = #[.slice lo S.lots.length lc, .slice co S.contacts.length cc, .slice to_ S.tests.length tc, .slice no S.notes.length nc] := ⟨_, rfl⟩
  have hT0 : Blk ((w.alloc (.cells #[.slice lo S.lots.length lc, .slice co S.contacts.length cc, .slice to_ S.tests.length tc, .slice no S.notes.length nc] 74)).alloc (.cells #[.slice none 0 0, .slice none 0 0, .slice none 0 0, .slice none 0 0] 74)) w.heap.size #[.slice lo S.lots.length lc, .slice co S.contacts.length cc, .slice to_ S.tests.length tc, .slice no S.notes.length nc] 74 := (Blk.new _ _ _).alloc _
  have hR0 : Blk ((w.alloc (.cells #[.slice lo S.lots.length lc, .slice co S.contacts.length cc, .slice to_ S.tests.length tc, .slice no S.notes.length nc] 74)).alloc (.cells #[.slice none 0 0, .slice none 0 0, .slice none 0 0, .slice none 0 0] 74)) (w.heap.size + 1) #[.slice none 0 0, .slice none 0 0, .slice none 0 0, .slice none 0 0] 74 := by
    have := Blk.new (w.alloc (.cells #[.slice lo S.lots.length lc, .slice co S.contacts.length cc, .slice to_ S.tests.length tc, .slice no S.notes.length nc] 74)) #[.slice none 0 0, .slice none 0 0, .slice none 0 0, .slice none 0 0] 74
    rwa [World.size_alloc] at this
  have hK0 : Keep (fun _ => False) w ((w.alloc (.cells #[.slice lo S.lots.length lc, .slice co S.contacts.length cc, .slice to_ S.tests.length tc, .slice no S.notes.length nc] 74)).alloc (.cells #[.slice none 0 0, .slice none 0 0, .slice none 0 0, .slice none 0 0] 74)) := ((Keep.refl _ _).alloc _).alloc _
  have HT0 := Lib.hid hT0; have HR0 := Lib.hid hR0; have HK0 := Lib.hid hK0; clear hG hb hS hI hread hs hcells cells hT0 hR0 hK0
  go_enter Tryz.func67, Tryz.ntmps67
  go_upto_region 4 with (go_at_call 95; refine (H95.out _ HK0.out).mono ?_; rintro e w2 ⟨hk2, _, hsay⟩; obtain ⟨vn9, rfl, hrd9⟩ := hsay _ _ _ HREAD.out; obtain ⟨oo, ocp, rfl, _⟩ := hrd9.shape; have HK2 := Lib.hid hk2; have HRD9 := Lib.hid hrd9; clear hk2 hsay hrd9)
  obtain ⟨w3, hw3⟩ : ∃ w3, w3 = w2.alloc (.cells #[.string wd, .string nm, .slice oo ns.length ocp] 169) := ⟨_, rfl⟩
  have h23 : Keep (fun _ => False) w2 w3 := by rw [hw3]; exact (Keep.refl _ _).alloc _
  have HA3 : Hid (Blk w3 w2.heap.size #[.string wd, .string nm, .slice oo ns.length ocp] 169) := Lib.hid (by rw [hw3]; exact Blk.new _ _ _)
  have HT3 := Lib.hid ((HT0.out.keep HK2.out (fun h => h)).keep h23 (fun h => h))
  have HR3 := Lib.hid ((HR0.out.keep HK2.out (fun h => h)).keep h23 (fun h => h))
  have HK3 := Lib.hid ((HK0.out.trans HK2.out (fun _ _ h => h)).trans h23 (fun _ _ h => h))
  have HN3 := Lib.hid (HRD9.out.keep h23 (fun _ _ h => h))
  rw [← hw3]
  clear hw3 h23
  have HSX : Hid (∀ W, Keep (fun _ => False) w3 W → W.cell? ⟨w.heap.size, 0, none⟩ = some (.slice lo S.lots.length lc) ∧ W.cell? ⟨w.heap.size, 1, none⟩ = some (.slice co S.contacts.length cc) ∧ W.cell? ⟨w.heap.size, 2, none⟩ = some (.slice to_ S.tests.length tc) ∧ W.cell? ⟨w.heap.size, 3, none⟩ = some (.slice no S.notes.length nc) ∧ Keep (fun _ => False) w3 W) := Lib.hid fun W hk =>
    have h := HT3.out.keep hk (fun h => h)
    ⟨h.cell 0, h.cell 1, h.cell 2, h.cell 3, hk⟩
  go_cut [11] from 30 to 47 (fun s11 wx => ∃ nb ul uc ut un, s11 = .pointer (some ⟨nb, 0, none⟩) ∧ RO w3.heap.size wx nb ul uc ut un S ∧ Keep (fun _ => False) w3 wx)
  case first =>
    refine rdo_copy (w := w) (S := S) ⟨by kernel_rfl, by kernel_rfl, ⟨_, _, rfl⟩, ⟨_, _, rfl⟩, ⟨_, _, rfl⟩, ⟨_, _, rfl⟩, ⟨_, _, rfl⟩, ⟨_, _, rfl⟩, ⟨_, _, rfl⟩, ⟨_, _, rfl⟩, ⟨_, _, rfl⟩, ⟨_, _, rfl⟩, ⟨_, _, rfl⟩, ⟨_, _, rfl⟩, ⟨_, _, rfl⟩, ⟨_, _, rfl⟩, ⟨_, _, rfl⟩, ⟨_, _, rfl⟩, ⟨_, _, rfl⟩, ⟨_, _, rfl⟩, ⟨_, _, _, rfl, by kernel_rfl⟩⟩ (by kernel_rfl) (by rfl) (by omega) (by omega) (by omega) (by omega) HK3.out HST.out (fun W hk => have h := HSX.out W hk; ⟨h.1, h.2.1, h.2.2.1, h.2.2.2.1⟩) (fun f wx nb hf hro hkx => ?_)
    simp only [updL, copyKs, Act.put, List.setIfInBounds_toArray, List.set_cons_zero, List.set_cons_succ]
    have HRO := Lib.hid hro; clear hro
    go_wp2_with fail
    go_meet
    exact ⟨nb, _, _, _, _, rfl, HRO.out, hkx⟩
  case rest =>
    obtain ⟨nb, ul, uc, ut, un, rfl, hro, hkc⟩ := hcut
    obtain ⟨ulo, ulc, rfl, _⟩ := ownsRow_shape hro.l
    obtain ⟨uco, ucc, rfl, _⟩ := ownsRow_shape hro.c
    obtain ⟨uto, utc, rfl, _⟩ := ownsRow_shape hro.t
    obtain ⟨uno, unc, rfl, _⟩ := ownsRow_shape hro.n
    obtain ⟨x0, x1, x2, x3, _⟩ := rdo_cells (HT3.out.keep hkc (fun h => h)) (HR3.out.keep hkc (fun h => h))
    have HRO := Lib.hid hro; have HKC := Lib.hid hkc
    have HAC : Hid (∀ W, Keep (fun _ => False) w3 W → W.cell? ⟨w2.heap.size, 0, none⟩ = some (.string wd) ∧ W.cell? ⟨w2.heap.size, 1, none⟩ = some (.string nm) ∧ W.cell? ⟨w2.heap.size, 2, none⟩ = some (.slice oo ns.length ocp)) := Lib.hid fun W hk =>
      have h := HA3.out.keep hk (fun h => h)
      ⟨h.cell 0, h.cell 1, h.cell 2⟩
    clear hro hkc
    have hwd := HWD.out
    have hc0 := lit_ne wd [116, 97, 107, 101] (by rw [hwd]; decide)
    have hc1 := lit_eq _ _ hwd
    clear hwd
    have HRC : Hid (∀ W, Keep (fun _ => False) wc W → _) := Lib.hid fun W hk => rdo_cells (HT3.out.keep (HKC.out.trans hk (fun _ _ h => h)) (fun h => h)) (HR3.out.keep (HKC.out.trans hk (fun _ _ h => h)) (fun h => h))
    have HAW : Hid (∀ W, Keep (fun _ => False) wc W → _) := Lib.hid fun W hk => HAC.out W (HKC.out.trans hk (fun _ _ h => h))
    have hn0 : ns.length = 3 := by rw [HNS.out]; rfl
    obtain ⟨ng, no', rfl, hnx⟩ := rd_ints HN3.out (by omega)
    have HNC : Hid (∀ W, Keep (fun _ => False) w3 W → W.cell? ⟨ng, no', none⟩ = some (.int .i64 i) ∧ W.cell? ⟨ng, no' + 1, none⟩ = some (.int .i64 j) ∧ W.cell? ⟨ng, no' + 2, none⟩ = some (.int .i64 q)) := Lib.hid fun W hk => by
      have h0 := hnx W 0 hk (by omega)
      have h1 := hnx W 1 hk (by omega)
      have h2 := hnx W 2 hk (by omega)
      rw [HNS.out] at h0 h1 h2
      exact ⟨h0, h1, h2⟩
    clear hnx
    have HNW : Hid (∀ W, Keep (fun _ => False) wc W → _) := Lib.hid fun W hk => HNC.out W (HKC.out.trans hk (fun _ _ h => h))
    by_cases hfull : S.lots.length = 20
    · have HF : Hid (doF runF S s = ⟨9, S, bs []⟩) := Lib.hid (by rw [HDF.out]; unfold blendF; rw [if_pos hfull])
      have g20 : decide ((20 : Int) ≤ (S.lots.length : Int)) = true := decide_eq_true (by omega)
      clear hfull
      go_wp2_with (go_at_call 96; refine (H96.out _ (HK3.out.trans HKC.out (fun _ _ h => h))).mono ?_; rintro e w5 ⟨rfl, hk5⟩; obtain ⟨t0, t1, t2, t3, r0, r1, r2, r3, f0, f1, f2, f3⟩ := HRC.out _ hk5; obtain ⟨a0, a1, a2⟩ := HAW.out _ hk5; have HKR := Lib.hid hk5; clear hk5)
      obtain ⟨n0, n1, n2⟩ := HNW.out _ HKR.out
      go_quiet (fail)
      go_wp2_with fail
      (try simp only [Exit.inBlock, Exit.then])
      refine rdo_back (HR3.out.keep (HKC.out.trans (HKR.out.drewN nq) (fun _ _ h => h)) (fun h => h)) rfl rfl rfl rfl rfl (fun wf hkf => ?_)
      exact rdo_no (by decide) HF.out HST.out (((HK3.out.trans HKC.out (fun _ _ h => h)).trans (HKR.out.drewN nq) (fun _ _ h => h)).trans hkf (fun k hk e => by omega))
    have g20 : decide ((20 : Int) ≤ (S.lots.length : Int)) = false := decide_eq_false (by omega)
    cases hi : hasLot S i with
    | false =>
      have HF : Hid (doF runF S s = ⟨5, S, bs []⟩) := Lib.hid (by rw [HDF.out, HNS.out]; unfold blendF allLots; rw [if_neg hfull]; simp [hi])
      have HIL := Lib.hid hi; clear hi hfull
      go_wp2_with (go_at_call 96; refine (H96.out _ (HK3.out.trans HKC.out (fun _ _ h => h))).mono ?_; rintro e w5 ⟨rfl, hk5⟩; obtain ⟨t0, t1, t2, t3, r0, r1, r2, r3, f0, f1, f2, f3⟩ := HRC.out _ hk5; obtain ⟨a0, a1, a2⟩ := HAW.out _ hk5; have HKR := Lib.hid hk5; clear hk5)
      obtain ⟨n0, n1, n2⟩ := HNW.out _ HKR.out
      go_quiet (fail)
      go_wp2_with (go_at_call 97; refine Calls.mono (has_any (S := S)) ?_; rintro e w6 ⟨rfl, hk6⟩; rw [HIL.out]; (first | (have HKR := Lib.hid ((HKR.out.drewN nq).trans hk6 (fun _ _ h => h))) | (have HKR := Lib.hid (HKR.out.trans hk6 (fun _ _ h => h)))); obtain ⟨t0, t1, t2, t3, r0, r1, r2, r3, f0, f1, f2, f3⟩ := HRC.out _ HKR.out; clear hk6)
      (try simp only [Exit.inBlock, Exit.then])
      refine rdo_back (HR3.out.keep (HKC.out.trans (HKR.out) (fun _ _ h => h)) (fun h => h)) rfl rfl rfl rfl rfl (fun wf hkf => ?_)
      exact rdo_no (by decide) HF.out HST.out (((HK3.out.trans HKC.out (fun _ _ h => h)).trans (HKR.out) (fun _ _ h => h)).trans hkf (fun k hk e => by omega))
    | true =>
      have HIL := Lib.hid hi
      cases hj : hasLot S j with
      | false =>
        have HF : Hid (doF runF S s = ⟨5, S, bs []⟩) := Lib.hid (by rw [HDF.out, HNS.out]; unfold blendF allLots; rw [if_neg hfull]; simp [hj])
        have HJL := Lib.hid hj; clear hi hj hfull
        go_wp2_with (go_at_call 96; refine (H96.out _ (HK3.out.trans HKC.out (fun _ _ h => h))).mono ?_; rintro e w5 ⟨rfl, hk5⟩; obtain ⟨t0, t1, t2, t3, r0, r1, r2, r3, f0, f1, f2, f3⟩ := HRC.out _ hk5; obtain ⟨a0, a1, a2⟩ := HAW.out _ hk5; have HKR := Lib.hid hk5; clear hk5)
        obtain ⟨n0, n1, n2⟩ := HNW.out _ HKR.out
        go_quiet (fail)
        go_wp2_with (go_at_call 97; refine Calls.mono (has_any (S := S)) ?_; rintro e w6 ⟨rfl, hk6⟩; (first | rw [HIL.out] | rw [HJL.out]); (first | (have HKR := Lib.hid ((HKR.out.drewN nq).trans hk6 (fun _ _ h => h))) | (have HKR := Lib.hid (HKR.out.trans hk6 (fun _ _ h => h)))); obtain ⟨t0, t1, t2, t3, r0, r1, r2, r3, f0, f1, f2, f3⟩ := HRC.out _ HKR.out; clear hk6)
        (try simp only [Exit.inBlock, Exit.then])
        refine rdo_back (HR3.out.keep (HKC.out.trans (HKR.out) (fun _ _ h => h)) (fun h => h)) rfl rfl rfl rfl rfl (fun wf hkf => ?_)
        exact rdo_no (by decide) HF.out HST.out (((HK3.out.trans HKC.out (fun _ _ h => h)).trans (HKR.out) (fun _ _ h => h)).trans hkf (fun k hk e => by omega))
      | true =>
        have HJL := Lib.hid hj
        obtain ⟨k1, rfl, hk1⟩ := hasLot_at hi
        obtain ⟨k2, rfl, hk2⟩ := hasLot_at hj
        obtain ⟨X, hX⟩ : ∃ X, S.lots[k1]? = some X := ⟨_, List.getElem?_eq_getElem hk1⟩
        obtain ⟨Y, hY⟩ : ∃ Y, S.lots[k2]? = some Y := ⟨_, List.getElem?_eq_getElem hk2⟩
        have hF0 : doF runF S s = if (k1 : Int) + 1 = (k2 : Int) + 1 ∨ q = 0 then ⟨7, S, bs []⟩ else if X.closed || (Y.closed || decide (min X.grams Y.grams < q)) then ⟨7, S, bs []⟩
            else ⟨0, blendT S ((k1 : Int) + 1) ((k2 : Int) + 1) q X Y, bs [98, 108, 101, 110, 100] ++ (bs [32] ++ itoaB ((S.lots.length : Int) + 1))⟩ := by
          rw [HDF.out, HNS.out]; unfold blendF
          simp only [List.getD_cons_zero, List.getD_cons_succ]
          rw [if_neg hfull, if_pos (by unfold allLots; simp [hi, hj]), show ((k1 : Int) + 1 - 1).toNat = k1 by omega, show ((k2 : Int) + 1 - 1).toNat = k2 by omega, hX, hY]
        obtain ⟨lg, lof, rfl, hlx⟩ := HST.out.lot (by omega)
        have HLX : Hid (∀ W i Y, Keep (fun _ => False) wc W → S.lots[i]? = some Y → _) := Lib.hid fun W i Y hw hY => hlx W i Y ((HK3.out.trans HKC.out (fun _ _ h => h)).trans hw (fun _ _ h => h)) hY
        obtain ⟨ug, rfl⟩ := HRO.out.lrow (by omega)
        have HX := Lib.hid hX; have HY := Lib.hid hY
        have hw1 : IntKind.i64.wrap ((k1 : Int) + 1 - 1) = (k1 : Int) := by rw [IntWalk.i64_in _ (by omega)]; omega
        have hw2 : IntKind.i64.wrap ((k2 : Int) + 1 - 1) = (k2 : Int) := by rw [IntWalk.i64_in _ (by omega)]; omega
        have hw1' : IntKind.i64.wrap (k1 : Int) = (k1 : Int) := IntWalk.i64_in _ (by omega)
        have hw2' : IntKind.i64.wrap (k2 : Int) = (k2 : Int) := IntWalk.i64_in _ (by omega)
        have hI1 : ((k1 : Int) < (S.lots.length : Int)) = True := eq_true (by omega)
        have hI2 : ((k2 : Int) < (S.lots.length : Int)) = True := eq_true (by omega)
        clear hlx hX hY hi hj hfull
        go_wp2_with (go_at_call 96; refine (H96.out _ (HK3.out.trans HKC.out (fun _ _ h => h))).mono ?_; rintro e w5 ⟨rfl, hk5⟩; obtain ⟨t0, t1, t2, t3, r0, r1, r2, r3, f0, f1, f2, f3⟩ := HRC.out _ hk5; obtain ⟨a0, a1, a2⟩ := HAW.out _ hk5; have HKR := Lib.hid hk5; clear hk5)
        obtain ⟨n0, n1, n2⟩ := HNW.out _ HKR.out
        go_quiet (fail)
        go_upto_region 20 with (go_at_call 97; refine Calls.mono (has_any (S := S)) ?_; rintro e w6 ⟨rfl, hk6⟩; (first | rw [HIL.out] | rw [HJL.out]); (first | (have HKR := Lib.hid ((HKR.out.drewN nq).trans hk6 (fun _ _ h => h))) | (have HKR := Lib.hid (HKR.out.trans hk6 (fun _ _ h => h)))); obtain ⟨t0, t1, t2, t3, r0, r1, r2, r3, f0, f1, f2, f3⟩ := HRC.out _ HKR.out; clear hk6)
        refine wp_world fun wz hwz => ?_
        have HKZ : Hid (Keep (fun _ => False) wc wz) := Lib.hid (by rw [hwz]; exact HKR.out)
        clear hwz t0 t1 t2 t3 r0 r1 r2 r3 f0 f1 f2 f3 n0 n1 n2 a0 a1 a2
        obtain ⟨t0, t1, t2, t3, r0, r1, r2, r3, f0, f1, f2, f3⟩ := HRC.out _ HKZ.out
        obtain ⟨x0, x1, x2, x3⟩ := HLX.out _ _ _ HKZ.out HX.out
        obtain ⟨y0, y1, y2, y3⟩ := HLX.out _ _ _ HKZ.out HY.out
        by_cases hij : k1 = k2
        · have HF : Hid (doF runF S s = ⟨7, S, bs []⟩) := Lib.hid (by rw [hF0, if_pos (.inl (by omega))])
          have eij : ((k1 : Int) == (k2 : Int)) = true := by rw [hij]; simp
          have eij2 : ((k1 : Int) + 1 == (k2 : Int) + 1) = true := by rw [hij]; simp
          clear hF0
          go_wp2_with fail
          (try simp only [Exit.inBlock, Exit.then])
          refine rdo_back (HR3.out.keep (HKC.out.trans (HKZ.out) (fun _ _ h => h)) (fun h => h)) rfl rfl rfl rfl rfl (fun wf hkf => ?_)
          exact rdo_no (by decide) HF.out HST.out (((HK3.out.trans HKC.out (fun _ _ h => h)).trans (HKZ.out) (fun _ _ h => h)).trans hkf (fun k hk e => by omega))
        have eij : ((k1 : Int) == (k2 : Int)) = false := by simp; omega
        have eij2 : ((k1 : Int) + 1 == (k2 : Int) + 1) = false := by simp; omega
        cases hcx : X.closed with
        | true =>
          have HF : Hid (doF runF S s = ⟨7, S, bs []⟩) := Lib.hid (by rw [hF0]; split; rfl; rw [if_pos (by rw [hcx]; rfl)])
          rw [hcx] at x3
          clear hF0
          go_wp2_with fail
          (try simp only [Exit.inBlock, Exit.then])
          refine rdo_back (HR3.out.keep (HKC.out.trans (HKZ.out) (fun _ _ h => h)) (fun h => h)) rfl rfl rfl rfl rfl (fun wf hkf => ?_)
          exact rdo_no (by decide) HF.out HST.out (((HK3.out.trans HKC.out (fun _ _ h => h)).trans (HKZ.out) (fun _ _ h => h)).trans hkf (fun k hk e => by omega))
        | false =>
          rw [hcx] at x3
          cases hcy : Y.closed with
          | true =>
            have HF : Hid (doF runF S s = ⟨7, S, bs []⟩) := Lib.hid (by rw [hF0]; split; rfl; rw [if_pos (by rw [hcy]; simp)])
            rw [hcy] at y3
            clear hF0
            go_wp2_with fail
            (try simp only [Exit.inBlock, Exit.then])
            refine rdo_back (HR3.out.keep (HKC.out.trans (HKZ.out) (fun _ _ h => h)) (fun h => h)) rfl rfl rfl rfl rfl (fun wf hkf => ?_)
            exact rdo_no (by decide) HF.out HST.out (((HK3.out.trans HKC.out (fun _ _ h => h)).trans (HKZ.out) (fun _ _ h => h)).trans hkf (fun k hk e => by omega))
          | false =>
            rw [hcy] at y3
            by_cases hgx : X.grams < q
            · have HF : Hid (doF runF S s = ⟨7, S, bs []⟩) := Lib.hid (by rw [hF0]; split; rfl; rw [if_pos (by rw [decide_eq_true (show min X.grams Y.grams < q by omega)]; simp)])
              have dgx : decide (X.grams < q) = true := decide_eq_true hgx
              clear hF0
              go_wp2_with fail
              (try simp only [Exit.inBlock, Exit.then])
              refine rdo_back (HR3.out.keep (HKC.out.trans (HKZ.out) (fun _ _ h => h)) (fun h => h)) rfl rfl rfl rfl rfl (fun wf hkf => ?_)
              exact rdo_no (by decide) HF.out HST.out (((HK3.out.trans HKC.out (fun _ _ h => h)).trans (HKZ.out) (fun _ _ h => h)).trans hkf (fun k hk e => by omega))
            have dgx : decide (X.grams < q) = false := decide_eq_false hgx
            by_cases hgy : Y.grams < q
            · have HF : Hid (doF runF S s = ⟨7, S, bs []⟩) := Lib.hid (by rw [hF0]; split; rfl; rw [if_pos (by rw [decide_eq_true (show min X.grams Y.grams < q by omega)]; simp)])
              have dgy : decide (Y.grams < q) = true := decide_eq_true hgy
              clear hF0
              go_wp2_with fail
              (try simp only [Exit.inBlock, Exit.then])
              refine rdo_back (HR3.out.keep (HKC.out.trans (HKZ.out) (fun _ _ h => h)) (fun h => h)) rfl rfl rfl rfl rfl (fun wf hkf => ?_)
              exact rdo_no (by decide) HF.out HST.out (((HK3.out.trans HKC.out (fun _ _ h => h)).trans (HKZ.out) (fun _ _ h => h)).trans hkf (fun k hk e => by omega))
            have dgy : decide (Y.grams < q) = false := decide_eq_false hgy
            by_cases hq0 : q = 0
            · have HF : Hid (doF runF S s = ⟨7, S, bs []⟩) := Lib.hid (by rw [hF0, if_pos (.inr hq0)])
              have dq : (q == 0) = true := by simpa using hq0
              clear hF0
              go_wp2_with fail
              (try simp only [Exit.inBlock, Exit.then])
              refine rdo_back (HR3.out.keep (HKC.out.trans (HKZ.out) (fun _ _ h => h)) (fun h => h)) rfl rfl rfl rfl rfl (fun wf hkf => ?_)
              exact rdo_no (by decide) HF.out HST.out (((HK3.out.trans HKC.out (fun _ _ h => h)).trans (HKZ.out) (fun _ _ h => h)).trans hkf (fun k hk e => by omega))
            have dq : (q == 0) = false := by simpa using hq0
            have HF : Hid (doF runF S s = ⟨0, blendT S ((k1 : Int) + 1) ((k2 : Int) + 1) q X Y, (⟨#[98, 108, 101, 110, 100, 32]⟩ : ByteArray) ++ itoaB ((S.lots.length : Int) + 1)⟩) := Lib.hid (by rw [hF0, if_neg (by omega), hcx, hcy, decide_eq_false (show ¬ min X.grams Y.grams < q by omega)]; exact congrArg (Res.mk 0 _) (ByteArray.ext (by simp [bs])))
            clear hF0 hgx hgy hq0
            have hr5 := HRO.out.keep HKZ.out (fun _ h => h.elim)
            have b0 := hr5.blk.cell 0
            simp at b0
            obtain ⟨⟨_, l1, _, _⟩, hfr⟩ := hr5.lot HX.out
            have y1f := hfr (k1 * 4 + 1)
            have HR5 := Lib.hid hr5; clear hr5 hfr
            go_upto_region 23 with fail
            clear t0 t1 t2 t3 r0 r1 r2 r3 f0 f1 f2 f3 x0 x1 x2 x3 y0 y1 y2 y3 b0 l1 y1f eij eij2 dgx dgy dq hcx hcy
            obtain ⟨h7, hk7, hug⟩ := HR5.out.setLot HX.out 1 (by omega) { X with grams := wrap64 (X.grams - q) } (.int .i64 (wrap64 (X.grams - q))) rfl
            refine wp_world fun wy hwy => ?_
            obtain ⟨L1, hL1⟩ : ∃ L1, L1 = S.lots.set k1 { X with grams := wrap64 (X.grams - q) } := ⟨_, rfl⟩
            have hL1l : L1.length = S.lots.length := by rw [hL1]; simp
            rw [← hL1] at h7
            have h7' : RO w3.heap.size wy nb (.slice (some ⟨ug, 0, none⟩) L1.length ulc) (.slice uco S.contacts.length ucc) (.slice uto S.tests.length utc) (.slice uno S.notes.length unc) { S with lots := L1 } := by rw [hwy, hL1l]; exact h7
            have HK7 : Hid (Keep (fun b => w3.heap.size ≤ b) wz wy) := Lib.hid (by rw [hwy]; exact hk7.mono (fun b _ e => by rw [e]; exact hug))
            have hY1 : L1[k2]? = some Y := by rw [hL1, List.getElem?_set_ne hij]; exact HY.out
            have HUG := Lib.hid hug
            have b0 := h7'.blk.cell 0
            simp at b0
            rw [hL1l] at b0
            obtain ⟨⟨_, l1, _, _⟩, hfr⟩ := h7'.lot (S := { S with lots := L1 }) hY1
            have y1f := hfr (k2 * 4 + 1)
            have H7 := Lib.hid h7'
            have HY1 := Lib.hid hY1; have HL1 := Lib.hid hL1; have HL1L := Lib.hid hL1l; clear h7 h7' hk7 hug hwy hY1 hL1 hL1l hfr
            go_upto_region 24 with fail
            clear b0 l1 y1f
            obtain ⟨h6, hk6, _⟩ := H7.out.setLot (S := { S with lots := L1 }) HY1.out 1 (by omega) { Y with grams := wrap64 (Y.grams - q) } (.int .i64 (wrap64 (Y.grams - q))) rfl
            refine wp_world fun wx hwx => ?_
            obtain ⟨L2, hL2⟩ : ∃ L2, L2 = L1.set k2 { Y with grams := wrap64 (Y.grams - q) } := ⟨_, rfl⟩
            have hL2l : L2.length = S.lots.length := by rw [hL2, List.length_set]; exact HL1L.out
            have h6' : RO w3.heap.size wx nb (.slice (some ⟨ug, 0, none⟩) S.lots.length ulc) (.slice uco S.contacts.length ucc) (.slice uto S.tests.length utc) (.slice uno S.notes.length unc) { S with lots := L2 } := by rw [hwx, hL2, ← HL1L.out]; exact h6
            have HKX : Hid (Keep (fun b => w3.heap.size ≤ b) w3 wx) := Lib.hid (((HKC.out.trans HKZ.out (fun _ _ h => h)).mono (fun _ _ h => h.elim)).trans (HK7.out.trans (by rw [hwx]; exact hk6.mono (fun b _ e => by rw [e]; exact HUG.out)) (fun _ _ h => h)) (fun _ _ h => h))
            have b0 := h6'.blk.cell 0
            simp at b0
            have H6 := Lib.hid h6'
            have HL2 := Lib.hid hL2; have HL2L := Lib.hid hL2l; clear h6 h6' hk6 hwx hL2 hL2l
            have CE : Hid ((Value.agg #[.string ⟨#[98, 108, 101, 110, 100]⟩, .int .i64 (wrap64 (2 * q)), .int .i64 (-1), .bool false]) = .agg #[.string ⟨#[98, 108, 101, 110, 100]⟩, .int .i64 (wrap64 (2 * q)), .int .i64 (-1), .bool false]) := Lib.hid rfl
            have HO8 : Hid ((wx.alloc (.cells #[.string ⟨#[98, 108, 101, 110, 100]⟩, .int .i64 (wrap64 (2 * q)), .int .i64 (-1), .bool false] 174)).ownsRow w3.heap.size 174 4 (.slice (some ⟨ug, 0, none⟩) S.lots.length ulc) S.lots.length (lotCells L2)) := Lib.hid (ownsRow_keep (by have h1 := H6.out.l; simp only [HL2L.out] at h1; exact h1) ((Keep.refl (fun _ => False) wx).alloc _) (fun _ _ h => h))
            have HS8 := Lib.hid (Rd.new wx 4 1 [.string ⟨#[98, 108, 101, 110, 100]⟩, .int .i64 (wrap64 (2 * q)), .int .i64 (-1), .bool false] 174 rfl (by simp [Value.oneCell']) (by unfold maxLen; omega))
            go_upto_region 25 with (at_builtin; refine wpList_app (w := wx.alloc (.cells #[.string ⟨#[98, 108, 101, 110, 100]⟩, .int .i64 (wrap64 (2 * q)), .int .i64 (-1), .bool false] 174)) rfl (.tmp 188) (.tmp 192) 70 70 rfl 174 (.agg #[.string ⟨#[]⟩, .int .i64 0, .int .i64 0, .bool false]) 4 40 Tryz.underlying70 info174 rfl HO8.out rfl (HS8.out.src Tryz.underlying70) rfl (by unfold maxLen; omega) (by omega) (Nat.le_trans HKX.out.size ((Keep.refl (fun _ => False) wx).alloc (.cells #[.string ⟨#[98, 108, 101, 110, 100]⟩, .int .i64 (wrap64 (2 * q)), .int .i64 (-1), .bool false] 174)).size) (fun v9 w9 happ => ?_); obtain ⟨ao9, cap9, rfl, _⟩ := ownsRow_shape happ.own; have h9 := H6.out.keep ((Keep.refl (fun _ => False) wx).alloc (.cells #[.string ⟨#[98, 108, 101, 110, 100]⟩, .int .i64 (wrap64 (2 * q)), .int .i64 (-1), .bool false] 174)) (fun _ h => h.elim); have hb9 := h9.blk.keep happ.keep (fun e => ownsRow_blk h9.l h9.blk (by decide) e); have d0 := hb9.cell 0; have y0 := hb9.free 0; simp at d0; have HKA := Lib.hid happ.keep; have H9 := Lib.hid (h9.app_l (x := ⟨bs [98, 108, 101, 110, 100], wrap64 (2 * q), -1, false⟩) happ.keep (by have h1 := happ.own; rw [List.length_append, HL2L.out]; simpa [lotCells, lotCell, bs] using h1)); clear happ h9 hb9)
            obtain ⟨m1, hm1⟩ : ∃ m1, m1 = S.lots.length + 1 := ⟨_, rfl⟩
            obtain ⟨S3, hS3⟩ : ∃ S3 : St, S3 = { S with lots := L2 ++ [(⟨bs [98, 108, 101, 110, 100], wrap64 (2 * q), -1, false⟩ : Lot)] } := ⟨_, rfl⟩
            obtain ⟨w10, hw10⟩ : ∃ w10, w10 = w9.setCell ⟨nb, 0, none⟩ (.slice ao9 (S.lots.length + 1) cap9) := ⟨_, rfl⟩
            have hk10 : Keep (fun k => w3.heap.size ≤ k) wx w10 := by rw [hw10]; exact (((Keep.refl (fun k => w3.heap.size ≤ k) wx).alloc (.cells #[.string ⟨#[98, 108, 101, 110, 100]⟩, .int .i64 (wrap64 (2 * q)), .int .i64 (-1), .bool false] 174)).trans HKA.out (fun b hb e => (ownsRow_lt HO8.out b e).1)).setCell _ _ (fun _ => HRO.out.ge)
            have h10 : RO w3.heap.size w10 nb (.slice ao9 m1 cap9) (.slice uco S.contacts.length ucc) (.slice uto S.tests.length utc) (.slice uno S.notes.length unc) S3 := by rw [hw10, hS3, hm1]; exact H9.out
            have hm1i : (m1 : Int) = (S.lots.length : Int) + 1 := by omega
            have HF : Hid (doF runF S s = ⟨0, touchS (touchS S3 (m1 : Int) ((k1 : Int) + 1)) (m1 : Int) ((k2 : Int) + 1), (⟨#[98, 108, 101, 110, 100, 32]⟩ : ByteArray) ++ itoaB ((S.lots.length : Int) + 1)⟩) := Lib.hid (by
              rw [HF.out]
              have e : blendT S ((k1 : Int) + 1) ((k2 : Int) + 1) q X Y = touchS (touchS S3 (m1 : Int) ((k1 : Int) + 1)) (m1 : Int) ((k2 : Int) + 1) := by
                unfold blendT addS blendS
                rw [hS3, HL2.out, HL1.out, hm1i, show ((k1 : Int) + 1 - 1).toNat = k1 by omega, show ((k2 : Int) + 1 - 1).toNat = k2 by omega]
              rw [e])
            rw [← hw10, ← hm1]
            have hc3 : S3.contacts.length = S.contacts.length := by rw [hS3]
            have hn3 : S3.notes.length = S.notes.length := by rw [hS3]
            have HK10 := Lib.hid (HKX.out.trans hk10 (fun _ _ h => h))
            have H10 := Lib.hid h10; have HS3 := Lib.hid hS3; have HM1 := Lib.hid hm1i
            have hm1l : m1 ≤ 21 := by omega
            have si := itoaB_size ((S.lots.length : Int) + 1) (by omega) (by omega)
            have st1 : (9223372036854775807 < 6 + (itoaB ((S.lots.length : Int) + 1)).size) = False := eq_false (by omega)
            have st2 : (9223372036854775807 < 6 + (itoaB ((S.lots.length : Int) + 1)).size + 1) = False := eq_false (by omega)
            clear hw10 hk10 h10 hS3 hm1 hm1i d0 y0 b0
            go_wp2_with fail
            go_loopw [198] (BRel w3.heap.size nb w3 (.slice ao9 m1 cap9) (.slice uto S.tests.length utc) S3 (m1 : Int) ((k1 : Int) + 1) ((k2 : Int) + 1)) (fun v _ => 2 - (intOf v).toNat)
            case atStart => exact ⟨_, _, HK10.out, .inl ⟨rfl, H10.out⟩⟩
            case round =>
              have hi0 := fun W => (run_index_two W ((k1 : Int) + 1) ((k2 : Int) + 1)).1
              have hi1 := fun W => (run_index_two W ((k1 : Int) + 1) ((k2 : Int) + 1)).2
              obtain ⟨uc2, un2, hkr, hrel⟩ := hrel
              have HKW := Lib.hid hkr; clear hkr
              rcases hrel with ⟨rfl, hro⟩ | ⟨rfl, hro⟩ | ⟨rfl, hro⟩
              · obtain ⟨T, hT⟩ : ∃ T, T = S3 := ⟨_, rfl⟩
                rw [← hT] at hro
                have hTc : T.contacts.length ≤ S.contacts.length + 1 := by rw [hT]; simp [touchS, hc3]
                have hTn : T.notes.length ≤ S.notes.length + 1 := by rw [hT]; simp [touchS, hn3]
                obtain ⟨uco2, ucc2, rfl, _⟩ := ownsRow_shape hro.c
                obtain ⟨uno2, unc2, rfl, _⟩ := ownsRow_shape hro.n
                have b0 := hro.blk.cell 0
                have b1 := hro.blk.cell 1
                simp at b0 b1
                have HR6 := Lib.hid hro; have HT := Lib.hid hT; clear hT hro
                have HO6 : Hid ((wr.alloc (.cells #[.int .i64 m1, .int .i64 ((k1 : Int) + 1)] 176)).ownsRow w3.heap.size 176 2 (.slice uco2 T.contacts.length ucc2) T.contacts.length (pairCells T.contacts)) := Lib.hid (ownsRow_keep HR6.out.c ((Keep.refl (fun _ => False) wr).alloc (.cells #[.int .i64 m1, .int .i64 ((k1 : Int) + 1)] 176)) (fun _ _ h => h))
                have HS6 := Lib.hid (Rd.new wr 2 1 [.int .i64 m1, .int .i64 ((k1 : Int) + 1)] 176 rfl (by simp [Value.oneCell']) (by unfold maxLen; omega))
                go_upto_region 29 with (at_builtin; refine wpList_app (w := wr.alloc (.cells #[.int .i64 m1, .int .i64 ((k1 : Int) + 1)] 176)) rfl (.tmp 202) (.tmp 208) 71 71 rfl 176 (.agg #[.int .i64 0, .int .i64 0]) 2 16 Tryz.underlying71 info176 rfl HO6.out rfl (HS6.out.src Tryz.underlying71) rfl (by unfold maxLen; omega) (by omega) (Nat.le_trans HKW.out.size ((Keep.refl (fun _ => False) wr).alloc (.cells #[.int .i64 m1, .int .i64 ((k1 : Int) + 1)] 176)).size) (fun v7 w7 happ => ?_); obtain ⟨ao7, cap7, rfl, _⟩ := ownsRow_shape happ.own; have h7 := HR6.out.keep ((Keep.refl (fun _ => False) wr).alloc (.cells #[.int .i64 m1, .int .i64 ((k1 : Int) + 1)] 176)) (fun _ h => h.elim); have hb7 := h7.blk.keep happ.keep (fun e => ownsRow_blk h7.c h7.blk (by decide) e); have d1 := hb7.cell 1; have y1 := hb7.free 1; simp at d1; have HKA7 := Lib.hid happ.keep; have H7 := Lib.hid (h7.app_c (x := ((m1 : Int), ((k1 : Int) + 1))) happ.keep (by have := happ.own; simpa [pairCells, pairCell] using this)); clear happ h7 hb7)
                obtain ⟨wz, hwz⟩ : ∃ wz, wz = w7.setCell ⟨nb, 1, none⟩ (.slice ao7 (T.contacts.length + 1) cap7) := ⟨_, rfl⟩
                have HK7 : Hid (Keep (fun k => w3.heap.size ≤ k) wr wz) := Lib.hid (by rw [hwz]; exact (((Keep.refl (fun k => w3.heap.size ≤ k) wr).alloc (.cells #[.int .i64 m1, .int .i64 ((k1 : Int) + 1)] 176)).trans HKA7.out (fun b hb e => (ownsRow_lt HO6.out b e).1)).setCell _ _ (fun _ => HRO.out.ge))
                have H8 := H7
                rw [← hwz] at H8 ⊢
                have HKW := Lib.hid (HKW.out.trans HK7.out (fun _ _ h => h))
                clear hwz d1 y1 b0 b1 H7 HKA7
                have HX96 : Hid (∀ W, Keep (fun _ => False) wz W → Calls Tryz.prog 96 #[.int .i64 ((k1 : Int) + 1)] W (ItoaPost W ((k1 : Int) + 1))) := Lib.hid fun W hk => itoa_any (((GW.start (HG.out.keep HK3.out)).keep HKW.out (fun i hi e => by have e2 : w3.heap.size ≤ i := e; omega)).keep hk (fun i hi e => e.elim)).glob (by omega) (by omega)
                have b3 := H8.out.blk.cell 3
                simp at b3
                have sx := itoaB_size ((k1 : Int) + 1) (by omega) (by omega)
                have st3 : (9223372036854775807 < 6 + (itoaB ((S.lots.length : Int) + 1)).size + 1 + (itoaB ((k1 : Int) + 1)).size) = False := eq_false (by omega)
                clear sx
                refine wp_as_then fun K9 hK9 => ?_
                go_cut [] from 211 to 221 (fun wv => ∃ un, RO w3.heap.size wv nb (.slice ao9 m1 cap9) (.slice ao7 (T.contacts.length + 1) cap7) (.slice uto S.tests.length utc) un (touchS T (m1 : Int) ((k1 : Int) + 1)) ∧ Keep (fun k => w3.heap.size ≤ k) wz wv)
                case first =>
                  rename_i Jq Kq hJq hKq
                  refine region_letters fun Q1 hQ1 => ?_
                  have HQ1 := Lib.hid hQ1; clear hQ1
                  refine wp_region_noPanic ?_
                  refine wp_region_held_drew (S := (fun _ => True)) (by kernel_rfl) (trivial) (fun hHeld => ?_)
                  refine wpAnyH_letter fun ac0 HQA0 => ?_
                  have HS : Hid (ac0.tmps.size = 438) := Lib.hid (by rw [HQA0.out]; kernel_rfl)
                  have e11 : ac0.tmps[11]?.getD undef = .pointer (some ⟨nb, 0, none⟩) := by rw [HQA0.out]; kernel_rfl
                  have e12 : ac0.tmps[12]?.getD undef = .string (itoaB ((S.lots.length : Int) + 1)) := by rw [HQA0.out]; kernel_rfl
                  have e17 : ac0.tmps[17]?.getD undef = .int .i64 ((k1 : Int) + 1) := by rw [HQA0.out]; kernel_rfl
                  refine wpAnyH_take (i := 0) (oi := _) (v := ?_) rfl (by kernel_rfl) (by kernel_rfl) (by kernel_rfl) (fun _ _ _ h => h) (Or.inl ⟨by rfl, ?_⟩) hHeld ?_
                  rotate_left
                  · (intro w hSw; obtain q0 := hSw; go_simp) <;> with_reducible rfl
                  refine wpAnyH_letter fun ac1 HQA1 => ?_; replace e11 := po HQA1 e11; replace e12 := po HQA1 e12; replace e17 := po HQA1 e17; have e211 := put_at HQA1 HS.out (by decide); replace HS := Lib.hid (put_sz HQA1 HS.out)
                  refine wpAnyH_take (i := 2) (oi := _) (v := ?_) rfl (by kernel_rfl) (by kernel_rfl) (by kernel_rfl) (fun _ _ _ h => h) (Or.inl ⟨by rfl, ?_⟩) hHeld ?_
                  rotate_left
                  · (intro w hSw; obtain q0 := hSw; go_simp) <;> with_reducible rfl
                  refine wpAnyH_letter fun ac2 HQA2 => ?_; replace e11 := po HQA2 e11; replace e12 := po HQA2 e12; replace e17 := po HQA2 e17; replace e211 := po HQA2 e211; have e213 := put_at HQA2 HS.out (by decide); replace HS := Lib.hid (put_sz HQA2 HS.out)
                  refine wpAnyH_take (i := 3) (oi := _) (v := ?_) rfl (by kernel_rfl) (by kernel_rfl) (by kernel_rfl) (fun _ _ _ h => h) (Or.inl ⟨by rfl, ?_⟩) hHeld ?_
                  rotate_left
                  · (intro w hSw; obtain q0 := hSw; go_simp) <;> with_reducible rfl
                  refine wpAnyH_letter fun ac3 HQA3 => ?_; replace e11 := po HQA3 e11; replace e12 := po HQA3 e12; replace e17 := po HQA3 e17; replace e211 := po HQA3 e211; replace e213 := po HQA3 e213; have e214 := put_at HQA3 HS.out (by decide); replace HS := Lib.hid (put_sz HQA3 HS.out)
                  refine wpAnyH_take (i := 4) (oi := _) (v := ?_) rfl (by kernel_rfl) (by kernel_rfl) (by kernel_rfl) (fun _ _ _ h => h) (Or.inl ⟨by rfl, ?_⟩) hHeld ?_
                  rotate_left
                  · (intro w hSw; obtain q0 := hSw; go_simp) <;> with_reducible rfl
                  refine wpAnyH_letter fun ac4 HQA4 => ?_; replace e11 := po HQA4 e11; replace e12 := po HQA4 e12; replace e17 := po HQA4 e17; replace e211 := po HQA4 e211; replace e213 := po HQA4 e213; replace e214 := po HQA4 e214; have e215 := put_at HQA4 HS.out (by decide); replace HS := Lib.hid (put_sz HQA4 HS.out)
                  refine wpAnyH_take (i := 5) (oi := _) (v := ?_) rfl (by kernel_rfl) (by kernel_rfl) (by kernel_rfl) (fun _ _ _ h => h) (Or.inl ⟨by rfl, ?_⟩) hHeld ?_
                  rotate_left
                  · (intro w hSw; obtain q0 := hSw; go_simp) <;> with_reducible rfl
                  refine wpAnyH_letter fun ac5 HQA5 => ?_; replace e11 := po HQA5 e11; replace e12 := po HQA5 e12; replace e17 := po HQA5 e17; replace e211 := po HQA5 e211; replace e213 := po HQA5 e213; replace e214 := po HQA5 e214; replace e215 := po HQA5 e215; have e216 := put_at HQA5 HS.out (by decide); replace HS := Lib.hid (put_sz HQA5 HS.out)
                  refine wpAnyH_ready (rs := [1, 6]) (by kernel_rfl) (by simp) ?_
                  refine AllReadyH.cons (o := _) rfl (fun K hK => ?_) (AllReadyH.cons (o := _) rfl (fun K hK => ?_) AllReadyH.nil)
                  · go_simp
                    refine hK.out _ _ ?_ (fun hHeld => ?_)
                    · trivial
                    clear hK K; refine wpAnyH_letter fun ac6 HQA6 => ?_; replace e11 := po HQA6 e11; replace e12 := po HQA6 e12; replace e17 := po HQA6 e17; replace e211 := po HQA6 e211; replace e213 := po HQA6 e213; replace e214 := po HQA6 e214; replace e215 := po HQA6 e215; replace e216 := po HQA6 e216; have e212 := put_at HQA6 HS.out (by decide); replace HS := Lib.hid (put_sz HQA6 HS.out); refine wpAnyH_ready (rs := [6]) (by kernel_rfl) (by simp) ?_; refine AllReadyH.cons (o := _) rfl (fun K hK => ?_) AllReadyH.nil
                    go_simp
                    refine Calls.mono (HX96.out _ (Keep.refl _ _).drew) ?_
                    rintro e wq ⟨rfl, hkq⟩
                    have hzq : Keep (fun _ => False) wz wq := ((Keep.refl (fun _ => False) wz).drew).trans hkq (fun _ _ h => h)
                    have b3 := (H8.out.keep hzq (fun _ h => h.elim)).blk.cell 3
                    simp at b3
                    have HZQ := Lib.hid hzq; clear hzq hkq
                    (try dsimp only)
                    refine hK.out _ _ ?_ (fun hHeld => ?_)
                    · trivial
                    clear hK K; refine wpAnyH_letter fun ac7 HQA7 => ?_; replace e11 := po HQA7 e11; replace e12 := po HQA7 e12; replace e17 := po HQA7 e17; replace e211 := po HQA7 e211; replace e213 := po HQA7 e213; replace e214 := po HQA7 e214; replace e215 := po HQA7 e215; replace e216 := po HQA7 e216; replace e212 := po HQA7 e212; have e217 := put_at HQA7 HS.out (by decide); replace HS := Lib.hid (put_sz HQA7 HS.out)
                    refine wpAnyH_take (i := 7) (oi := _) (v := ?_) rfl (by kernel_rfl) (by kernel_rfl) (by kernel_rfl) (fun _ _ _ h => h) (Or.inl ⟨by rfl, ?_⟩) hHeld ?_
                    rotate_left
                    · (intro w hSw; obtain q0 := hSw; go_simp) <;> with_reducible rfl
                    refine wpAnyH_letter fun ac8 HQA8 => ?_; replace e11 := po HQA8 e11; replace e12 := po HQA8 e12; replace e17 := po HQA8 e17; replace e211 := po HQA8 e211; replace e213 := po HQA8 e213; replace e214 := po HQA8 e214; replace e215 := po HQA8 e215; replace e216 := po HQA8 e216; replace e212 := po HQA8 e212; replace e217 := po HQA8 e217; have e218 := put_at HQA8 HS.out (by decide); replace HS := Lib.hid (put_sz HQA8 HS.out)
                    obtain ⟨nt, hnt⟩ : ∃ nt, nt = touchNote (m1 : Int) ((k1 : Int) + 1) := ⟨_, rfl⟩
                    replace e218 := e218.trans (show _ = Value.string nt by rw [hnt, HM1.out]; rfl)
                    have HNT := Lib.hid hnt; clear hnt; refine wpAnyH_ready (rs := [8]) (by kernel_rfl) (by simp) ?_; refine AllReadyH.cons (o := _) rfl (fun K hK => ?_) AllReadyH.nil
                    go_simp
                    refine hK.out _ _ ?_ (fun hHeld => ?_)
                    · trivial
                    clear hK K; refine wpAnyH_letter fun ac9 HQA9 => ?_; replace e11 := po HQA9 e11; replace e12 := po HQA9 e12; replace e17 := po HQA9 e17; replace e211 := po HQA9 e211; replace e213 := po HQA9 e213; replace e214 := po HQA9 e214; replace e215 := po HQA9 e215; replace e216 := po HQA9 e216; replace e212 := po HQA9 e212; replace e217 := po HQA9 e217; replace e218 := po HQA9 e218; have e219 := put_at HQA9 HS.out (by decide); replace HS := Lib.hid (put_sz HQA9 HS.out); refine wpAnyH_ready (rs := [9]) (by kernel_rfl) (by simp) ?_; refine AllReadyH.cons (o := _) rfl (fun K hK => ?_) AllReadyH.nil
                    rw [if_pos (by rfl)]
                    have ho6 : (wq.alloc (.cells #[.string nt] 9)).ownsRow w3.heap.size 9 1 (.slice uno2 T.notes.length unc2) T.notes.length (strCells T.notes) := ownsRow_keep H8.out.n (HZQ.out.alloc (.cells #[.string nt] 9)) (fun _ _ h => h)
                    refine oper_app (.tmp 212) (.tmp 219) 44 44 rfl 9 (.string ⟨#[]⟩) 1 16 Tryz.underlying44 info9 rfl ho6 (evals e212) ((Rd.new wq 1 1 [.string nt] 9 rfl (by simp [Value.oneCell']) (by unfold maxLen; omega)).src Tryz.underlying44) (evals e219) (by unfold maxLen; omega) (by omega) (Nat.le_trans HKW.out.size (HZQ.out.alloc (.cells #[.string nt] 9)).size) (fun v' w8 happ => ?_)
                    obtain ⟨ao8, cap8, rfl, _⟩ := ownsRow_shape happ.own
                    have h6 := H8.out.keep (HZQ.out.alloc (.cells #[.string nt] 9)) (fun _ h => h.elim)
                    have hb8 := h6.blk.keep happ.keep (fun e => ownsRow_blk h6.n h6.blk (by decide) e)
                    have d3 := hb8.cell 3
                    have y3 := hb8.free 3
                    simp at d3
                    have hk8 : Keep (fun k => w3.heap.size ≤ k) wz w8 := ((HZQ.out.alloc (.cells #[.string nt] 9)).mono (fun _ _ h => h.elim)).trans happ.keep (fun b hb e => (ownsRow_lt ho6 b e).1)
                    have HK8 := Lib.hid hk8
                    have H9 := Lib.hid (h6.app_n (x := nt) happ.keep (by have := happ.own; simpa [strCells, List.map_append] using this))
                    clear happ h6 hb8 ho6 hk8
                    (try dsimp only)
                    refine hK.out _ _ ?_ (fun hHeld => ?_)
                    · trivial
                    clear hK K; refine wpAnyH_letter fun ac10 HQA10 => ?_; replace e11 := po HQA10 e11; replace e12 := po HQA10 e12; replace e17 := po HQA10 e17; replace e211 := po HQA10 e211; replace e213 := po HQA10 e213; replace e214 := po HQA10 e214; replace e215 := po HQA10 e215; replace e216 := po HQA10 e216; replace e212 := po HQA10 e212; replace e217 := po HQA10 e217; replace e218 := po HQA10 e218; replace e219 := po HQA10 e219; have e220 := put_at HQA10 HS.out (by decide); replace HS := Lib.hid (put_sz HQA10 HS.out)
                    refine wpAnyH_take (i := 10) (oi := _) (v := ?_) rfl (by kernel_rfl) (by kernel_rfl) (by kernel_rfl) (fun _ _ _ h => h) (Or.inl ⟨by rfl, ?_⟩) hHeld ?_
                    rotate_left
                    · (intro w hSw; obtain q0 := hSw; go_simp) <;> with_reducible rfl
                    refine wpAnyH_letter fun ac11 HQA11 => ?_; replace e11 := po HQA11 e11; replace e12 := po HQA11 e12; replace e17 := po HQA11 e17; replace e211 := po HQA11 e211; replace e213 := po HQA11 e213; replace e214 := po HQA11 e214; replace e215 := po HQA11 e215; replace e216 := po HQA11 e216; replace e212 := po HQA11 e212; replace e217 := po HQA11 e217; replace e218 := po HQA11 e218; replace e219 := po HQA11 e219; replace e220 := po HQA11 e220; have e221 := put_at HQA11 HS.out (by decide); replace HS := Lib.hid (put_sz HQA11 HS.out); refine wpAnyH_ready (rs := [11]) (by kernel_rfl) (by simp) ?_; refine AllReadyH.cons (o := _) rfl (fun K hK => ?_) AllReadyH.nil
                    go_simp
                    refine hK.out _ _ ?_ (fun hHeld => ?_)
                    · trivial
                    clear hK K
                    refine wpAnyH_done (by kernel_rfl) ?_ _
                    refine NoPanic.normal ?_
                    rw [HQ1.out]
                    have g0 := uE0 ac0 [211, 212, 213, 214, 215, 216, 217, 218, 219, 220, 221]
                    have g1 := uE HQA1 g0 (by rfl); have g2 := uE HQA2 g1 (by rfl); have g3 := uE HQA3 g2 (by rfl); have g4 := uE HQA4 g3 (by rfl); have g5 := uE HQA5 g4 (by rfl); have g6 := uE HQA6 g5 (by rfl); have g7 := uE HQA7 g6 (by rfl); have g8 := uE HQA8 g7 (by rfl); have g9 := uE HQA9 g8 (by rfl); have g10 := uE HQA10 g9 (by rfl); have g11 := uE HQA11 g10 (by rfl)
                    obtain ⟨f, hf⟩ := g11
                    rw [HQA0.out] at hf
                    refine hKq _ _ (Met.intro (hJq _ _ ?_))
                    refine ⟨f 211, f 212, f 213, f 214, f 215, f 216, f 217, f 218, f 219, f 220, f 221, ⟨_, (by rw [HNT.out] at H9; exact H9.out), HK8.out.setCell _ _ (fun _ => HRO.out.ge)⟩, hf.trans (by kernel_rfl)⟩
                  · go_simp
                    refine Calls.mono (HX96.out _ (Keep.refl _ _).drew) ?_
                    rintro e wq ⟨rfl, hkq⟩
                    have hzq : Keep (fun _ => False) wz wq := ((Keep.refl (fun _ => False) wz).drew).trans hkq (fun _ _ h => h)
                    have b3 := (H8.out.keep hzq (fun _ h => h.elim)).blk.cell 3
                    simp at b3
                    have HZQ := Lib.hid hzq; clear hzq hkq
                    (try dsimp only)
                    refine hK.out _ _ ?_ (fun hHeld => ?_)
                    · trivial
                    clear hK K; refine wpAnyH_letter fun ac6 HQA6 => ?_; replace e11 := po HQA6 e11; replace e12 := po HQA6 e12; replace e17 := po HQA6 e17; replace e211 := po HQA6 e211; replace e213 := po HQA6 e213; replace e214 := po HQA6 e214; replace e215 := po HQA6 e215; replace e216 := po HQA6 e216; have e217 := put_at HQA6 HS.out (by decide); replace HS := Lib.hid (put_sz HQA6 HS.out)
                    refine wpAnyH_take (i := 7) (oi := _) (v := ?_) rfl (by kernel_rfl) (by kernel_rfl) (by kernel_rfl) (fun _ _ _ h => h) (Or.inl ⟨by rfl, ?_⟩) hHeld ?_
                    rotate_left
                    · (intro w hSw; obtain q0 := hSw; go_simp) <;> with_reducible rfl
                    refine wpAnyH_letter fun ac7 HQA7 => ?_; replace e11 := po HQA7 e11; replace e12 := po HQA7 e12; replace e17 := po HQA7 e17; replace e211 := po HQA7 e211; replace e213 := po HQA7 e213; replace e214 := po HQA7 e214; replace e215 := po HQA7 e215; replace e216 := po HQA7 e216; replace e217 := po HQA7 e217; have e218 := put_at HQA7 HS.out (by decide); replace HS := Lib.hid (put_sz HQA7 HS.out)
                    obtain ⟨nt, hnt⟩ : ∃ nt, nt = touchNote (m1 : Int) ((k1 : Int) + 1) := ⟨_, rfl⟩
                    replace e218 := e218.trans (show _ = Value.string nt by rw [hnt, HM1.out]; rfl)
                    have HNT := Lib.hid hnt; clear hnt
                    refine wpAnyH_ready (rs := [1, 8]) (by kernel_rfl) (by simp) ?_
                    refine AllReadyH.cons (o := _) rfl (fun K hK => ?_) (AllReadyH.cons (o := _) rfl (fun K hK => ?_) AllReadyH.nil)
                    · go_simp
                      refine hK.out _ _ ?_ (fun hHeld => ?_)
                      · trivial
                      clear hK K; refine wpAnyH_letter fun ac8 HQA8 => ?_; replace e11 := po HQA8 e11; replace e12 := po HQA8 e12; replace e17 := po HQA8 e17; replace e211 := po HQA8 e211; replace e213 := po HQA8 e213; replace e214 := po HQA8 e214; replace e215 := po HQA8 e215; replace e216 := po HQA8 e216; replace e217 := po HQA8 e217; replace e218 := po HQA8 e218; have e212 := put_at HQA8 HS.out (by decide); replace HS := Lib.hid (put_sz HQA8 HS.out); refine wpAnyH_ready (rs := [8]) (by kernel_rfl) (by simp) ?_; refine AllReadyH.cons (o := _) rfl (fun K hK => ?_) AllReadyH.nil
                      go_simp
                      refine hK.out _ _ ?_ (fun hHeld => ?_)
                      · trivial
                      clear hK K; refine wpAnyH_letter fun ac9 HQA9 => ?_; replace e11 := po HQA9 e11; replace e12 := po HQA9 e12; replace e17 := po HQA9 e17; replace e211 := po HQA9 e211; replace e213 := po HQA9 e213; replace e214 := po HQA9 e214; replace e215 := po HQA9 e215; replace e216 := po HQA9 e216; replace e217 := po HQA9 e217; replace e218 := po HQA9 e218; replace e212 := po HQA9 e212; have e219 := put_at HQA9 HS.out (by decide); replace HS := Lib.hid (put_sz HQA9 HS.out); refine wpAnyH_ready (rs := [9]) (by kernel_rfl) (by simp) ?_; refine AllReadyH.cons (o := _) rfl (fun K hK => ?_) AllReadyH.nil
                      rw [if_pos (by rfl)]
                      have ho6 : (wq.alloc (.cells #[.string nt] 9)).ownsRow w3.heap.size 9 1 (.slice uno2 T.notes.length unc2) T.notes.length (strCells T.notes) := ownsRow_keep H8.out.n (HZQ.out.alloc (.cells #[.string nt] 9)) (fun _ _ h => h)
                      refine oper_app (.tmp 212) (.tmp 219) 44 44 rfl 9 (.string ⟨#[]⟩) 1 16 Tryz.underlying44 info9 rfl ho6 (evals e212) ((Rd.new wq 1 1 [.string nt] 9 rfl (by simp [Value.oneCell']) (by unfold maxLen; omega)).src Tryz.underlying44) (evals e219) (by unfold maxLen; omega) (by omega) (Nat.le_trans HKW.out.size (HZQ.out.alloc (.cells #[.string nt] 9)).size) (fun v' w8 happ => ?_)
                      obtain ⟨ao8, cap8, rfl, _⟩ := ownsRow_shape happ.own
                      have h6 := H8.out.keep (HZQ.out.alloc (.cells #[.string nt] 9)) (fun _ h => h.elim)
                      have hb8 := h6.blk.keep happ.keep (fun e => ownsRow_blk h6.n h6.blk (by decide) e)
                      have d3 := hb8.cell 3
                      have y3 := hb8.free 3
                      simp at d3
                      have hk8 : Keep (fun k => w3.heap.size ≤ k) wz w8 := ((HZQ.out.alloc (.cells #[.string nt] 9)).mono (fun _ _ h => h.elim)).trans happ.keep (fun b hb e => (ownsRow_lt ho6 b e).1)
                      have HK8 := Lib.hid hk8
                      have H9 := Lib.hid (h6.app_n (x := nt) happ.keep (by have := happ.own; simpa [strCells, List.map_append] using this))
                      clear happ h6 hb8 ho6 hk8
                      (try dsimp only)
                      refine hK.out _ _ ?_ (fun hHeld => ?_)
                      · trivial
                      clear hK K; refine wpAnyH_letter fun ac10 HQA10 => ?_; replace e11 := po HQA10 e11; replace e12 := po HQA10 e12; replace e17 := po HQA10 e17; replace e211 := po HQA10 e211; replace e213 := po HQA10 e213; replace e214 := po HQA10 e214; replace e215 := po HQA10 e215; replace e216 := po HQA10 e216; replace e217 := po HQA10 e217; replace e218 := po HQA10 e218; replace e212 := po HQA10 e212; replace e219 := po HQA10 e219; have e220 := put_at HQA10 HS.out (by decide); replace HS := Lib.hid (put_sz HQA10 HS.out)
                      refine wpAnyH_take (i := 10) (oi := _) (v := ?_) rfl (by kernel_rfl) (by kernel_rfl) (by kernel_rfl) (fun _ _ _ h => h) (Or.inl ⟨by rfl, ?_⟩) hHeld ?_
                      rotate_left
                      · (intro w hSw; obtain q0 := hSw; go_simp) <;> with_reducible rfl
                      refine wpAnyH_letter fun ac11 HQA11 => ?_; replace e11 := po HQA11 e11; replace e12 := po HQA11 e12; replace e17 := po HQA11 e17; replace e211 := po HQA11 e211; replace e213 := po HQA11 e213; replace e214 := po HQA11 e214; replace e215 := po HQA11 e215; replace e216 := po HQA11 e216; replace e217 := po HQA11 e217; replace e218 := po HQA11 e218; replace e212 := po HQA11 e212; replace e219 := po HQA11 e219; replace e220 := po HQA11 e220; have e221 := put_at HQA11 HS.out (by decide); replace HS := Lib.hid (put_sz HQA11 HS.out); refine wpAnyH_ready (rs := [11]) (by kernel_rfl) (by simp) ?_; refine AllReadyH.cons (o := _) rfl (fun K hK => ?_) AllReadyH.nil
                      go_simp
                      refine hK.out _ _ ?_ (fun hHeld => ?_)
                      · trivial
                      clear hK K
                      refine wpAnyH_done (by kernel_rfl) ?_ _
                      refine NoPanic.normal ?_
                      rw [HQ1.out]
                      have g0 := uE0 ac0 [211, 212, 213, 214, 215, 216, 217, 218, 219, 220, 221]
                      have g1 := uE HQA1 g0 (by rfl); have g2 := uE HQA2 g1 (by rfl); have g3 := uE HQA3 g2 (by rfl); have g4 := uE HQA4 g3 (by rfl); have g5 := uE HQA5 g4 (by rfl); have g6 := uE HQA6 g5 (by rfl); have g7 := uE HQA7 g6 (by rfl); have g8 := uE HQA8 g7 (by rfl); have g9 := uE HQA9 g8 (by rfl); have g10 := uE HQA10 g9 (by rfl); have g11 := uE HQA11 g10 (by rfl)
                      obtain ⟨f, hf⟩ := g11
                      rw [HQA0.out] at hf
                      refine hKq _ _ (Met.intro (hJq _ _ ?_))
                      refine ⟨f 211, f 212, f 213, f 214, f 215, f 216, f 217, f 218, f 219, f 220, f 221, ⟨_, (by rw [HNT.out] at H9; exact H9.out), HK8.out.setCell _ _ (fun _ => HRO.out.ge)⟩, hf.trans (by kernel_rfl)⟩
                    · go_simp
                      refine hK.out _ _ ?_ (fun hHeld => ?_)
                      · trivial
                      clear hK K; refine wpAnyH_letter fun ac8 HQA8 => ?_; replace e11 := po HQA8 e11; replace e12 := po HQA8 e12; replace e17 := po HQA8 e17; replace e211 := po HQA8 e211; replace e213 := po HQA8 e213; replace e214 := po HQA8 e214; replace e215 := po HQA8 e215; replace e216 := po HQA8 e216; replace e217 := po HQA8 e217; replace e218 := po HQA8 e218; have e219 := put_at HQA8 HS.out (by decide); replace HS := Lib.hid (put_sz HQA8 HS.out)
                      have b3 := (H8.out.keep (HZQ.out.alloc (.cells #[.string nt] 9)) (fun _ h => h.elim)).blk.cell 3
                      simp at b3
                      refine wpAnyH_ready (rs := [1]) (by kernel_rfl) (by simp) ?_; refine AllReadyH.cons (o := _) rfl (fun K hK => ?_) AllReadyH.nil
                      go_simp
                      refine hK.out _ _ ?_ (fun hHeld => ?_)
                      · trivial
                      clear hK K; refine wpAnyH_letter fun ac9 HQA9 => ?_; replace e11 := po HQA9 e11; replace e12 := po HQA9 e12; replace e17 := po HQA9 e17; replace e211 := po HQA9 e211; replace e213 := po HQA9 e213; replace e214 := po HQA9 e214; replace e215 := po HQA9 e215; replace e216 := po HQA9 e216; replace e217 := po HQA9 e217; replace e218 := po HQA9 e218; replace e219 := po HQA9 e219; have e212 := put_at HQA9 HS.out (by decide); replace HS := Lib.hid (put_sz HQA9 HS.out); refine wpAnyH_ready (rs := [9]) (by kernel_rfl) (by simp) ?_; refine AllReadyH.cons (o := _) rfl (fun K hK => ?_) AllReadyH.nil
                      rw [if_pos (by rfl)]
                      have ho6 : (wq.alloc (.cells #[.string nt] 9)).ownsRow w3.heap.size 9 1 (.slice uno2 T.notes.length unc2) T.notes.length (strCells T.notes) := ownsRow_keep H8.out.n (HZQ.out.alloc (.cells #[.string nt] 9)) (fun _ _ h => h)
                      refine oper_app (.tmp 212) (.tmp 219) 44 44 rfl 9 (.string ⟨#[]⟩) 1 16 Tryz.underlying44 info9 rfl ho6 (evals e212) ((Rd.new wq 1 1 [.string nt] 9 rfl (by simp [Value.oneCell']) (by unfold maxLen; omega)).src Tryz.underlying44) (evals e219) (by unfold maxLen; omega) (by omega) (Nat.le_trans HKW.out.size (HZQ.out.alloc (.cells #[.string nt] 9)).size) (fun v' w8 happ => ?_)
                      obtain ⟨ao8, cap8, rfl, _⟩ := ownsRow_shape happ.own
                      have h6 := H8.out.keep (HZQ.out.alloc (.cells #[.string nt] 9)) (fun _ h => h.elim)
                      have hb8 := h6.blk.keep happ.keep (fun e => ownsRow_blk h6.n h6.blk (by decide) e)
                      have d3 := hb8.cell 3
                      have y3 := hb8.free 3
                      simp at d3
                      have hk8 : Keep (fun k => w3.heap.size ≤ k) wz w8 := ((HZQ.out.alloc (.cells #[.string nt] 9)).mono (fun _ _ h => h.elim)).trans happ.keep (fun b hb e => (ownsRow_lt ho6 b e).1)
                      have HK8 := Lib.hid hk8
                      have H9 := Lib.hid (h6.app_n (x := nt) happ.keep (by have := happ.own; simpa [strCells, List.map_append] using this))
                      clear happ h6 hb8 ho6 hk8
                      (try dsimp only)
                      refine hK.out _ _ ?_ (fun hHeld => ?_)
                      · trivial
                      clear hK K; refine wpAnyH_letter fun ac10 HQA10 => ?_; replace e11 := po HQA10 e11; replace e12 := po HQA10 e12; replace e17 := po HQA10 e17; replace e211 := po HQA10 e211; replace e213 := po HQA10 e213; replace e214 := po HQA10 e214; replace e215 := po HQA10 e215; replace e216 := po HQA10 e216; replace e217 := po HQA10 e217; replace e218 := po HQA10 e218; replace e219 := po HQA10 e219; replace e212 := po HQA10 e212; have e220 := put_at HQA10 HS.out (by decide); replace HS := Lib.hid (put_sz HQA10 HS.out)
                      refine wpAnyH_take (i := 10) (oi := _) (v := ?_) rfl (by kernel_rfl) (by kernel_rfl) (by kernel_rfl) (fun _ _ _ h => h) (Or.inl ⟨by rfl, ?_⟩) hHeld ?_
                      rotate_left
                      · (intro w hSw; obtain q0 := hSw; go_simp) <;> with_reducible rfl
                      refine wpAnyH_letter fun ac11 HQA11 => ?_; replace e11 := po HQA11 e11; replace e12 := po HQA11 e12; replace e17 := po HQA11 e17; replace e211 := po HQA11 e211; replace e213 := po HQA11 e213; replace e214 := po HQA11 e214; replace e215 := po HQA11 e215; replace e216 := po HQA11 e216; replace e217 := po HQA11 e217; replace e218 := po HQA11 e218; replace e219 := po HQA11 e219; replace e212 := po HQA11 e212; replace e220 := po HQA11 e220; have e221 := put_at HQA11 HS.out (by decide); replace HS := Lib.hid (put_sz HQA11 HS.out); refine wpAnyH_ready (rs := [11]) (by kernel_rfl) (by simp) ?_; refine AllReadyH.cons (o := _) rfl (fun K hK => ?_) AllReadyH.nil
                      go_simp
                      refine hK.out _ _ ?_ (fun hHeld => ?_)
                      · trivial
                      clear hK K
                      refine wpAnyH_done (by kernel_rfl) ?_ _
                      refine NoPanic.normal ?_
                      rw [HQ1.out]
                      have g0 := uE0 ac0 [211, 212, 213, 214, 215, 216, 217, 218, 219, 220, 221]
                      have g1 := uE HQA1 g0 (by rfl); have g2 := uE HQA2 g1 (by rfl); have g3 := uE HQA3 g2 (by rfl); have g4 := uE HQA4 g3 (by rfl); have g5 := uE HQA5 g4 (by rfl); have g6 := uE HQA6 g5 (by rfl); have g7 := uE HQA7 g6 (by rfl); have g8 := uE HQA8 g7 (by rfl); have g9 := uE HQA9 g8 (by rfl); have g10 := uE HQA10 g9 (by rfl); have g11 := uE HQA11 g10 (by rfl)
                      obtain ⟨f, hf⟩ := g11
                      rw [HQA0.out] at hf
                      refine hKq _ _ (Met.intro (hJq _ _ ?_))
                      refine ⟨f 211, f 212, f 213, f 214, f 215, f 216, f 217, f 218, f 219, f 220, f 221, ⟨_, (by rw [HNT.out] at H9; exact H9.out), HK8.out.setCell _ _ (fun _ => HRO.out.ge)⟩, hf.trans (by kernel_rfl)⟩
                case rest =>
                  obtain ⟨un3, h9, hk9⟩ := hcut
                  rw [HT.out] at h9
                  have H9 := Lib.hid h9
                  have HK9 := Lib.hid (HKW.out.trans hk9 (fun _ _ h => h))
                  clear h9 hk9 b3
                  refine hK9 _ _ ?_
                  (try simp only [Exit.inBlock, Exit.then])
                  go_wp2_with fail
                  go_roundw
                  case rel => exact ⟨_, _, HK9.out, .inr (.inl ⟨rfl, H9.out⟩)⟩
                  case measure => simp [intOf]
              · obtain ⟨T, hT⟩ : ∃ T, T = touchS S3 (m1 : Int) ((k1 : Int) + 1) := ⟨_, rfl⟩
                rw [← hT] at hro
                have hTc : T.contacts.length ≤ S.contacts.length + 1 := by rw [hT]; simp [touchS, hc3]
                have hTn : T.notes.length ≤ S.notes.length + 1 := by rw [hT]; simp [touchS, hn3]
                obtain ⟨uco2, ucc2, rfl, _⟩ := ownsRow_shape hro.c
                obtain ⟨uno2, unc2, rfl, _⟩ := ownsRow_shape hro.n
                have b0 := hro.blk.cell 0
                have b1 := hro.blk.cell 1
                simp at b0 b1
                have HR6 := Lib.hid hro; have HT := Lib.hid hT; clear hT hro
                have HO6 : Hid ((wr.alloc (.cells #[.int .i64 m1, .int .i64 ((k2 : Int) + 1)] 176)).ownsRow w3.heap.size 176 2 (.slice uco2 T.contacts.length ucc2) T.contacts.length (pairCells T.contacts)) := Lib.hid (ownsRow_keep HR6.out.c ((Keep.refl (fun _ => False) wr).alloc (.cells #[.int .i64 m1, .int .i64 ((k2 : Int) + 1)] 176)) (fun _ _ h => h))
                have HS6 := Lib.hid (Rd.new wr 2 1 [.int .i64 m1, .int .i64 ((k2 : Int) + 1)] 176 rfl (by simp [Value.oneCell']) (by unfold maxLen; omega))
                go_upto_region 29 with (at_builtin; refine wpList_app (w := wr.alloc (.cells #[.int .i64 m1, .int .i64 ((k2 : Int) + 1)] 176)) rfl (.tmp 202) (.tmp 208) 71 71 rfl 176 (.agg #[.int .i64 0, .int .i64 0]) 2 16 Tryz.underlying71 info176 rfl HO6.out rfl (HS6.out.src Tryz.underlying71) rfl (by unfold maxLen; omega) (by omega) (Nat.le_trans HKW.out.size ((Keep.refl (fun _ => False) wr).alloc (.cells #[.int .i64 m1, .int .i64 ((k2 : Int) + 1)] 176)).size) (fun v7 w7 happ => ?_); obtain ⟨ao7, cap7, rfl, _⟩ := ownsRow_shape happ.own; have h7 := HR6.out.keep ((Keep.refl (fun _ => False) wr).alloc (.cells #[.int .i64 m1, .int .i64 ((k2 : Int) + 1)] 176)) (fun _ h => h.elim); have hb7 := h7.blk.keep happ.keep (fun e => ownsRow_blk h7.c h7.blk (by decide) e); have d1 := hb7.cell 1; have y1 := hb7.free 1; simp at d1; have HKA7 := Lib.hid happ.keep; have H7 := Lib.hid (h7.app_c (x := ((m1 : Int), ((k2 : Int) + 1))) happ.keep (by have := happ.own; simpa [pairCells, pairCell] using this)); clear happ h7 hb7)
                obtain ⟨wz, hwz⟩ : ∃ wz, wz = w7.setCell ⟨nb, 1, none⟩ (.slice ao7 (T.contacts.length + 1) cap7) := ⟨_, rfl⟩
                have HK7 : Hid (Keep (fun k => w3.heap.size ≤ k) wr wz) := Lib.hid (by rw [hwz]; exact (((Keep.refl (fun k => w3.heap.size ≤ k) wr).alloc (.cells #[.int .i64 m1, .int .i64 ((k2 : Int) + 1)] 176)).trans HKA7.out (fun b hb e => (ownsRow_lt HO6.out b e).1)).setCell _ _ (fun _ => HRO.out.ge))
                have H8 := H7
                rw [← hwz] at H8 ⊢
                have HKW := Lib.hid (HKW.out.trans HK7.out (fun _ _ h => h))
                clear hwz d1 y1 b0 b1 H7 HKA7
                have HX96 : Hid (∀ W, Keep (fun _ => False) wz W → Calls Tryz.prog 96 #[.int .i64 ((k2 : Int) + 1)] W (ItoaPost W ((k2 : Int) + 1))) := Lib.hid fun W hk => itoa_any (((GW.start (HG.out.keep HK3.out)).keep HKW.out (fun i hi e => by have e2 : w3.heap.size ≤ i := e; omega)).keep hk (fun i hi e => e.elim)).glob (by omega) (by omega)
                have b3 := H8.out.blk.cell 3
                simp at b3
                have sx := itoaB_size ((k2 : Int) + 1) (by omega) (by omega)
                have st3 : (9223372036854775807 < 6 + (itoaB ((S.lots.length : Int) + 1)).size + 1 + (itoaB ((k2 : Int) + 1)).size) = False := eq_false (by omega)
                clear sx
                refine wp_as_then fun K9 hK9 => ?_
                go_cut [] from 211 to 221 (fun wv => ∃ un, RO w3.heap.size wv nb (.slice ao9 m1 cap9) (.slice ao7 (T.contacts.length + 1) cap7) (.slice uto S.tests.length utc) un (touchS T (m1 : Int) ((k2 : Int) + 1)) ∧ Keep (fun k => w3.heap.size ≤ k) wz wv)
                case first =>
                  rename_i Jq Kq hJq hKq
                  refine region_letters fun Q1 hQ1 => ?_
                  have HQ1 := Lib.hid hQ1; clear hQ1
                  refine wp_region_noPanic ?_
                  refine wp_region_held_drew (S := (fun _ => True)) (by kernel_rfl) (trivial) (fun hHeld => ?_)
                  refine wpAnyH_letter fun ac0 HQA0 => ?_
                  have HS : Hid (ac0.tmps.size = 438) := Lib.hid (by rw [HQA0.out]; kernel_rfl)
                  have e11 : ac0.tmps[11]?.getD undef = .pointer (some ⟨nb, 0, none⟩) := by rw [HQA0.out]; kernel_rfl
                  have e12 : ac0.tmps[12]?.getD undef = .string (itoaB ((S.lots.length : Int) + 1)) := by rw [HQA0.out]; kernel_rfl
                  have e17 : ac0.tmps[17]?.getD undef = .int .i64 ((k2 : Int) + 1) := by rw [HQA0.out]; kernel_rfl
                  refine wpAnyH_take (i := 0) (oi := _) (v := ?_) rfl (by kernel_rfl) (by kernel_rfl) (by kernel_rfl) (fun _ _ _ h => h) (Or.inl ⟨by rfl, ?_⟩) hHeld ?_
                  rotate_left
                  · (intro w hSw; obtain q0 := hSw; go_simp) <;> with_reducible rfl
                  refine wpAnyH_letter fun ac1 HQA1 => ?_; replace e11 := po HQA1 e11; replace e12 := po HQA1 e12; replace e17 := po HQA1 e17; have e211 := put_at HQA1 HS.out (by decide); replace HS := Lib.hid (put_sz HQA1 HS.out)
                  refine wpAnyH_take (i := 2) (oi := _) (v := ?_) rfl (by kernel_rfl) (by kernel_rfl) (by kernel_rfl) (fun _ _ _ h => h) (Or.inl ⟨by rfl, ?_⟩) hHeld ?_
                  rotate_left
                  · (intro w hSw; obtain q0 := hSw; go_simp) <;> with_reducible rfl
                  refine wpAnyH_letter fun ac2 HQA2 => ?_; replace e11 := po HQA2 e11; replace e12 := po HQA2 e12; replace e17 := po HQA2 e17; replace e211 := po HQA2 e211; have e213 := put_at HQA2 HS.out (by decide); replace HS := Lib.hid (put_sz HQA2 HS.out)
                  refine wpAnyH_take (i := 3) (oi := _) (v := ?_) rfl (by kernel_rfl) (by kernel_rfl) (by kernel_rfl) (fun _ _ _ h => h) (Or.inl ⟨by rfl, ?_⟩) hHeld ?_
                  rotate_left
                  · (intro w hSw; obtain q0 := hSw; go_simp) <;> with_reducible rfl
                  refine wpAnyH_letter fun ac3 HQA3 => ?_; replace e11 := po HQA3 e11; replace e12 := po HQA3 e12; replace e17 := po HQA3 e17; replace e211 := po HQA3 e211; replace e213 := po HQA3 e213; have e214 := put_at HQA3 HS.out (by decide); replace HS := Lib.hid (put_sz HQA3 HS.out)
                  refine wpAnyH_take (i := 4) (oi := _) (v := ?_) rfl (by kernel_rfl) (by kernel_rfl) (by kernel_rfl) (fun _ _ _ h => h) (Or.inl ⟨by rfl, ?_⟩) hHeld ?_
                  rotate_left
                  · (intro w hSw; obtain q0 := hSw; go_simp) <;> with_reducible rfl
                  refine wpAnyH_letter fun ac4 HQA4 => ?_; replace e11 := po HQA4 e11; replace e12 := po HQA4 e12; replace e17 := po HQA4 e17; replace e211 := po HQA4 e211; replace e213 := po HQA4 e213; replace e214 := po HQA4 e214; have e215 := put_at HQA4 HS.out (by decide); replace HS := Lib.hid (put_sz HQA4 HS.out)
                  refine wpAnyH_take (i := 5) (oi := _) (v := ?_) rfl (by kernel_rfl) (by kernel_rfl) (by kernel_rfl) (fun _ _ _ h => h) (Or.inl ⟨by rfl, ?_⟩) hHeld ?_
                  rotate_left
                  · (intro w hSw; obtain q0 := hSw; go_simp) <;> with_reducible rfl
                  refine wpAnyH_letter fun ac5 HQA5 => ?_; replace e11 := po HQA5 e11; replace e12 := po HQA5 e12; replace e17 := po HQA5 e17; replace e211 := po HQA5 e211; replace e213 := po HQA5 e213; replace e214 := po HQA5 e214; replace e215 := po HQA5 e215; have e216 := put_at HQA5 HS.out (by decide); replace HS := Lib.hid (put_sz HQA5 HS.out)
                  refine wpAnyH_ready (rs := [1, 6]) (by kernel_rfl) (by simp) ?_
                  refine AllReadyH.cons (o := _) rfl (fun K hK => ?_) (AllReadyH.cons (o := _) rfl (fun K hK => ?_) AllReadyH.nil)
                  · go_simp
                    refine hK.out _ _ ?_ (fun hHeld => ?_)
                    · trivial
                    clear hK K; refine wpAnyH_letter fun ac6 HQA6 => ?_; replace e11 := po HQA6 e11; replace e12 := po HQA6 e12; replace e17 := po HQA6 e17; replace e211 := po HQA6 e211; replace e213 := po HQA6 e213; replace e214 := po HQA6 e214; replace e215 := po HQA6 e215; replace e216 := po HQA6 e216; have e212 := put_at HQA6 HS.out (by decide); replace HS := Lib.hid (put_sz HQA6 HS.out); refine wpAnyH_ready (rs := [6]) (by kernel_rfl) (by simp) ?_; refine AllReadyH.cons (o := _) rfl (fun K hK => ?_) AllReadyH.nil
                    go_simp
                    refine Calls.mono (HX96.out _ (Keep.refl _ _).drew) ?_
                    rintro e wq ⟨rfl, hkq⟩
                    have hzq : Keep (fun _ => False) wz wq := ((Keep.refl (fun _ => False) wz).drew).trans hkq (fun _ _ h => h)
                    have b3 := (H8.out.keep hzq (fun _ h => h.elim)).blk.cell 3
                    simp at b3
                    have HZQ := Lib.hid hzq; clear hzq hkq
                    (try dsimp only)
                    refine hK.out _ _ ?_ (fun hHeld => ?_)
                    · trivial
                    clear hK K; refine wpAnyH_letter fun ac7 HQA7 => ?_; replace e11 := po HQA7 e11; replace e12 := po HQA7 e12; replace e17 := po HQA7 e17; replace e211 := po HQA7 e211; replace e213 := po HQA7 e213; replace e214 := po HQA7 e214; replace e215 := po HQA7 e215; replace e216 := po HQA7 e216; replace e212 := po HQA7 e212; have e217 := put_at HQA7 HS.out (by decide); replace HS := Lib.hid (put_sz HQA7 HS.out)
                    refine wpAnyH_take (i := 7) (oi := _) (v := ?_) rfl (by kernel_rfl) (by kernel_rfl) (by kernel_rfl) (fun _ _ _ h => h) (Or.inl ⟨by rfl, ?_⟩) hHeld ?_
                    rotate_left
                    · (intro w hSw; obtain q0 := hSw; go_simp) <;> with_reducible rfl
                    refine wpAnyH_letter fun ac8 HQA8 => ?_; replace e11 := po HQA8 e11; replace e12 := po HQA8 e12; replace e17 := po HQA8 e17; replace e211 := po HQA8 e211; replace e213 := po HQA8 e213; replace e214 := po HQA8 e214; replace e215 := po HQA8 e215; replace e216 := po HQA8 e216; replace e212 := po HQA8 e212; replace e217 := po HQA8 e217; have e218 := put_at HQA8 HS.out (by decide); replace HS := Lib.hid (put_sz HQA8 HS.out)
                    obtain ⟨nt, hnt⟩ : ∃ nt, nt = touchNote (m1 : Int) ((k2 : Int) + 1) := ⟨_, rfl⟩
                    replace e218 := e218.trans (show _ = Value.string nt by rw [hnt, HM1.out]; rfl)
                    have HNT := Lib.hid hnt; clear hnt; refine wpAnyH_ready (rs := [8]) (by kernel_rfl) (by simp) ?_; refine AllReadyH.cons (o := _) rfl (fun K hK => ?_) AllReadyH.nil
                    go_simp
                    refine hK.out _ _ ?_ (fun hHeld => ?_)
                    · trivial
                    clear hK K; refine wpAnyH_letter fun ac9 HQA9 => ?_; replace e11 := po HQA9 e11; replace e12 := po HQA9 e12; replace e17 := po HQA9 e17; replace e211 := po HQA9 e211; replace e213 := po HQA9 e213; replace e214 := po HQA9 e214; replace e215 := po HQA9 e215; replace e216 := po HQA9 e216; replace e212 := po HQA9 e212; replace e217 := po HQA9 e217; replace e218 := po HQA9 e218; have e219 := put_at HQA9 HS.out (by decide); replace HS := Lib.hid (put_sz HQA9 HS.out); refine wpAnyH_ready (rs := [9]) (by kernel_rfl) (by simp) ?_; refine AllReadyH.cons (o := _) rfl (fun K hK => ?_) AllReadyH.nil
                    rw [if_pos (by rfl)]
                    have ho6 : (wq.alloc (.cells #[.string nt] 9)).ownsRow w3.heap.size 9 1 (.slice uno2 T.notes.length unc2) T.notes.length (strCells T.notes) := ownsRow_keep H8.out.n (HZQ.out.alloc (.cells #[.string nt] 9)) (fun _ _ h => h)
                    refine oper_app (.tmp 212) (.tmp 219) 44 44 rfl 9 (.string ⟨#[]⟩) 1 16 Tryz.underlying44 info9 rfl ho6 (evals e212) ((Rd.new wq 1 1 [.string nt] 9 rfl (by simp [Value.oneCell']) (by unfold maxLen; omega)).src Tryz.underlying44) (evals e219) (by unfold maxLen; omega) (by omega) (Nat.le_trans HKW.out.size (HZQ.out.alloc (.cells #[.string nt] 9)).size) (fun v' w8 happ => ?_)
                    obtain ⟨ao8, cap8, rfl, _⟩ := ownsRow_shape happ.own
                    have h6 := H8.out.keep (HZQ.out.alloc (.cells #[.string nt] 9)) (fun _ h => h.elim)
                    have hb8 := h6.blk.keep happ.keep (fun e => ownsRow_blk h6.n h6.blk (by decide) e)
                    have d3 := hb8.cell 3
                    have y3 := hb8.free 3
                    simp at d3
                    have hk8 : Keep (fun k => w3.heap.size ≤ k) wz w8 := ((HZQ.out.alloc (.cells #[.string nt] 9)).mono (fun _ _ h => h.elim)).trans happ.keep (fun b hb e => (ownsRow_lt ho6 b e).1)
                    have HK8 := Lib.hid hk8
                    have H9 := Lib.hid (h6.app_n (x := nt) happ.keep (by have := happ.own; simpa [strCells, List.map_append] using this))
                    clear happ h6 hb8 ho6 hk8
                    (try dsimp only)
                    refine hK.out _ _ ?_ (fun hHeld => ?_)
                    · trivial
                    clear hK K; refine wpAnyH_letter fun ac10 HQA10 => ?_; replace e11 := po HQA10 e11; replace e12 := po HQA10 e12; replace e17 := po HQA10 e17; replace e211 := po HQA10 e211; replace e213 := po HQA10 e213; replace e214 := po HQA10 e214; replace e215 := po HQA10 e215; replace e216 := po HQA10 e216; replace e212 := po HQA10 e212; replace e217 := po HQA10 e217; replace e218 := po HQA10 e218; replace e219 := po HQA10 e219; have e220 := put_at HQA10 HS.out (by decide); replace HS := Lib.hid (put_sz HQA10 HS.out)
                    refine wpAnyH_take (i := 10) (oi := _) (v := ?_) rfl (by kernel_rfl) (by kernel_rfl) (by kernel_rfl) (fun _ _ _ h => h) (Or.inl ⟨by rfl, ?_⟩) hHeld ?_
                    rotate_left
                    · (intro w hSw; obtain q0 := hSw; go_simp) <;> with_reducible rfl
                    refine wpAnyH_letter fun ac11 HQA11 => ?_; replace e11 := po HQA11 e11; replace e12 := po HQA11 e12; replace e17 := po HQA11 e17; replace e211 := po HQA11 e211; replace e213 := po HQA11 e213; replace e214 := po HQA11 e214; replace e215 := po HQA11 e215; replace e216 := po HQA11 e216; replace e212 := po HQA11 e212; replace e217 := po HQA11 e217; replace e218 := po HQA11 e218; replace e219 := po HQA11 e219; replace e220 := po HQA11 e220; have e221 := put_at HQA11 HS.out (by decide); replace HS := Lib.hid (put_sz HQA11 HS.out); refine wpAnyH_ready (rs := [11]) (by kernel_rfl) (by simp) ?_; refine AllReadyH.cons (o := _) rfl (fun K hK => ?_) AllReadyH.nil
                    go_simp
                    refine hK.out _ _ ?_ (fun hHeld => ?_)
                    · trivial
                    clear hK K
                    refine wpAnyH_done (by kernel_rfl) ?_ _
                    refine NoPanic.normal ?_
                    rw [HQ1.out]
                    have g0 := uE0 ac0 [211, 212, 213, 214, 215, 216, 217, 218, 219, 220, 221]
                    have g1 := uE HQA1 g0 (by rfl); have g2 := uE HQA2 g1 (by rfl); have g3 := uE HQA3 g2 (by rfl); have g4 := uE HQA4 g3 (by rfl); have g5 := uE HQA5 g4 (by rfl); have g6 := uE HQA6 g5 (by rfl); have g7 := uE HQA7 g6 (by rfl); have g8 := uE HQA8 g7 (by rfl); have g9 := uE HQA9 g8 (by rfl); have g10 := uE HQA10 g9 (by rfl); have g11 := uE HQA11 g10 (by rfl)
                    obtain ⟨f, hf⟩ := g11
                    rw [HQA0.out] at hf
                    refine hKq _ _ (Met.intro (hJq _ _ ?_))
                    refine ⟨f 211, f 212, f 213, f 214, f 215, f 216, f 217, f 218, f 219, f 220, f 221, ⟨_, (by rw [HNT.out] at H9; exact H9.out), HK8.out.setCell _ _ (fun _ => HRO.out.ge)⟩, hf.trans (by kernel_rfl)⟩
                  · go_simp
                    refine Calls.mono (HX96.out _ (Keep.refl _ _).drew) ?_
                    rintro e wq ⟨rfl, hkq⟩
                    have hzq : Keep (fun _ => False) wz wq := ((Keep.refl (fun _ => False) wz).drew).trans hkq (fun _ _ h => h)
                    have b3 := (H8.out.keep hzq (fun _ h => h.elim)).blk.cell 3
                    simp at b3
                    have HZQ := Lib.hid hzq; clear hzq hkq
                    (try dsimp only)
                    refine hK.out _ _ ?_ (fun hHeld => ?_)
                    · trivial
                    clear hK K; refine wpAnyH_letter fun ac6 HQA6 => ?_; replace e11 := po HQA6 e11; replace e12 := po HQA6 e12; replace e17 := po HQA6 e17; replace e211 := po HQA6 e211; replace e213 := po HQA6 e213; replace e214 := po HQA6 e214; replace e215 := po HQA6 e215; replace e216 := po HQA6 e216; have e217 := put_at HQA6 HS.out (by decide); replace HS := Lib.hid (put_sz HQA6 HS.out)
                    refine wpAnyH_take (i := 7) (oi := _) (v := ?_) rfl (by kernel_rfl) (by kernel_rfl) (by kernel_rfl) (fun _ _ _ h => h) (Or.inl ⟨by rfl, ?_⟩) hHeld ?_
                    rotate_left
                    · (intro w hSw; obtain q0 := hSw; go_simp) <;> with_reducible rfl
                    refine wpAnyH_letter fun ac7 HQA7 => ?_; replace e11 := po HQA7 e11; replace e12 := po HQA7 e12; replace e17 := po HQA7 e17; replace e211 := po HQA7 e211; replace e213 := po HQA7 e213; replace e214 := po HQA7 e214; replace e215 := po HQA7 e215; replace e216 := po HQA7 e216; replace e217 := po HQA7 e217; have e218 := put_at HQA7 HS.out (by decide); replace HS := Lib.hid (put_sz HQA7 HS.out)
                    obtain ⟨nt, hnt⟩ : ∃ nt, nt = touchNote (m1 : Int) ((k2 : Int) + 1) := ⟨_, rfl⟩
                    replace e218 := e218.trans (show _ = Value.string nt by rw [hnt, HM1.out]; rfl)
                    have HNT := Lib.hid hnt; clear hnt
                    refine wpAnyH_ready (rs := [1, 8]) (by kernel_rfl) (by simp) ?_
                    refine AllReadyH.cons (o := _) rfl (fun K hK => ?_) (AllReadyH.cons (o := _) rfl (fun K hK => ?_) AllReadyH.nil)
                    · go_simp
                      refine hK.out _ _ ?_ (fun hHeld => ?_)
                      · trivial
                      clear hK K; refine wpAnyH_letter fun ac8 HQA8 => ?_; replace e11 := po HQA8 e11; replace e12 := po HQA8 e12; replace e17 := po HQA8 e17; replace e211 := po HQA8 e211; replace e213 := po HQA8 e213; replace e214 := po HQA8 e214; replace e215 := po HQA8 e215; replace e216 := po HQA8 e216; replace e217 := po HQA8 e217; replace e218 := po HQA8 e218; have e212 := put_at HQA8 HS.out (by decide); replace HS := Lib.hid (put_sz HQA8 HS.out); refine wpAnyH_ready (rs := [8]) (by kernel_rfl) (by simp) ?_; refine AllReadyH.cons (o := _) rfl (fun K hK => ?_) AllReadyH.nil
                      go_simp
                      refine hK.out _ _ ?_ (fun hHeld => ?_)
                      · trivial
                      clear hK K; refine wpAnyH_letter fun ac9 HQA9 => ?_; replace e11 := po HQA9 e11; replace e12 := po HQA9 e12; replace e17 := po HQA9 e17; replace e211 := po HQA9 e211; replace e213 := po HQA9 e213; replace e214 := po HQA9 e214; replace e215 := po HQA9 e215; replace e216 := po HQA9 e216; replace e217 := po HQA9 e217; replace e218 := po HQA9 e218; replace e212 := po HQA9 e212; have e219 := put_at HQA9 HS.out (by decide); replace HS := Lib.hid (put_sz HQA9 HS.out); refine wpAnyH_ready (rs := [9]) (by kernel_rfl) (by simp) ?_; refine AllReadyH.cons (o := _) rfl (fun K hK => ?_) AllReadyH.nil
                      rw [if_pos (by rfl)]
                      have ho6 : (wq.alloc (.cells #[.string nt] 9)).ownsRow w3.heap.size 9 1 (.slice uno2 T.notes.length unc2) T.notes.length (strCells T.notes) := ownsRow_keep H8.out.n (HZQ.out.alloc (.cells #[.string nt] 9)) (fun _ _ h => h)
                      refine oper_app (.tmp 212) (.tmp 219) 44 44 rfl 9 (.string ⟨#[]⟩) 1 16 Tryz.underlying44 info9 rfl ho6 (evals e212) ((Rd.new wq 1 1 [.string nt] 9 rfl (by simp [Value.oneCell']) (by unfold maxLen; omega)).src Tryz.underlying44) (evals e219) (by unfold maxLen; omega) (by omega) (Nat.le_trans HKW.out.size (HZQ.out.alloc (.cells #[.string nt] 9)).size) (fun v' w8 happ => ?_)
                      obtain ⟨ao8, cap8, rfl, _⟩ := ownsRow_shape happ.own
                      have h6 := H8.out.keep (HZQ.out.alloc (.cells #[.string nt] 9)) (fun _ h => h.elim)
                      have hb8 := h6.blk.keep happ.keep (fun e => ownsRow_blk h6.n h6.blk (by decide) e)
                      have d3 := hb8.cell 3
                      have y3 := hb8.free 3
                      simp at d3
                      have hk8 : Keep (fun k => w3.heap.size ≤ k) wz w8 := ((HZQ.out.alloc (.cells #[.string nt] 9)).mono (fun _ _ h => h.elim)).trans happ.keep (fun b hb e => (ownsRow_lt ho6 b e).1)
                      have HK8 := Lib.hid hk8
                      have H9 := Lib.hid (h6.app_n (x := nt) happ.keep (by have := happ.own; simpa [strCells, List.map_append] using this))
                      clear happ h6 hb8 ho6 hk8
                      (try dsimp only)
                      refine hK.out _ _ ?_ (fun hHeld => ?_)
                      · trivial
                      clear hK K; refine wpAnyH_letter fun ac10 HQA10 => ?_; replace e11 := po HQA10 e11; replace e12 := po HQA10 e12; replace e17 := po HQA10 e17; replace e211 := po HQA10 e211; replace e213 := po HQA10 e213; replace e214 := po HQA10 e214; replace e215 := po HQA10 e215; replace e216 := po HQA10 e216; replace e217 := po HQA10 e217; replace e218 := po HQA10 e218; replace e212 := po HQA10 e212; replace e219 := po HQA10 e219; have e220 := put_at HQA10 HS.out (by decide); replace HS := Lib.hid (put_sz HQA10 HS.out)
                      refine wpAnyH_take (i := 10) (oi := _) (v := ?_) rfl (by kernel_rfl) (by kernel_rfl) (by kernel_rfl) (fun _ _ _ h => h) (Or.inl ⟨by rfl, ?_⟩) hHeld ?_
                      rotate_left
                      · (intro w hSw; obtain q0 := hSw; go_simp) <;> with_reducible rfl
                      refine wpAnyH_letter fun ac11 HQA11 => ?_; replace e11 := po HQA11 e11; replace e12 := po HQA11 e12; replace e17 := po HQA11 e17; replace e211 := po HQA11 e211; replace e213 := po HQA11 e213; replace e214 := po HQA11 e214; replace e215 := po HQA11 e215; replace e216 := po HQA11 e216; replace e217 := po HQA11 e217; replace e218 := po HQA11 e218; replace e212 := po HQA11 e212; replace e219 := po HQA11 e219; replace e220 := po HQA11 e220; have e221 := put_at HQA11 HS.out (by decide); replace HS := Lib.hid (put_sz HQA11 HS.out); refine wpAnyH_ready (rs := [11]) (by kernel_rfl) (by simp) ?_; refine AllReadyH.cons (o := _) rfl (fun K hK => ?_) AllReadyH.nil
                      go_simp
                      refine hK.out _ _ ?_ (fun hHeld => ?_)
                      · trivial
                      clear hK K
                      refine wpAnyH_done (by kernel_rfl) ?_ _
                      refine NoPanic.normal ?_
                      rw [HQ1.out]
                      have g0 := uE0 ac0 [211, 212, 213, 214, 215, 216, 217, 218, 219, 220, 221]
                      have g1 := uE HQA1 g0 (by rfl); have g2 := uE HQA2 g1 (by rfl); have g3 := uE HQA3 g2 (by rfl); have g4 := uE HQA4 g3 (by rfl); have g5 := uE HQA5 g4 (by rfl); have g6 := uE HQA6 g5 (by rfl); have g7 := uE HQA7 g6 (by rfl); have g8 := uE HQA8 g7 (by rfl); have g9 := uE HQA9 g8 (by rfl); have g10 := uE HQA10 g9 (by rfl); have g11 := uE HQA11 g10 (by rfl)
                      obtain ⟨f, hf⟩ := g11
                      rw [HQA0.out] at hf
                      refine hKq _ _ (Met.intro (hJq _ _ ?_))
                      refine ⟨f 211, f 212, f 213, f 214, f 215, f 216, f 217, f 218, f 219, f 220, f 221, ⟨_, (by rw [HNT.out] at H9; exact H9.out), HK8.out.setCell _ _ (fun _ => HRO.out.ge)⟩, hf.trans (by kernel_rfl)⟩
                    · go_simp
                      refine hK.out _ _ ?_ (fun hHeld => ?_)
                      · trivial
                      clear hK K; refine wpAnyH_letter fun ac8 HQA8 => ?_; replace e11 := po HQA8 e11; replace e12 := po HQA8 e12; replace e17 := po HQA8 e17; replace e211 := po HQA8 e211; replace e213 := po HQA8 e213; replace e214 := po HQA8 e214; replace e215 := po HQA8 e215; replace e216 := po HQA8 e216; replace e217 := po HQA8 e217; replace e218 := po HQA8 e218; have e219 := put_at HQA8 HS.out (by decide); replace HS := Lib.hid (put_sz HQA8 HS.out)
                      have b3 := (H8.out.keep (HZQ.out.alloc (.cells #[.string nt] 9)) (fun _ h => h.elim)).blk.cell 3
                      simp at b3
                      refine wpAnyH_ready (rs := [1]) (by kernel_rfl) (by simp) ?_; refine AllReadyH.cons (o := _) rfl (fun K hK => ?_) AllReadyH.nil
                      go_simp
                      refine hK.out _ _ ?_ (fun hHeld => ?_)
                      · trivial
                      clear hK K; refine wpAnyH_letter fun ac9 HQA9 => ?_; replace e11 := po HQA9 e11; replace e12 := po HQA9 e12; replace e17 := po HQA9 e17; replace e211 := po HQA9 e211; replace e213 := po HQA9 e213; replace e214 := po HQA9 e214; replace e215 := po HQA9 e215; replace e216 := po HQA9 e216; replace e217 := po HQA9 e217; replace e218 := po HQA9 e218; replace e219 := po HQA9 e219; have e212 := put_at HQA9 HS.out (by decide); replace HS := Lib.hid (put_sz HQA9 HS.out); refine wpAnyH_ready (rs := [9]) (by kernel_rfl) (by simp) ?_; refine AllReadyH.cons (o := _) rfl (fun K hK => ?_) AllReadyH.nil
                      rw [if_pos (by rfl)]
                      have ho6 : (wq.alloc (.cells #[.string nt] 9)).ownsRow w3.heap.size 9 1 (.slice uno2 T.notes.length unc2) T.notes.length (strCells T.notes) := ownsRow_keep H8.out.n (HZQ.out.alloc (.cells #[.string nt] 9)) (fun _ _ h => h)
                      refine oper_app (.tmp 212) (.tmp 219) 44 44 rfl 9 (.string ⟨#[]⟩) 1 16 Tryz.underlying44 info9 rfl ho6 (evals e212) ((Rd.new wq 1 1 [.string nt] 9 rfl (by simp [Value.oneCell']) (by unfold maxLen; omega)).src Tryz.underlying44) (evals e219) (by unfold maxLen; omega) (by omega) (Nat.le_trans HKW.out.size (HZQ.out.alloc (.cells #[.string nt] 9)).size) (fun v' w8 happ => ?_)
                      obtain ⟨ao8, cap8, rfl, _⟩ := ownsRow_shape happ.own
                      have h6 := H8.out.keep (HZQ.out.alloc (.cells #[.string nt] 9)) (fun _ h => h.elim)
                      have hb8 := h6.blk.keep happ.keep (fun e => ownsRow_blk h6.n h6.blk (by decide) e)
                      have d3 := hb8.cell 3
                      have y3 := hb8.free 3
                      simp at d3
                      have hk8 : Keep (fun k => w3.heap.size ≤ k) wz w8 := ((HZQ.out.alloc (.cells #[.string nt] 9)).mono (fun _ _ h => h.elim)).trans happ.keep (fun b hb e => (ownsRow_lt ho6 b e).1)
                      have HK8 := Lib.hid hk8
                      have H9 := Lib.hid (h6.app_n (x := nt) happ.keep (by have := happ.own; simpa [strCells, List.map_append] using this))
                      clear happ h6 hb8 ho6 hk8
                      (try dsimp only)
                      refine hK.out _ _ ?_ (fun hHeld => ?_)
                      · trivial
                      clear hK K; refine wpAnyH_letter fun ac10 HQA10 => ?_; replace e11 := po HQA10 e11; replace e12 := po HQA10 e12; replace e17 := po HQA10 e17; replace e211 := po HQA10 e211; replace e213 := po HQA10 e213; replace e214 := po HQA10 e214; replace e215 := po HQA10 e215; replace e216 := po HQA10 e216; replace e217 := po HQA10 e217; replace e218 := po HQA10 e218; replace e219 := po HQA10 e219; replace e212 := po HQA10 e212; have e220 := put_at HQA10 HS.out (by decide); replace HS := Lib.hid (put_sz HQA10 HS.out)
                      refine wpAnyH_take (i := 10) (oi := _) (v := ?_) rfl (by kernel_rfl) (by kernel_rfl) (by kernel_rfl) (fun _ _ _ h => h) (Or.inl ⟨by rfl, ?_⟩) hHeld ?_
                      rotate_left
                      · (intro w hSw; obtain q0 := hSw; go_simp) <;> with_reducible rfl
                      refine wpAnyH_letter fun ac11 HQA11 => ?_; replace e11 := po HQA11 e11; replace e12 := po HQA11 e12; replace e17 := po HQA11 e17; replace e211 := po HQA11 e211; replace e213 := po HQA11 e213; replace e214 := po HQA11 e214; replace e215 := po HQA11 e215; replace e216 := po HQA11 e216; replace e217 := po HQA11 e217; replace e218 := po HQA11 e218; replace e219 := po HQA11 e219; replace e212 := po HQA11 e212; replace e220 := po HQA11 e220; have e221 := put_at HQA11 HS.out (by decide); replace HS := Lib.hid (put_sz HQA11 HS.out); refine wpAnyH_ready (rs := [11]) (by kernel_rfl) (by simp) ?_; refine AllReadyH.cons (o := _) rfl (fun K hK => ?_) AllReadyH.nil
                      go_simp
                      refine hK.out _ _ ?_ (fun hHeld => ?_)
                      · trivial
                      clear hK K
                      refine wpAnyH_done (by kernel_rfl) ?_ _
                      refine NoPanic.normal ?_
                      rw [HQ1.out]
                      have g0 := uE0 ac0 [211, 212, 213, 214, 215, 216, 217, 218, 219, 220, 221]
                      have g1 := uE HQA1 g0 (by rfl); have g2 := uE HQA2 g1 (by rfl); have g3 := uE HQA3 g2 (by rfl); have g4 := uE HQA4 g3 (by rfl); have g5 := uE HQA5 g4 (by rfl); have g6 := uE HQA6 g5 (by rfl); have g7 := uE HQA7 g6 (by rfl); have g8 := uE HQA8 g7 (by rfl); have g9 := uE HQA9 g8 (by rfl); have g10 := uE HQA10 g9 (by rfl); have g11 := uE HQA11 g10 (by rfl)
                      obtain ⟨f, hf⟩ := g11
                      rw [HQA0.out] at hf
                      refine hKq _ _ (Met.intro (hJq _ _ ?_))
                      refine ⟨f 211, f 212, f 213, f 214, f 215, f 216, f 217, f 218, f 219, f 220, f 221, ⟨_, (by rw [HNT.out] at H9; exact H9.out), HK8.out.setCell _ _ (fun _ => HRO.out.ge)⟩, hf.trans (by kernel_rfl)⟩
                case rest =>
                  obtain ⟨un3, h9, hk9⟩ := hcut
                  rw [HT.out] at h9
                  have H9 := Lib.hid h9
                  have HK9 := Lib.hid (HKW.out.trans hk9 (fun _ _ h => h))
                  clear h9 hk9 b3
                  refine hK9 _ _ ?_
                  (try simp only [Exit.inBlock, Exit.then])
                  go_wp2_with fail
                  go_roundw
                  case rel => exact ⟨_, _, HK9.out, .inr (.inr ⟨rfl, H9.out⟩)⟩
                  case measure => simp [intOf]
              · obtain ⟨uco2, ucc2, rfl, _⟩ := ownsRow_shape hro.c
                obtain ⟨uno2, unc2, rfl, _⟩ := ownsRow_shape hro.n
                obtain ⟨w8, rfl⟩ : ∃ w8, w8 = wr := ⟨_, rfl⟩
                have H8 := Lib.hid hro
                have HK38 := HKW
                clear hro
                have hrw := HR3.out.keep HK38.out (fun e => by have := HR3.out.lt; omega)
                have r0 := hrw.cell 0
                have r1 := hrw.cell 1
                have r2 := hrw.cell 2
                have r3 := hrw.cell 3
                have f0 := hrw.free 0
                have f1 := hrw.free 1
                have f2 := hrw.free 2
                have f3 := hrw.free 3
                have b0 := H8.out.blk.cell 0
                have b1 := H8.out.blk.cell 1
                have b2 := H8.out.blk.cell 2
                have b3 := H8.out.blk.cell 3
                simp at r0 r1 r2 r3 b0 b1 b2 b3
                have HRW := Lib.hid hrw; clear hrw
                go_wp2_with fail
                (try simp only [Exit.inBlock, Exit.then])
                refine rdo_back HRW.out rfl rfl rfl rfl rfl (fun wf hkf => ?_)
                exact rdo_yes (nb := nb) HF.out (H8.out.keep hkf (fun b e => by have := HR3.out.lt; omega)) ((HK3.out.trans HK38.out (fun k hk e => by have := HK3.out.size; omega)).trans hkf (fun k hk e => by omega)) HK3.out.size
end Go.Proofs.YthdkamnclbfehaaGreatDoor
/- cubebref09.Do: put. -/
namespace Go.Proofs.YthdkamnclbfehaaGreatDoor
set_option linter.unusedSimpArgs false
set_option linter.unusedVariables false
set_option linter.unnecessarySimpa false
open Go.RowKit
set_option maxHeartbeats 20000000 in
set_option maxRecDepth 100000 in
theorem rdo_put {w : World} {vl vc vt vn bv : Value} {S : St} {m : Nat} {s wd nm : ByteArray} {ns : List Int} (hG : Glob w) (hb : Rd w 1 bv S.bays.length (icells S.bays)) (hS : RSt w vl vc vt vn S) (hI : Inv m S) (hm : m ≤ 1000000) (hs : s.size ≤ 4096)
    (hread : readR s = some (wd, nm, ns)) (hwd : wd.data.toList = [112, 117, 116]) {i b : Int} (hns : ns = [i, b]) (hi : numB i) (hb2 : numB b) (hdo : doF runF S s = putF S ⟨ns, nm, true⟩) : Calls Tryz.prog 67 #[bv, .agg #[vl, vc, vt, vn], .string s] w (RDoPost w (doF runF S s)) := by
  have H95 : Hid (∀ W, Keep (fun _ => False) w W → Calls Tryz.prog 95 #[.string s] W (ReadSaid W s)) := Lib.hid fun W hk => rread_any (hG.keep hk) hs
  have H96 : Hid (∀ W, Keep (fun _ => False) w W → Calls Tryz.prog 96 #[.int .i64 ((S.lots.length : Int) + 1)] W (ItoaPost W ((S.lots.length : Int) + 1))) := Lib.hid fun W hk => itoa_any (hG.keep hk) (by omega) (by have := hI.l; omega)
  have HREAD := Lib.hid hread; have HNS := Lib.hid hns; have HWD := Lib.hid hwd; have HDF := Lib.hid hdo; clear hns hwd hdo; have HNI := Lib.hid hi; have HNB := Lib.hid hb2; clear hi hb2; have HG := Lib.hid hG; have HBV := Lib.hid hb; have HST := Lib.hid hS; have HI := Lib.hid hI
  have hl20 := hI.l
  have hc2 := hI.c
  have ht2 := hI.t
  have hn2 := hI.n
  obtain ⟨lo, lc, hvl, hlc, _⟩ := hS.l.shape
  obtain ⟨co, cc, hvc, hcc, _⟩ := hS.c.shape
  obtain ⟨to_, tc, hvt, htc, _⟩ := hS.t.shape
  obtain ⟨no, nc, hvn, hnc, _⟩ := hS.n.shape
  subst hvl hvc hvt hvn
  obtain ⟨cells, hcells⟩ : ∃ c : Array Value, c = #[.slice lo S.lots.length lc, .slice co S.contacts.length cc, .slice to_ S.tests.length tc, .slice no S.notes.length nc] := ⟨_, rfl⟩
  have hT0 : Blk ((w.alloc (.cells #[.slice lo S.lots.length lc, .slice co S.contacts.length cc, .slice to_ S.tests.length tc, .slice no S.notes.length nc] 74)).alloc (.cells #[.slice none 0 0, .slice none 0 0, .slice none 0 0, .slice none 0 0] 74)) w.heap.size #[.slice lo S.lots.length lc, .slice co S.contacts.length cc, .slice to_ S.tests.length tc, .slice no S.notes.length nc] 74 := (Blk.new _ _ _).alloc _
  have hR0 : Blk ((w.alloc (.cells #[.slice lo S.lots.length lc, .slice co S.contacts.length cc, .slice to_ S.tests.length tc, .slice no S.notes.length nc] 74)).alloc (.cells #[.slice none 0 0, .slice none 0 0, .slice none 0 0, .slice none 0 0] 74)) (w.heap.size + 1) #[.slice none 0 0, .slice none 0 0, .slice none 0 0, .slice none 0 0] 74 := by
    have := Blk.new (w.alloc (.cells #[.slice lo S.lots.length lc, .slice co S.contacts.length cc, .slice to_ S.tests.length tc, .slice no S.notes.length nc] 74)) #[.slice none 0 0, .slice none 0 0, .slice none 0 0, .slice none 0 0] 74
    rwa [World.size_alloc] at this
  have hK0 : Keep (fun _ => False) w ((w.alloc (.cells #[.slice lo S.lots.length lc, .slice co S.contacts.length cc, .slice to_ S.tests.length tc, .slice no S.notes.length nc] 74)).alloc (.cells #[.slice none 0 0, .slice none 0 0, .slice none 0 0, .slice none 0 0] 74)) := ((Keep.refl _ _).alloc _).alloc _
  have HT0 := Lib.hid hT0; have HR0 := Lib.hid hR0; have HK0 := Lib.hid hK0; clear hG hb hS hI hread hs hcells cells hT0 hR0 hK0
  go_enter Tryz.func67, Tryz.ntmps67
  go_upto_region 4 with (go_at_call 95; refine (H95.out _ HK0.out).mono ?_; rintro e w2 ⟨hk2, _, hsay⟩; obtain ⟨vn9, rfl, hrd9⟩ := hsay _ _ _ HREAD.out; obtain ⟨oo, ocp, rfl, _⟩ := hrd9.shape; have HK2 := Lib.hid hk2; have HRD9 := Lib.hid hrd9; clear hk2 hsay hrd9)
  obtain ⟨w3, hw3⟩ : ∃ w3, w3 = w2.alloc (.cells #[.string wd, .string nm, .slice oo ns.length ocp] 169) := ⟨_, rfl⟩
  have h23 : Keep (fun _ => False) w2 w3 := by rw [hw3]; exact (Keep.refl _ _).alloc _
  have HA3 : Hid (Blk w3 w2.heap.size #[.string wd, .string nm, .slice oo ns.length ocp] 169) := Lib.hid (by rw [hw3]; exact Blk.new _ _ _)
  have HT3 := Lib.hid ((HT0.out.keep HK2.out (fun h => h)).keep h23 (fun h => h))
  have HR3 := Lib.hid ((HR0.out.keep HK2.out (fun h => h)).keep h23 (fun h => h))
  have HK3 := Lib.hid ((HK0.out.trans HK2.out (fun _ _ h => h)).trans h23 (fun _ _ h => h))
  have HN3 := Lib.hid (HRD9.out.keep h23 (fun _ _ h => h))
  rw [← hw3]
  clear hw3 h23
  have HSX : Hid (∀ W, Keep (fun _ => False) w3 W → W.cell? ⟨w.heap.size, 0, none⟩ = some (.slice lo S.lots.length lc) ∧ W.cell? ⟨w.heap.size, 1, none⟩ = some (.slice co S.contacts.length cc) ∧ W.cell? ⟨w.heap.size, 2, none⟩ = some (.slice to_ S.tests.length tc) ∧ W.cell? ⟨w.heap.size, 3, none⟩ = some (.slice no S.notes.length nc) ∧ Keep (fun _ => False) w3 W) := Lib.hid fun W hk =>
    have h := HT3.out.keep hk (fun h => h)
    ⟨h.cell 0, h.cell 1, h.cell 2, h.cell 3, hk⟩
  go_cut [11] from 30 to 47 (fun s11 wx => ∃ nb ul uc ut un, s11 = .pointer (some ⟨nb, 0, none⟩) ∧ RO w3.heap.size wx nb ul uc ut un S ∧ Keep (fun _ => False) w3 wx)
  case first =>
    refine rdo_copy (w := w) (S := S) ⟨by kernel_rfl, by kernel_rfl, ⟨_, _, rfl⟩, ⟨_, _, rfl⟩, ⟨_, _, rfl⟩, ⟨_, _, rfl⟩, ⟨_, _, rfl⟩, ⟨_, _, rfl⟩, ⟨_, _, rfl⟩, ⟨_, _, rfl⟩, ⟨_, _, rfl⟩, ⟨_, _, rfl⟩, ⟨_, _, rfl⟩, ⟨_, _, rfl⟩, ⟨_, _, rfl⟩, ⟨_, _, rfl⟩, ⟨_, _, rfl⟩, ⟨_, _, rfl⟩, ⟨_, _, rfl⟩, ⟨_, _, rfl⟩, ⟨_, _, _, rfl, by kernel_rfl⟩⟩ (by kernel_rfl) (by rfl) (by omega) (by omega) (by omega) (by omega) HK3.out HST.out (fun W hk => have h := HSX.out W hk; ⟨h.1, h.2.1, h.2.2.1, h.2.2.2.1⟩) (fun f wx nb hf hro hkx => ?_)
    simp only [updL, copyKs, Act.put, List.setIfInBounds_toArray, List.set_cons_zero, List.set_cons_succ]
    have HRO := Lib.hid hro; clear hro
    go_wp2_with fail
    go_meet
    exact ⟨nb, _, _, _, _, rfl, HRO.out, hkx⟩
  case rest =>
    obtain ⟨nb, ul, uc, ut, un, rfl, hro, hkc⟩ := hcut
    obtain ⟨ulo, ulc, rfl, _⟩ := ownsRow_shape hro.l
    obtain ⟨uco, ucc, rfl, _⟩ := ownsRow_shape hro.c
    obtain ⟨uto, utc, rfl, _⟩ := ownsRow_shape hro.t
    obtain ⟨uno, unc, rfl, _⟩ := ownsRow_shape hro.n
    obtain ⟨x0, x1, x2, x3, _⟩ := rdo_cells (HT3.out.keep hkc (fun h => h)) (HR3.out.keep hkc (fun h => h))
    have HRO := Lib.hid hro; have HKC := Lib.hid hkc
    have HAC : Hid (∀ W, Keep (fun _ => False) w3 W → W.cell? ⟨w2.heap.size, 0, none⟩ = some (.string wd) ∧ W.cell? ⟨w2.heap.size, 1, none⟩ = some (.string nm) ∧ W.cell? ⟨w2.heap.size, 2, none⟩ = some (.slice oo ns.length ocp)) := Lib.hid fun W hk =>
      have h := HA3.out.keep hk (fun h => h)
      ⟨h.cell 0, h.cell 1, h.cell 2⟩
    clear hro hkc
    have hwd := HWD.out
    have hc0 := lit_ne wd [116, 97, 107, 101] (by rw [hwd]; decide)
    have hc1 := lit_ne wd [98, 108, 101, 110, 100] (by rw [hwd]; decide)
    have hc2 := lit_eq _ _ hwd
    clear hwd
    have HRC : Hid (∀ W, Keep (fun _ => False) wc W → _) := Lib.hid fun W hk => rdo_cells (HT3.out.keep (HKC.out.trans hk (fun _ _ h => h)) (fun h => h)) (HR3.out.keep (HKC.out.trans hk (fun _ _ h => h)) (fun h => h))
    have HAW : Hid (∀ W, Keep (fun _ => False) wc W → _) := Lib.hid fun W hk => HAC.out W (HKC.out.trans hk (fun _ _ h => h))
    have hn0 : ns.length = 2 := by rw [HNS.out]; rfl
    obtain ⟨ng, no', rfl, hnx⟩ := rd_ints HN3.out (by omega)
    have HNC : Hid (∀ W, Keep (fun _ => False) w3 W → W.cell? ⟨ng, no', none⟩ = some (.int .i64 i) ∧ W.cell? ⟨ng, no' + 1, none⟩ = some (.int .i64 b)) := Lib.hid fun W hk => by
      have h0 := hnx W 0 hk (by omega)
      have h1 := hnx W 1 hk (by omega)
      rw [HNS.out] at h0 h1
      exact ⟨h0, h1⟩
    clear hnx
    have HNW : Hid (∀ W, Keep (fun _ => False) wc W → _) := Lib.hid fun W hk => HNC.out W (HKC.out.trans hk (fun _ _ h => h))
    obtain ⟨bn, rfl⟩ := Int.eq_ofNat_of_zero_le HNB.out.1
    obtain ⟨gb, ob, cb, rfl, hbx⟩ : ∃ gb ob cb, bv = .slice (some ⟨gb, ob, none⟩) S.bays.length cb ∧ ∀ W j, Keep (fun _ => False) w W → j < S.bays.length → W.cell? ⟨gb, ob + j, none⟩ = some (.int .i64 (S.bays.getD j 0)) := by
      rcases HBV.out.2.2 with ⟨_, e⟩ | ⟨gb, ob, cb, e, _, _, hx⟩
      · have := HI.out.b; omega
      · exact ⟨gb, ob, cb, e, fun W j hk hj => by
          have h1 := hx j _ (icells_get _ _ hj)
          exact (hk.cell (p := ⟨gb, ob + j, none⟩) (World.block_lt_of_cell? w _ h1) (fun h => h)).trans h1⟩
    have hb8 := HI.out.b
    rw [hb8] at hbx
    have HBX := Lib.hid hbx; clear hbx
    have HLEN := HI
    cases hi : hasLot S i with
    | false =>
      have HF : Hid (doF runF S s = ⟨5, S, bs []⟩) := Lib.hid (by rw [HDF.out, HNS.out]; unfold putF; simp [hi])
      have HIL := Lib.hid hi; clear hi
      go_wp2_with (go_at_call 96; refine (H96.out _ (HK3.out.trans HKC.out (fun _ _ h => h))).mono ?_; rintro e w5 ⟨rfl, hk5⟩; obtain ⟨t0, t1, t2, t3, r0, r1, r2, r3, f0, f1, f2, f3⟩ := HRC.out _ hk5; obtain ⟨a0, a1, a2⟩ := HAW.out _ hk5; have HKR := Lib.hid hk5; clear hk5)
      obtain ⟨n0, n1⟩ := HNW.out _ HKR.out
      go_quiet (fail)
      go_wp2_with (go_at_call 97; refine Calls.mono (has_any (S := S)) ?_; rintro e w6 ⟨rfl, hk6⟩; rw [HIL.out]; have HKR := Lib.hid ((HKR.out.drewN nq).trans hk6 (fun _ _ h => h)); obtain ⟨t0, t1, t2, t3, r0, r1, r2, r3, f0, f1, f2, f3⟩ := HRC.out _ HKR.out; clear hk6)
      (try simp only [Exit.inBlock, Exit.then])
      refine rdo_back (HR3.out.keep (HKC.out.trans (HKR.out) (fun _ _ h => h)) (fun h => h)) rfl rfl rfl rfl rfl (fun wf hkf => ?_)
      exact rdo_no (by decide) HF.out HST.out (((HK3.out.trans HKC.out (fun _ _ h => h)).trans (HKR.out) (fun _ _ h => h)).trans hkf (fun k hk e => by omega))
    | true =>
      have HIL := Lib.hid hi
      obtain ⟨ki, rfl, hki⟩ := hasLot_at hi
      obtain ⟨X, hX⟩ : ∃ X, S.lots[ki]? = some X := ⟨_, List.getElem?_eq_getElem hki⟩
      have hg1 : S.lots[((ki : Int) + 1 - 1).toNat]? = some X := by rw [show ((ki : Int) + 1 - 1).toNat = ki by omega]; exact hX
      have hF0 : doF runF S s = if 7 < (bn : Int) then ⟨2, S, bs []⟩ else (if X.closed then ⟨7, S, bs []⟩
          else if (List.range S.lots.length).any (clashAt S ((ki : Int) + 1) (bn : Int) X) then ⟨7, S, bs []⟩
          else ⟨0, { S with lots := S.lots.set ki { X with bay := (bn : Int) } }, ⟨#[112, 117, 116]⟩⟩) := by
        rw [HDF.out, HNS.out]; unfold putF
        simp only [List.getD_cons_zero, List.getD_cons_succ]
        rw [if_pos hi, hg1, show ((ki : Int) + 1 - 1).toNat = ki by omega]
        rfl
      obtain ⟨lg, lof, rfl, hlx⟩ := HST.out.lot (by omega)
      have HLX : Hid (∀ W i Y, Keep (fun _ => False) wc W → S.lots[i]? = some Y → _) := Lib.hid fun W i Y hw hY => hlx W i Y ((HK3.out.trans HKC.out (fun _ _ h => h)).trans hw (fun _ _ h => h)) hY
      obtain ⟨ug, rfl⟩ := HRO.out.lrow (by omega)
      have HX := Lib.hid hX
      have hwk : IntKind.i64.wrap ((ki : Int) + 1 - 1) = (ki : Int) := by rw [IntWalk.i64_in _ (by omega)]; omega
      have hkI : ((ki : Int) < (S.lots.length : Int)) = True := eq_true (by omega)
      clear hlx hX hg1 hi
      by_cases h7 : 7 < (bn : Int)
      · have HF : Hid (doF runF S s = ⟨2, S, bs []⟩) := Lib.hid (by rw [hF0, if_pos h7])
        have h7d : decide (7 < (bn : Int)) = true := decide_eq_true h7
        clear hF0 h7
        go_wp2_with (go_at_call 96; refine (H96.out _ (HK3.out.trans HKC.out (fun _ _ h => h))).mono ?_; rintro e w5 ⟨rfl, hk5⟩; obtain ⟨t0, t1, t2, t3, r0, r1, r2, r3, f0, f1, f2, f3⟩ := HRC.out _ hk5; obtain ⟨a0, a1, a2⟩ := HAW.out _ hk5; have HKR := Lib.hid hk5; clear hk5)
        obtain ⟨n0, n1⟩ := HNW.out _ HKR.out
        go_quiet (fail)
        go_wp2_with (go_at_call 97; refine Calls.mono (has_any (S := S)) ?_; rintro e w6 ⟨rfl, hk6⟩; rw [HIL.out]; have HKR := Lib.hid ((HKR.out.drewN nq).trans hk6 (fun _ _ h => h)); obtain ⟨t0, t1, t2, t3, r0, r1, r2, r3, f0, f1, f2, f3⟩ := HRC.out _ HKR.out; clear hk6)
        (try simp only [Exit.inBlock, Exit.then])
        refine rdo_back (HR3.out.keep (HKC.out.trans (HKR.out) (fun _ _ h => h)) (fun h => h)) rfl rfl rfl rfl rfl (fun wf hkf => ?_)
        exact rdo_no (by decide) HF.out HST.out (((HK3.out.trans HKC.out (fun _ _ h => h)).trans (HKR.out) (fun _ _ h => h)).trans hkf (fun k hk e => by omega))
      rw [if_neg h7] at hF0
      have h7d : decide (7 < (bn : Int)) = false := decide_eq_false h7
      cases hcx : X.closed with
      | true =>
        have HF : Hid (doF runF S s = ⟨7, S, bs []⟩) := Lib.hid (by rw [hF0, hcx]; rfl)
        have HCX := Lib.hid hcx; clear hF0 h7 hcx
        go_wp2_with (go_at_call 96; refine (H96.out _ (HK3.out.trans HKC.out (fun _ _ h => h))).mono ?_; rintro e w5 ⟨rfl, hk5⟩; obtain ⟨t0, t1, t2, t3, r0, r1, r2, r3, f0, f1, f2, f3⟩ := HRC.out _ hk5; obtain ⟨a0, a1, a2⟩ := HAW.out _ hk5; have HKR := Lib.hid hk5; clear hk5)
        obtain ⟨n0, n1⟩ := HNW.out _ HKR.out
        go_quiet (fail)
        go_wp2_with (go_at_call 97; refine Calls.mono (has_any (S := S)) ?_; rintro e w6 ⟨rfl, hk6⟩; rw [HIL.out]; have HKR := Lib.hid ((HKR.out.drewN nq).trans hk6 (fun _ _ h => h)); obtain ⟨t0, t1, t2, t3, r0, r1, r2, r3, f0, f1, f2, f3⟩ := HRC.out _ HKR.out; obtain ⟨l0, l1, l2, l3⟩ := HLX.out _ _ _ HKR.out HX.out; rw [HCX.out] at l3; clear hk6)
        (try simp only [Exit.inBlock, Exit.then])
        refine rdo_back (HR3.out.keep (HKC.out.trans (HKR.out) (fun _ _ h => h)) (fun h => h)) rfl rfl rfl rfl rfl (fun wf hkf => ?_)
        exact rdo_no (by decide) HF.out HST.out (((HK3.out.trans HKC.out (fun _ _ h => h)).trans (HKR.out) (fun _ _ h => h)).trans hkf (fun k hk e => by omega))
      | false =>
        have HF1 : Hid (doF runF S s = if (List.range S.lots.length).any (clashAt S ((ki : Int) + 1) (bn : Int) X) then ⟨7, S, bs []⟩ else ⟨0, { S with lots := S.lots.set ki { X with bay := (bn : Int) } }, ⟨#[112, 117, 116]⟩⟩) := Lib.hid (by rw [hF0, hcx]; rfl)
        have HCX := Lib.hid hcx
        have hbn : bn < 8 := by omega
        clear hF0 hcx h7
        go_wp2_with (go_at_call 96; refine (H96.out _ (HK3.out.trans HKC.out (fun _ _ h => h))).mono ?_; rintro e w5 ⟨rfl, hk5⟩; obtain ⟨t0, t1, t2, t3, r0, r1, r2, r3, f0, f1, f2, f3⟩ := HRC.out _ hk5; obtain ⟨a0, a1, a2⟩ := HAW.out _ hk5; have HKR := Lib.hid hk5; clear hk5)
        obtain ⟨n0, n1⟩ := HNW.out _ HKR.out
        go_quiet (fail)
        go_wp2_with (go_at_call 97; refine Calls.mono (has_any (S := S)) ?_; rintro e w6 ⟨rfl, hk6⟩; rw [HIL.out]; have HKR := Lib.hid ((HKR.out.drewN nq).trans hk6 (fun _ _ h => h)); obtain ⟨t0, t1, t2, t3, r0, r1, r2, r3, f0, f1, f2, f3⟩ := HRC.out _ HKR.out; obtain ⟨l0, l1, l2, l3⟩ := HLX.out _ _ _ HKR.out HX.out; rw [HCX.out] at l3; clear hk6)
        go_loopw [258] (fun v wr => ∃ k : Nat, k ≤ S.lots.length ∧ v = .int .i64 k ∧ Keep (fun _ => False) wc wr ∧ ∀ j, j < k → clashAt S ((ki : Int) + 1) (bn : Int) X j = false) (fun v _ => S.lots.length - (intOf v).toNat)
        case atStart => exact ⟨0, Nat.zero_le _, rfl, HKR.out, fun j h => by omega⟩
        case round =>
          clear t0 t1 t2 t3 r0 r1 r2 r3 f0 f1 f2 f3 l0 l1 l2 l3 n0 n1 a0 a1 a2
          obtain ⟨k, hk, rfl, hkr, hnc⟩ := hrel
          have HKR := Lib.hid hkr; clear hkr
          have HNC2 := Lib.hid hnc; clear hnc
          by_cases hlt : k < S.lots.length
          · obtain ⟨Y, hY⟩ : ∃ Y, S.lots[k]? = some Y := ⟨_, List.getElem?_eq_getElem hlt⟩
            obtain ⟨ys, yg, yb, yc⟩ := Y
            have hlti : ((k : Int) < (S.lots.length : Int)) = True := by simp; omega
            obtain ⟨y0, y1, y2, y3⟩ := HLX.out _ _ _ HKR.out hY
            dsimp only at y0 y1 y2 y3
            have hcl : clashAt S ((ki : Int) + 1) (bn : Int) X k = (!((k : Int) == (ki : Int) + 1 - 1) && (!yc && (!decide (yb < 0) && (yb == (bn : Int) || (!(ys.toList == X.spice.toList) && adjB S (bn : Int) yb))))) := by unfold clashAt; rw [hY]
            clear hY
            have hbw := (HKR.out.alloc (.cells #[.string ys, .int .i64 yg, .int .i64 yb, .bool yc] 174))
            have hzb := Blk.new wr #[.string ys, .int .i64 yg, .int .i64 yb, .bool yc] 174
            go_upto_region 43 with fail
            obtain ⟨wb, hwb⟩ : ∃ wb, wb = wr.alloc (.cells #[.string ys, .int .i64 yg, .int .i64 yb, .bool yc] 174) := ⟨_, rfl⟩
            rw [← hwb] at hbw hzb
            rw [← hwb]
            clear hwb y0 y1 y2 y3
            have z0 := hzb.cell 0
            have z2 := hzb.cell 2
            have z3 := hzb.cell 3
            simp at z0 z2 z3
            have HKB := Lib.hid hbw; clear hbw hzb
            obtain ⟨t0, t1, t2, t3, r0, r1, r2, r3, f0, f1, f2, f3⟩ := HRC.out _ HKB.out
            have xs := (HLX.out _ _ _ HKB.out HX.out).1
            have hbc := HBX.out _ bn ((HK3.out.trans HKC.out (fun _ _ h => h)).trans HKB.out (fun _ _ h => h)) (by omega)
            by_cases hkk : k = ki
            · have HCL := Lib.hid (show clashAt S ((ki : Int) + 1) (bn : Int) X k = false by rw [hcl, hkk]; simp)
              have hkd : ((k : Int) != (ki : Int)) = false := by rw [hkk]; simp
              clear hcl hkk
              go_quiet (fail)
              go_wp2_with fail
              go_roundw
              case rel => exact ⟨k + 1, hlt, by go_num, HKB.out.drewN _, fun j hj => by
                by_cases hjk : j = k
                · subst hjk; exact HCL.out
                · exact HNC2.out j (by omega)⟩
              case measure => simp [intOf]; omega
            have hkd : ((k : Int) != (ki : Int)) = true := by simp; omega
            have hkd' : ((k : Int) == (ki : Int) + 1 - 1) = false := by simp; omega
            cases yc with
            | true =>
              have HCL := Lib.hid (show clashAt S ((ki : Int) + 1) (bn : Int) X k = false by rw [hcl]; simp)
              clear hcl hkk hkd'
              go_quiet (fail)
              go_wp2_with fail
              go_roundw
              case rel => exact ⟨k + 1, hlt, by go_num, HKB.out.drewN _, fun j hj => by
                by_cases hjk : j = k
                · subst hjk; exact HCL.out
                · exact HNC2.out j (by omega)⟩
              case measure => simp [intOf]; omega
            | false =>
              by_cases hyb : yb < 0
              · have HCL := Lib.hid (show clashAt S ((ki : Int) + 1) (bn : Int) X k = false by rw [hcl, decide_eq_true hyb]; simp)
                have hybd : decide (0 ≤ yb) = false := decide_eq_false (by omega)
                clear hcl hkk hyb hkd'
                go_quiet (fail)
                go_wp2_with fail
                go_roundw
                case rel => exact ⟨k + 1, hlt, by go_num, HKB.out.drewN _, fun j hj => by
                  by_cases hjk : j = k
                  · subst hjk; exact HCL.out
                  · exact HNC2.out j (by omega)⟩
                case measure => simp [intOf]; omega
              obtain ⟨c, rfl⟩ := Int.eq_ofNat_of_zero_le (show 0 ≤ yb by omega)
              have hcl2 : clashAt S ((ki : Int) + 1) (bn : Int) X k = (((c : Int) == (bn : Int)) || (!(ys.toList == X.spice.toList) && (S.bays.getD bn 0 / 2 ^ min c 64 % 2 == 1))) := by
                rw [hcl, hkd', decide_eq_false hyb]
                simp only [adjB, Int.toNat_natCast, Bool.not_false, Bool.true_and]
              have hybd : decide (0 ≤ (c : Int)) = true := decide_eq_true (by omega)
              clear hkk hcl hkd' hyb
              obtain ⟨q, hq⟩ : ∃ q, S.bays.getD bn 0 = q := ⟨_, rfl⟩
              rw [hq] at hbc hcl2
              have HQ := Lib.hid hq; clear hq
              have a1 := i64_and_one
              have hb8i : ((bn : Int) < 8) = True := by simp; omega
              by_cases hcb : (c : Int) = (bn : Int)
              · have HF : Hid (doF runF S s = ⟨7, S, bs []⟩) := Lib.hid (by rw [HF1.out, if_pos (List.any_eq_true.2 ⟨k, List.mem_range.2 hlt, by rw [hcl2, hcb]; simp⟩)])
                have hcbd : ((c : Int) == (bn : Int)) = true := by rw [hcb]; simp
                clear hcl2 hcb
                go_quiet (fail)
                go_wp2_with fail
                (try simp only [Exit.inBlock, Exit.then])
                refine rdo_back (HR3.out.keep (HKC.out.trans (HKB.out.drewN _) (fun _ _ h => h)) (fun h => h)) rfl rfl rfl rfl rfl (fun wf hkf => ?_)
                exact rdo_no (by decide) HF.out HST.out (((HK3.out.trans HKC.out (fun _ _ h => h)).trans (HKB.out.drewN _) (fun _ _ h => h)).trans hkf (fun k hk e => by omega))
              have hcbd : ((c : Int) == (bn : Int)) = false := by simp; omega
              rw [hcbd, Bool.false_or] at hcl2
              clear hcb
              cases hbit : (q / 2 ^ min c 64 % 2 == 1) with
              | false =>
                have HCL := Lib.hid (show clashAt S ((ki : Int) + 1) (bn : Int) X k = false by rw [hcl2, hbit]; simp)
                clear hcl2
                go_quiet (fail)
                go_wp2_with fail
                go_roundw
                case rel => exact ⟨k + 1, hlt, by go_num, HKB.out.drewN _, fun j hj => by
                  by_cases hjk : j = k
                  · subst hjk; exact HCL.out
                  · exact HNC2.out j (by omega)⟩
                case measure => simp [intOf]; omega
              | true =>
                rw [hbit, Bool.and_true] at hcl2
                by_cases hsp : ys = X.spice
                · have HCL := Lib.hid (show clashAt S ((ki : Int) + 1) (bn : Int) X k = false by rw [hcl2, hsp]; simp)
                  rw [hsp] at z0
                  clear hcl2 hsp
                  go_quiet (fail)
                  go_wp2_with fail
                  go_roundw
                  case rel => exact ⟨k + 1, hlt, by go_num, HKB.out.drewN _, fun j hj => by
                    by_cases hjk : j = k
                    · subst hjk; exact HCL.out
                    · exact HNC2.out j (by omega)⟩
                  case measure => simp [intOf]; omega
                · have hspt : (ys.toList == X.spice.toList) = false := by rw [beq_dec]; exact decide_eq_false hsp
                  have HF : Hid (doF runF S s = ⟨7, S, bs []⟩) := Lib.hid (by rw [HF1.out, if_pos (List.any_eq_true.2 ⟨k, List.mem_range.2 hlt, by rw [hcl2, hspt]; rfl⟩)])
                  clear hcl2 hsp
                  go_quiet (fail)
                  go_wp2_with fail
                  (try simp only [Exit.inBlock, Exit.then])
                  refine rdo_back (HR3.out.keep (HKC.out.trans (HKB.out.drewN _) (fun _ _ h => h)) (fun h => h)) rfl rfl rfl rfl rfl (fun wf hkf => ?_)
                  exact rdo_no (by decide) HF.out HST.out (((HK3.out.trans HKC.out (fun _ _ h => h)).trans (HKB.out.drewN _) (fun _ _ h => h)).trans hkf (fun k hk e => by omega))
          · have hke : k = S.lots.length := by omega
            have HF : Hid (doF runF S s = ⟨0, { S with lots := S.lots.set ki { X with bay := (bn : Int) } }, ⟨#[112, 117, 116]⟩⟩) := Lib.hid (by
              rw [HF1.out, if_neg]
              intro e
              obtain ⟨j, hj, e⟩ := List.any_eq_true.1 e
              rw [HNC2.out j (by rw [hke]; exact List.mem_range.1 hj)] at e
              cases e)
            have hlti : ((k : Int) < (S.lots.length : Int)) = False := by simp; omega
            have hr5 := HRO.out.keep HKR.out (fun _ h => h.elim)
            have b0 := hr5.blk.cell 0
            simp at b0
            obtain ⟨⟨_, _, l2, _⟩, hfr⟩ := hr5.lot HX.out
            have y2 := hfr (ki * 4 + 2)
            have HR5 := Lib.hid hr5; clear hr5 hfr hke
            go_upto_region 47 with fail
            obtain ⟨h8, hk8, hug⟩ := HR5.out.setLot HX.out 2 (by omega) { X with bay := (bn : Int) } (.int .i64 (bn : Int)) rfl
            have hk38 : Keep (fun j => w3.heap.size ≤ j) w3 _ := ((HKC.out.trans HKR.out (fun _ _ h => h)).mono (fun _ _ h => h.elim)).trans hk8 (fun j _ e => by rw [e]; exact hug)
            clear b0 l2 y2
            refine wp_world fun w8 hw8 => ?_
            rw [← hw8] at h8 hk38
            clear hw8; have H8 := Lib.hid h8; have HK38 := Lib.hid hk38; clear h8 hk38 hk8 hug
            have hrw := HR3.out.keep HK38.out (fun e => by have := HR3.out.lt; omega)
            have r0 := hrw.cell 0
            have r1 := hrw.cell 1
            have r2 := hrw.cell 2
            have r3 := hrw.cell 3
            have f0 := hrw.free 0
            have f1 := hrw.free 1
            have f2 := hrw.free 2
            have f3 := hrw.free 3
            have b0 := H8.out.blk.cell 0
            have b1 := H8.out.blk.cell 1
            have b2 := H8.out.blk.cell 2
            have b3 := H8.out.blk.cell 3
            simp at r0 r1 r2 r3 b0 b1 b2 b3
            have HRW := Lib.hid hrw; clear hrw
            go_wp2_with fail
            (try simp only [Exit.inBlock, Exit.then])
            refine rdo_back HRW.out rfl rfl rfl rfl rfl (fun wf hkf => ?_)
            exact rdo_yes HF.out (H8.out.keep hkf (fun b e => by have := HR3.out.lt; omega)) ((HK3.out.trans HK38.out (fun k hk e => by have := HK3.out.size; omega)).trans hkf (fun k hk e => by omega)) HK3.out.size
end Go.Proofs.YthdkamnclbfehaaGreatDoor
/- cubebref09.Do: touch. -/
namespace Go.Proofs.YthdkamnclbfehaaGreatDoor
set_option linter.unusedSimpArgs false
set_option linter.unusedVariables false
set_option linter.unnecessarySimpa false
open Go.RowKit
set_option maxHeartbeats 20000000 in
set_option maxRecDepth 100000 in
theorem rdo_touch {w : World} {vl vc vt vn bv : Value} {S : St} {m : Nat} {s wd nm : ByteArray} {ns : List Int} (hG : Glob w) (hb : Rd w 1 bv S.bays.length (icells S.bays)) (hS : RSt w vl vc vt vn S) (hI : Inv m S) (hm : m ≤ 1000000) (hs : s.size ≤ 4096)
    (hread : readR s = some (wd, nm, ns)) (hwd : wd.data.toList = [116, 111, 117, 99, 104]) {i j : Int} (hns : ns = [i, j]) (hi : numB i) (hj : numB j) (hln : s = touchNote i j) (hdo : doF runF S s = touchF S ⟨ns, nm, true⟩) : Calls Tryz.prog 67 #[bv, .agg #[vl, vc, vt, vn], .string s] w (RDoPost w (doF runF S s)) := by
  have H95 : Hid (∀ W, Keep (fun _ => False) w W → Calls Tryz.prog 95 #[.string s] W (ReadSaid W s)) := Lib.hid fun W hk => rread_any (hG.keep hk) hs
  have H96 : Hid (∀ W, Keep (fun _ => False) w W → Calls Tryz.prog 96 #[.int .i64 ((S.lots.length : Int) + 1)] W (ItoaPost W ((S.lots.length : Int) + 1))) := Lib.hid fun W hk => itoa_any (hG.keep hk) (by omega) (by have := hI.l; omega)
  have HREAD := Lib.hid hread; have HNS := Lib.hid hns; have HWD := Lib.hid hwd; have HDF := Lib.hid hdo; clear hns hwd hdo; have HLN := Lib.hid hln; have HNI := Lib.hid hi; have HNJ := Lib.hid hj; clear hln hi hj; have HG := Lib.hid hG; have HBV := Lib.hid hb; have HST := Lib.hid hS; have HI := Lib.hid hI
  have hl20 := hI.l
  have hc2 := hI.c
  have ht2 := hI.t
  have hn2 := hI.n
  obtain ⟨lo, lc, hvl, hlc, _⟩ := hS.l.shape
  obtain ⟨co, cc, hvc, hcc, _⟩ := hS.c.shape
  obtain ⟨to_, tc, hvt, htc, _⟩ := hS.t.shape
  obtain ⟨no, nc, hvn, hnc, _⟩ := hS.n.shape
  subst hvl hvc hvt hvn
  obtain ⟨cells, hcells⟩ : ∃ c : Array Value, c = #[.slice lo S.lots.length lc, .slice co S.contacts.length cc, .slice to_ S.tests.length tc, .slice no S.notes.length nc] := ⟨_, rfl⟩
  have hT0 : Blk ((w.alloc (.cells #[.slice lo S.lots.length lc, .slice co S.contacts.length cc, .slice to_ S.tests.length tc, .slice no S.notes.length nc] 74)).alloc (.cells #[.slice none 0 0, .slice none 0 0, .slice none 0 0, .slice none 0 0] 74)) w.heap.size #[.slice lo S.lots.length lc, .slice co S.contacts.length cc, .slice to_ S.tests.length tc, .slice no S.notes.length nc] 74 := (Blk.new _ _ _).alloc _
  have hR0 : Blk ((w.alloc (.cells #[.slice lo S.lots.length lc, .slice co S.contacts.length cc, .slice to_ S.tests.length tc, .slice no S.notes.length nc] 74)).alloc (.cells #[.slice none 0 0, .slice none 0 0, .slice none 0 0, .slice none 0 0] 74)) (w.heap.size + 1) #[.slice none 0 0, .slice none 0 0, .slice none 0 0, .slice none 0 0] 74 := by
    have := Blk.new (w.alloc (.cells #[.slice lo S.lots.length lc, .slice co S.contacts.length cc, .slice to_ S.tests.length tc, .slice no S.notes.length nc] 74)) #[.slice none 0 0, .slice none 0 0, .slice none 0 0, .slice none 0 0] 74
    rwa [World.size_alloc] at this
  have hK0 : Keep (fun _ => False) w ((w.alloc (.cells #[.slice lo S.lots.length lc, .slice co S.contacts.length cc, .slice to_ S.tests.length tc, .slice no S.notes.length nc] 74)).alloc (.cells #[.slice none 0 0, .slice none 0 0, .slice none 0 0, .slice none 0 0] 74)) := ((Keep.refl _ _).alloc _).alloc _
  have HT0 := Lib.hid hT0; have HR0 := Lib.hid hR0; have HK0 := Lib.hid hK0; clear hG hb hS hI hread hs hcells cells hT0 hR0 hK0
  go_enter Tryz.func67, Tryz.ntmps67
  go_upto_region 4 with (go_at_call 95; refine (H95.out _ HK0.out).mono ?_; rintro e w2 ⟨hk2, _, hsay⟩; obtain ⟨vn9, rfl, hrd9⟩ := hsay _ _ _ HREAD.out; obtain ⟨oo, ocp, rfl, _⟩ := hrd9.shape; have HK2 := Lib.hid hk2; have HRD9 := Lib.hid hrd9; clear hk2 hsay hrd9)
  obtain ⟨w3, hw3⟩ : ∃ w3, w3 = w2.alloc (.cells #[.string wd, .string nm, .slice oo ns.length ocp] 169) := ⟨_, rfl⟩
  have h23 : Keep (fun _ => False) w2 w3 := by rw [hw3]; exact (Keep.refl _ _).alloc _
  have HA3 : Hid (Blk w3 w2.heap.size #[.string wd, .string nm, .slice oo ns.length ocp] 169) := Lib.hid (by rw [hw3]; exact Blk.new _ _ _)
  have HT3 := Lib.hid ((HT0.out.keep HK2.out (fun h => h)).keep h23 (fun h => h))
  have HR3 := Lib.hid ((HR0.out.keep HK2.out (fun h => h)).keep h23 (fun h => h))
  have HK3 := Lib.hid ((HK0.out.trans HK2.out (fun _ _ h => h)).trans h23 (fun _ _ h => h))
  have HN3 := Lib.hid (HRD9.out.keep h23 (fun _ _ h => h))
  rw [← hw3]
  clear hw3 h23
  have HSX : Hid (∀ W, Keep (fun _ => False) w3 W → W.cell? ⟨w.heap.size, 0, none⟩ = some (.slice lo S.lots.length lc) ∧ W.cell? ⟨w.heap.size, 1, none⟩ = some (.slice co S.contacts.length cc) ∧ W.cell? ⟨w.heap.size, 2, none⟩ = some (.slice to_ S.tests.length tc) ∧ W.cell? ⟨w.heap.size, 3, none⟩ = some (.slice no S.notes.length nc) ∧ Keep (fun _ => False) w3 W) := Lib.hid fun W hk =>
    have h := HT3.out.keep hk (fun h => h)
    ⟨h.cell 0, h.cell 1, h.cell 2, h.cell 3, hk⟩
  go_cut [11] from 30 to 47 (fun s11 wx => ∃ nb ul uc ut un, s11 = .pointer (some ⟨nb, 0, none⟩) ∧ RO w3.heap.size wx nb ul uc ut un S ∧ Keep (fun _ => False) w3 wx)
  case first =>
    refine rdo_copy (w := w) (S := S) ⟨by kernel_rfl, by kernel_rfl, ⟨_, _, rfl⟩, ⟨_, _, rfl⟩, ⟨_, _, rfl⟩, ⟨_, _, rfl⟩, ⟨_, _, rfl⟩, ⟨_, _, rfl⟩, ⟨_, _, rfl⟩, ⟨_, _, rfl⟩, ⟨_, _, rfl⟩, ⟨_, _, rfl⟩, ⟨_, _, rfl⟩, ⟨_, _, rfl⟩, ⟨_, _, rfl⟩, ⟨_, _, rfl⟩, ⟨_, _, rfl⟩, ⟨_, _, rfl⟩, ⟨_, _, rfl⟩, ⟨_, _, rfl⟩, ⟨_, _, _, rfl, by kernel_rfl⟩⟩ (by kernel_rfl) (by rfl) (by omega) (by omega) (by omega) (by omega) HK3.out HST.out (fun W hk => have h := HSX.out W hk; ⟨h.1, h.2.1, h.2.2.1, h.2.2.2.1⟩) (fun f wx nb hf hro hkx => ?_)
    simp only [updL, copyKs, Act.put, List.setIfInBounds_toArray, List.set_cons_zero, List.set_cons_succ]
    have HRO := Lib.hid hro; clear hro
    go_wp2_with fail
    go_meet
    exact ⟨nb, _, _, _, _, rfl, HRO.out, hkx⟩
  case rest =>
    obtain ⟨nb, ul, uc, ut, un, rfl, hro, hkc⟩ := hcut
    obtain ⟨ulo, ulc, rfl, _⟩ := ownsRow_shape hro.l
    obtain ⟨uco, ucc, rfl, _⟩ := ownsRow_shape hro.c
    obtain ⟨uto, utc, rfl, _⟩ := ownsRow_shape hro.t
    obtain ⟨uno, unc, rfl, _⟩ := ownsRow_shape hro.n
    obtain ⟨x0, x1, x2, x3, _⟩ := rdo_cells (HT3.out.keep hkc (fun h => h)) (HR3.out.keep hkc (fun h => h))
    have HRO := Lib.hid hro; have HKC := Lib.hid hkc
    have HAC : Hid (∀ W, Keep (fun _ => False) w3 W → W.cell? ⟨w2.heap.size, 0, none⟩ = some (.string wd) ∧ W.cell? ⟨w2.heap.size, 1, none⟩ = some (.string nm) ∧ W.cell? ⟨w2.heap.size, 2, none⟩ = some (.slice oo ns.length ocp)) := Lib.hid fun W hk =>
      have h := HA3.out.keep hk (fun h => h)
      ⟨h.cell 0, h.cell 1, h.cell 2⟩
    clear hro hkc
    have hwd := HWD.out
    have hc0 := lit_ne wd [116, 97, 107, 101] (by rw [hwd]; decide)
    have hc1 := lit_ne wd [98, 108, 101, 110, 100] (by rw [hwd]; decide)
    have hc2 := lit_ne wd [112, 117, 116] (by rw [hwd]; decide)
    have hc3 := lit_eq _ _ hwd
    clear hwd
    have HRC : Hid (∀ W, Keep (fun _ => False) wc W → _) := Lib.hid fun W hk => rdo_cells (HT3.out.keep (HKC.out.trans hk (fun _ _ h => h)) (fun h => h)) (HR3.out.keep (HKC.out.trans hk (fun _ _ h => h)) (fun h => h))
    have HAW : Hid (∀ W, Keep (fun _ => False) wc W → _) := Lib.hid fun W hk => HAC.out W (HKC.out.trans hk (fun _ _ h => h))
    have hn0 : ns.length = 2 := by rw [HNS.out]; rfl
    obtain ⟨ng, no', rfl, hnx⟩ := rd_ints HN3.out (by omega)
    have HNC : Hid (∀ W, Keep (fun _ => False) w3 W → W.cell? ⟨ng, no', none⟩ = some (.int .i64 i) ∧ W.cell? ⟨ng, no' + 1, none⟩ = some (.int .i64 j)) := Lib.hid fun W hk => by
      have h0 := hnx W 0 hk (by omega)
      have h1 := hnx W 1 hk (by omega)
      rw [HNS.out] at h0 h1
      exact ⟨h0, h1⟩
    clear hnx
    have HNW : Hid (∀ W, Keep (fun _ => False) wc W → _) := Lib.hid fun W hk => HNC.out W (HKC.out.trans hk (fun _ _ h => h))
    go_wp2_with (go_at_call 96; refine (H96.out _ (HK3.out.trans HKC.out (fun _ _ h => h))).mono ?_; rintro e w5 ⟨rfl, hk5⟩; obtain ⟨t0, t1, t2, t3, r0, r1, r2, r3, f0, f1, f2, f3⟩ := HRC.out _ hk5; obtain ⟨a0, a1, a2⟩ := HAW.out _ hk5; have HKR := Lib.hid hk5; clear hk5)
    have HHC : Hid (∀ W, Keep (fun _ => False) wc W → W.cell? ⟨w.heap.size, 0, none⟩ = some (.slice lo S.lots.length lc) ∧ W.cell? ⟨w.heap.size, 1, none⟩ = some (.slice co S.contacts.length cc) ∧ W.cell? ⟨w.heap.size, 2, none⟩ = some (.slice to_ S.tests.length tc) ∧ W.cell? ⟨w.heap.size, 3, none⟩ = some (.slice no S.notes.length nc) ∧ W.cell? ⟨w2.heap.size, 2, none⟩ = some (.slice (some ⟨ng, no', none⟩) ns.length ocp) ∧ W.cell? ⟨ng, no', none⟩ = some (.int .i64 i) ∧ W.cell? ⟨ng, no' + 1, none⟩ = some (.int .i64 j)) := Lib.hid fun W hk => have x := HRC.out W hk; have y := HAW.out W hk; have z := HNW.out W hk; ⟨x.1, x.2.1, x.2.2.1, x.2.2.2.1, y.2.2, z.1, z.2⟩
    have HKR : Hid (Keep (fun _ => False) wc w5.drew) := Lib.hid HKR.out.drew
    go_cut [318] from 318 to 334 (fun s318 wx => s318 = .bool (!(hasLot S i && hasLot S j)) ∧ Keep (fun _ => False) wc wx)
    case first =>
      rename_i Jq Kq hJq hKq
      cases hi : hasLot S i with
      | false =>
        refine region_letters fun Q1 hQ1 => ?_
        have HQ1 := Lib.hid hQ1; clear hQ1
        refine wp_region_noPanic ?_
        refine wp_region_held_drew (S := (fun W => W.cell? ⟨w.heap.size, 0, none⟩ = some (.slice lo S.lots.length lc) ∧ W.cell? ⟨w.heap.size, 1, none⟩ = some (.slice co S.contacts.length cc) ∧ W.cell? ⟨w.heap.size, 2, none⟩ = some (.slice to_ S.tests.length tc) ∧ W.cell? ⟨w.heap.size, 3, none⟩ = some (.slice no S.notes.length nc) ∧ W.cell? ⟨w2.heap.size, 2, none⟩ = some (.slice (some ⟨ng, no', none⟩) ns.length ocp) ∧ W.cell? ⟨ng, no', none⟩ = some (.int .i64 i) ∧ W.cell? ⟨ng, no' + 1, none⟩ = some (.int .i64 j))) (by kernel_rfl) (HHC.out _ HKR.out) (fun hHeld => ?_)
        refine wpAnyH_letter fun ac0 HQA0 => ?_
        have HS : Hid (ac0.tmps.size = 438) := Lib.hid (by rw [HQA0.out]; kernel_rfl)
        have e4 : ac0.tmps[4]?.getD undef = .pointer (some ⟨w.heap.size, 0, none⟩) := by rw [HQA0.out]; kernel_rfl
        have e9 : ac0.tmps[9]?.getD undef = .pointer (some ⟨w2.heap.size, 0, none⟩) := by rw [HQA0.out]; kernel_rfl
        refine wpAnyH_take (i := 0) (oi := _) (v := ?_) rfl (by kernel_rfl) (by kernel_rfl) (by kernel_rfl) (fun _ _ _ h => h) (Or.inl ⟨by rfl, ?_⟩) hHeld ?_
        rotate_left
        · (intro w hSw; obtain ⟨q0, q1, q2, q3, q4, q5, q6⟩ := hSw; go_simp) <;> with_reducible rfl
        refine wpAnyH_letter fun ac1 HQA1 => ?_; replace e4 := po HQA1 e4; replace e9 := po HQA1 e9; have e319 := put_at HQA1 HS.out (by decide); replace HS := Lib.hid (put_sz HQA1 HS.out)
        refine wpAnyH_take (i := 1) (oi := _) (v := ?_) rfl (by kernel_rfl) (by kernel_rfl) (by kernel_rfl) (fun _ _ _ h => h) (Or.inl ⟨by rfl, ?_⟩) hHeld ?_
        rotate_left
        · (intro w hSw; obtain ⟨q0, q1, q2, q3, q4, q5, q6⟩ := hSw; go_simp) <;> with_reducible rfl
        refine wpAnyH_letter fun ac2 HQA2 => ?_; replace e4 := po HQA2 e4; replace e9 := po HQA2 e9; replace e319 := po HQA2 e319; have e320 := put_at HQA2 HS.out (by decide); replace HS := Lib.hid (put_sz HQA2 HS.out)
        refine wpAnyH_take (i := 2) (oi := _) (v := ?_) rfl (by kernel_rfl) (by kernel_rfl) (by kernel_rfl) (fun _ _ _ h => h) (Or.inl ⟨by rfl, ?_⟩) hHeld ?_
        rotate_left
        · (intro w hSw; obtain ⟨q0, q1, q2, q3, q4, q5, q6⟩ := hSw; go_simp) <;> with_reducible rfl
        refine wpAnyH_letter fun ac3 HQA3 => ?_; replace e4 := po HQA3 e4; replace e9 := po HQA3 e9; replace e319 := po HQA3 e319; replace e320 := po HQA3 e320; have e321 := put_at HQA3 HS.out (by decide); replace HS := Lib.hid (put_sz HQA3 HS.out)
        refine wpAnyH_take (i := 3) (oi := _) (v := ?_) rfl (by kernel_rfl) (by kernel_rfl) (by kernel_rfl) (fun _ _ _ h => h) (Or.inl ⟨by rfl, ?_⟩) hHeld ?_
        rotate_left
        · (intro w hSw; obtain ⟨q0, q1, q2, q3, q4, q5, q6⟩ := hSw; go_simp) <;> with_reducible rfl
        refine wpAnyH_letter fun ac4 HQA4 => ?_; replace e4 := po HQA4 e4; replace e9 := po HQA4 e9; replace e319 := po HQA4 e319; replace e320 := po HQA4 e320; replace e321 := po HQA4 e321; have e322 := put_at HQA4 HS.out (by decide); replace HS := Lib.hid (put_sz HQA4 HS.out)
        refine wpAnyH_take (i := 4) (oi := _) (v := ?_) rfl (by kernel_rfl) (by kernel_rfl) (by kernel_rfl) (fun _ _ _ h => h) (Or.inl ⟨by rfl, ?_⟩) hHeld ?_
        rotate_left
        · (intro w hSw; obtain ⟨q0, q1, q2, q3, q4, q5, q6⟩ := hSw; go_simp) <;> with_reducible rfl
        refine wpAnyH_letter fun ac5 HQA5 => ?_; replace e4 := po HQA5 e4; replace e9 := po HQA5 e9; replace e319 := po HQA5 e319; replace e320 := po HQA5 e320; replace e321 := po HQA5 e321; replace e322 := po HQA5 e322; have e323 := put_at HQA5 HS.out (by decide); replace HS := Lib.hid (put_sz HQA5 HS.out); refine wpAnyH_ready (rs := [5]) (by kernel_rfl) (by simp) ?_; refine AllReadyH.cons (o := _) rfl (fun K hK => ?_) AllReadyH.nil
        go_simp
        refine Calls.mono (has_any (S := S)) ?_
        rintro e w6 ⟨rfl, hk6⟩
        rw [hi]
        have HKR := Lib.hid (HKR.out.trans hk6 (fun _ _ h => h))
        clear hk6
        (try dsimp only)
        refine hK.out _ _ ?_ (fun hHeld => ?_)
        · exact HHC.out _ HKR.out
        clear hK K; refine wpAnyH_letter fun ac6 HQA6 => ?_; replace e4 := po HQA6 e4; replace e9 := po HQA6 e9; replace e319 := po HQA6 e319; replace e320 := po HQA6 e320; replace e321 := po HQA6 e321; replace e322 := po HQA6 e322; replace e323 := po HQA6 e323; have e324 := put_at HQA6 HS.out (by decide); replace HS := Lib.hid (put_sz HQA6 HS.out)
        refine wpAnyH_take (i := 6) (oi := _) (v := ?_) rfl (by kernel_rfl) (by kernel_rfl) (by kernel_rfl) (fun _ _ _ h => h) (Or.inl ⟨by rfl, ?_⟩) hHeld ?_
        rotate_left
        · (intro w hSw; obtain ⟨q0, q1, q2, q3, q4, q5, q6⟩ := hSw; go_simp) <;> with_reducible rfl
        refine wpAnyH_letter fun ac7 HQA7 => ?_; replace e4 := po HQA7 e4; replace e9 := po HQA7 e9; replace e319 := po HQA7 e319; replace e320 := po HQA7 e320; replace e321 := po HQA7 e321; replace e322 := po HQA7 e322; replace e323 := po HQA7 e323; replace e324 := po HQA7 e324; have e325 := put_at HQA7 HS.out (by decide); replace HS := Lib.hid (put_sz HQA7 HS.out)
        refine wpAnyH_take (i := 7) (oi := _) (v := ?_) rfl (by kernel_rfl) (by kernel_rfl) (by kernel_rfl) (fun _ _ _ h => h) (Or.inl ⟨by rfl, ?_⟩) hHeld ?_
        rotate_left
        · (intro w hSw; obtain ⟨q0, q1, q2, q3, q4, q5, q6⟩ := hSw; go_simp) <;> with_reducible rfl
        refine wpAnyH_letter fun ac8 HQA8 => ?_; replace e4 := po HQA8 e4; replace e9 := po HQA8 e9; replace e319 := po HQA8 e319; replace e320 := po HQA8 e320; replace e321 := po HQA8 e321; replace e322 := po HQA8 e322; replace e323 := po HQA8 e323; replace e324 := po HQA8 e324; replace e325 := po HQA8 e325; have e326 := put_at HQA8 HS.out (by decide); replace HS := Lib.hid (put_sz HQA8 HS.out)
        replace e326 : ac8.tmps[326]?.getD undef = .bool true := e326
        refine wpAnyH_take (i := 8) (oi := _) (v := undef) rfl (by kernel_rfl) (by kernel_rfl) (by kernel_rfl) (fun _ _ _ h => h) (Or.inr ⟨want_of (b' := true) (b := false) rfl rfl rfl e326, rfl⟩) hHeld ?_
        refine wpAnyH_letter fun ac9 HQA9 => ?_; replace e4 := po HQA9 e4; replace e9 := po HQA9 e9; replace e319 := po HQA9 e319; replace e320 := po HQA9 e320; replace e321 := po HQA9 e321; replace e322 := po HQA9 e322; replace e323 := po HQA9 e323; replace e324 := po HQA9 e324; replace e325 := po HQA9 e325; replace e326 := po HQA9 e326; have e327 := put_at HQA9 HS.out (by decide); replace HS := Lib.hid (put_sz HQA9 HS.out)
        refine wpAnyH_take (i := 9) (oi := _) (v := undef) rfl (by kernel_rfl) (by kernel_rfl) (by kernel_rfl) (fun _ _ _ h => h) (Or.inr ⟨want_of (b' := true) (b := false) rfl rfl rfl e326, rfl⟩) hHeld ?_
        refine wpAnyH_letter fun ac10 HQA10 => ?_; replace e4 := po HQA10 e4; replace e9 := po HQA10 e9; replace e319 := po HQA10 e319; replace e320 := po HQA10 e320; replace e321 := po HQA10 e321; replace e322 := po HQA10 e322; replace e323 := po HQA10 e323; replace e324 := po HQA10 e324; replace e325 := po HQA10 e325; replace e326 := po HQA10 e326; replace e327 := po HQA10 e327; have e328 := put_at HQA10 HS.out (by decide); replace HS := Lib.hid (put_sz HQA10 HS.out)
        refine wpAnyH_take (i := 10) (oi := _) (v := undef) rfl (by kernel_rfl) (by kernel_rfl) (by kernel_rfl) (fun _ _ _ h => h) (Or.inr ⟨want_of (b' := true) (b := false) rfl rfl rfl e326, rfl⟩) hHeld ?_
        refine wpAnyH_letter fun ac11 HQA11 => ?_; replace e4 := po HQA11 e4; replace e9 := po HQA11 e9; replace e319 := po HQA11 e319; replace e320 := po HQA11 e320; replace e321 := po HQA11 e321; replace e322 := po HQA11 e322; replace e323 := po HQA11 e323; replace e324 := po HQA11 e324; replace e325 := po HQA11 e325; replace e326 := po HQA11 e326; replace e327 := po HQA11 e327; replace e328 := po HQA11 e328; have e329 := put_at HQA11 HS.out (by decide); replace HS := Lib.hid (put_sz HQA11 HS.out)
        refine wpAnyH_take (i := 11) (oi := _) (v := undef) rfl (by kernel_rfl) (by kernel_rfl) (by kernel_rfl) (fun _ _ _ h => h) (Or.inr ⟨want_of (b' := true) (b := false) rfl rfl rfl e326, rfl⟩) hHeld ?_
        refine wpAnyH_letter fun ac12 HQA12 => ?_; replace e4 := po HQA12 e4; replace e9 := po HQA12 e9; replace e319 := po HQA12 e319; replace e320 := po HQA12 e320; replace e321 := po HQA12 e321; replace e322 := po HQA12 e322; replace e323 := po HQA12 e323; replace e324 := po HQA12 e324; replace e325 := po HQA12 e325; replace e326 := po HQA12 e326; replace e327 := po HQA12 e327; replace e328 := po HQA12 e328; replace e329 := po HQA12 e329; have e330 := put_at HQA12 HS.out (by decide); replace HS := Lib.hid (put_sz HQA12 HS.out)
        refine wpAnyH_take (i := 12) (oi := _) (v := undef) rfl (by kernel_rfl) (by kernel_rfl) (by kernel_rfl) (fun _ _ _ h => h) (Or.inr ⟨want_of (b' := true) (b := false) rfl rfl rfl e326, rfl⟩) hHeld ?_
        refine wpAnyH_letter fun ac13 HQA13 => ?_; replace e4 := po HQA13 e4; replace e9 := po HQA13 e9; replace e319 := po HQA13 e319; replace e320 := po HQA13 e320; replace e321 := po HQA13 e321; replace e322 := po HQA13 e322; replace e323 := po HQA13 e323; replace e324 := po HQA13 e324; replace e325 := po HQA13 e325; replace e326 := po HQA13 e326; replace e327 := po HQA13 e327; replace e328 := po HQA13 e328; replace e329 := po HQA13 e329; replace e330 := po HQA13 e330; have e331 := put_at HQA13 HS.out (by decide); replace HS := Lib.hid (put_sz HQA13 HS.out)
        refine wpAnyH_take (i := 13) (oi := _) (v := undef) rfl (by kernel_rfl) (by kernel_rfl) (by kernel_rfl) (fun _ _ _ h => h) (Or.inr ⟨want_of (b' := true) (b := false) rfl rfl rfl e326, rfl⟩) hHeld ?_
        refine wpAnyH_letter fun ac14 HQA14 => ?_; replace e4 := po HQA14 e4; replace e9 := po HQA14 e9; replace e319 := po HQA14 e319; replace e320 := po HQA14 e320; replace e321 := po HQA14 e321; replace e322 := po HQA14 e322; replace e323 := po HQA14 e323; replace e324 := po HQA14 e324; replace e325 := po HQA14 e325; replace e326 := po HQA14 e326; replace e327 := po HQA14 e327; replace e328 := po HQA14 e328; replace e329 := po HQA14 e329; replace e330 := po HQA14 e330; replace e331 := po HQA14 e331; have e332 := put_at HQA14 HS.out (by decide); replace HS := Lib.hid (put_sz HQA14 HS.out)
        refine wpAnyH_take (i := 14) (oi := _) (v := undef) rfl (by kernel_rfl) (by kernel_rfl) (by kernel_rfl) (fun _ _ _ h => h) (Or.inr ⟨want_of (b' := true) (b := false) rfl rfl rfl e326, rfl⟩) hHeld ?_
        refine wpAnyH_letter fun ac15 HQA15 => ?_; replace e4 := po HQA15 e4; replace e9 := po HQA15 e9; replace e319 := po HQA15 e319; replace e320 := po HQA15 e320; replace e321 := po HQA15 e321; replace e322 := po HQA15 e322; replace e323 := po HQA15 e323; replace e324 := po HQA15 e324; replace e325 := po HQA15 e325; replace e326 := po HQA15 e326; replace e327 := po HQA15 e327; replace e328 := po HQA15 e328; replace e329 := po HQA15 e329; replace e330 := po HQA15 e330; replace e331 := po HQA15 e331; replace e332 := po HQA15 e332; have e333 := put_at HQA15 HS.out (by decide); replace HS := Lib.hid (put_sz HQA15 HS.out)
        refine wpAnyH_take (i := 15) (oi := _) (v := ?_) rfl (by kernel_rfl) (by kernel_rfl) (by kernel_rfl) (fun _ _ _ h => h) (Or.inl ⟨by rfl, ?_⟩) hHeld ?_
        rotate_left
        · (intro w hSw; obtain ⟨q0, q1, q2, q3, q4, q5, q6⟩ := hSw; go_simp) <;> with_reducible rfl
        refine wpAnyH_letter fun ac16 HQA16 => ?_; replace e4 := po HQA16 e4; replace e9 := po HQA16 e9; replace e319 := po HQA16 e319; replace e320 := po HQA16 e320; replace e321 := po HQA16 e321; replace e322 := po HQA16 e322; replace e323 := po HQA16 e323; replace e324 := po HQA16 e324; replace e325 := po HQA16 e325; replace e326 := po HQA16 e326; replace e327 := po HQA16 e327; replace e328 := po HQA16 e328; replace e329 := po HQA16 e329; replace e330 := po HQA16 e330; replace e331 := po HQA16 e331; replace e332 := po HQA16 e332; replace e333 := po HQA16 e333; have e334 := put_at HQA16 HS.out (by decide); replace HS := Lib.hid (put_sz HQA16 HS.out)
        refine wpAnyH_take (i := 16) (oi := _) (v := ?_) rfl (by kernel_rfl) (by kernel_rfl) (by kernel_rfl) (fun _ _ _ h => h) (Or.inl ⟨by rfl, ?_⟩) hHeld ?_
        rotate_left
        · (intro w hSw; obtain ⟨q0, q1, q2, q3, q4, q5, q6⟩ := hSw; go_simp) <;> with_reducible rfl
        refine wpAnyH_letter fun ac17 HQA17 => ?_; replace e4 := po HQA17 e4; replace e9 := po HQA17 e9; replace e319 := po HQA17 e319; replace e320 := po HQA17 e320; replace e321 := po HQA17 e321; replace e322 := po HQA17 e322; replace e323 := po HQA17 e323; replace e324 := po HQA17 e324; replace e325 := po HQA17 e325; replace e326 := po HQA17 e326; replace e327 := po HQA17 e327; replace e328 := po HQA17 e328; replace e329 := po HQA17 e329; replace e330 := po HQA17 e330; replace e331 := po HQA17 e331; replace e332 := po HQA17 e332; replace e333 := po HQA17 e333; replace e334 := po HQA17 e334; have e318 := put_at HQA17 HS.out (by decide); replace HS := Lib.hid (put_sz HQA17 HS.out)
        refine wpAnyH_done (by kernel_rfl) ?_ _
        refine NoPanic.normal ?_
        rw [HQ1.out]
        have g0 := uE0 ac0 [318, 319, 320, 321, 322, 323, 324, 325, 326, 327, 328, 329, 330, 331, 332, 333, 334]
        have g1 := uE HQA1 g0 (by rfl); have g2 := uE HQA2 g1 (by rfl); have g3 := uE HQA3 g2 (by rfl); have g4 := uE HQA4 g3 (by rfl); have g5 := uE HQA5 g4 (by rfl); have g6 := uE HQA6 g5 (by rfl); have g7 := uE HQA7 g6 (by rfl); have g8 := uE HQA8 g7 (by rfl); have g9 := uE HQA9 g8 (by rfl); have g10 := uE HQA10 g9 (by rfl); have g11 := uE HQA11 g10 (by rfl); have g12 := uE HQA12 g11 (by rfl); have g13 := uE HQA13 g12 (by rfl); have g14 := uE HQA14 g13 (by rfl); have g15 := uE HQA15 g14 (by rfl); have g16 := uE HQA16 g15 (by rfl); have g17 := uE HQA17 g16 (by rfl)
        obtain ⟨f, hf⟩ := g17
        rw [HQA0.out] at hf
        have v318 := (updL_at (k := 318) (n := 438) (by kernel_rfl) (by rfl)).symm.trans ((congrArg (fun a : Act => a.tmps[318]?.getD undef) hf.symm).trans e318)
        refine hKq _ _ (Met.intro (hJq _ _ ?_))
        refine ⟨f 318, f 319, f 320, f 321, f 322, f 323, f 324, f 325, f 326, f 327, f 328, f 329, f 330, f 331, f 332, f 333, f 334, ⟨v318.trans (by rw [hi]; rfl), HKR.out⟩, hf.trans (by kernel_rfl)⟩
      | true =>
        cases hj : hasLot S j with
        | false =>
          refine region_letters fun Q1 hQ1 => ?_
          have HQ1 := Lib.hid hQ1; clear hQ1
          refine wp_region_noPanic ?_
          refine wp_region_held_drew (S := (fun W => W.cell? ⟨w.heap.size, 0, none⟩ = some (.slice lo S.lots.length lc) ∧ W.cell? ⟨w.heap.size, 1, none⟩ = some (.slice co S.contacts.length cc) ∧ W.cell? ⟨w.heap.size, 2, none⟩ = some (.slice to_ S.tests.length tc) ∧ W.cell? ⟨w.heap.size, 3, none⟩ = some (.slice no S.notes.length nc) ∧ W.cell? ⟨w2.heap.size, 2, none⟩ = some (.slice (some ⟨ng, no', none⟩) ns.length ocp) ∧ W.cell? ⟨ng, no', none⟩ = some (.int .i64 i) ∧ W.cell? ⟨ng, no' + 1, none⟩ = some (.int .i64 j))) (by kernel_rfl) (HHC.out _ HKR.out) (fun hHeld => ?_)
          refine wpAnyH_letter fun ac0 HQA0 => ?_
          have HS : Hid (ac0.tmps.size = 438) := Lib.hid (by rw [HQA0.out]; kernel_rfl)
          have e4 : ac0.tmps[4]?.getD undef = .pointer (some ⟨w.heap.size, 0, none⟩) := by rw [HQA0.out]; kernel_rfl
          have e9 : ac0.tmps[9]?.getD undef = .pointer (some ⟨w2.heap.size, 0, none⟩) := by rw [HQA0.out]; kernel_rfl
          refine wpAnyH_take (i := 0) (oi := _) (v := ?_) rfl (by kernel_rfl) (by kernel_rfl) (by kernel_rfl) (fun _ _ _ h => h) (Or.inl ⟨by rfl, ?_⟩) hHeld ?_
          rotate_left
          · (intro w hSw; obtain ⟨q0, q1, q2, q3, q4, q5, q6⟩ := hSw; go_simp) <;> with_reducible rfl
          refine wpAnyH_letter fun ac1 HQA1 => ?_; replace e4 := po HQA1 e4; replace e9 := po HQA1 e9; have e319 := put_at HQA1 HS.out (by decide); replace HS := Lib.hid (put_sz HQA1 HS.out)
          refine wpAnyH_take (i := 1) (oi := _) (v := ?_) rfl (by kernel_rfl) (by kernel_rfl) (by kernel_rfl) (fun _ _ _ h => h) (Or.inl ⟨by rfl, ?_⟩) hHeld ?_
          rotate_left
          · (intro w hSw; obtain ⟨q0, q1, q2, q3, q4, q5, q6⟩ := hSw; go_simp) <;> with_reducible rfl
          refine wpAnyH_letter fun ac2 HQA2 => ?_; replace e4 := po HQA2 e4; replace e9 := po HQA2 e9; replace e319 := po HQA2 e319; have e320 := put_at HQA2 HS.out (by decide); replace HS := Lib.hid (put_sz HQA2 HS.out)
          refine wpAnyH_take (i := 2) (oi := _) (v := ?_) rfl (by kernel_rfl) (by kernel_rfl) (by kernel_rfl) (fun _ _ _ h => h) (Or.inl ⟨by rfl, ?_⟩) hHeld ?_
          rotate_left
          · (intro w hSw; obtain ⟨q0, q1, q2, q3, q4, q5, q6⟩ := hSw; go_simp) <;> with_reducible rfl
          refine wpAnyH_letter fun ac3 HQA3 => ?_; replace e4 := po HQA3 e4; replace e9 := po HQA3 e9; replace e319 := po HQA3 e319; replace e320 := po HQA3 e320; have e321 := put_at HQA3 HS.out (by decide); replace HS := Lib.hid (put_sz HQA3 HS.out)
          refine wpAnyH_take (i := 3) (oi := _) (v := ?_) rfl (by kernel_rfl) (by kernel_rfl) (by kernel_rfl) (fun _ _ _ h => h) (Or.inl ⟨by rfl, ?_⟩) hHeld ?_
          rotate_left
          · (intro w hSw; obtain ⟨q0, q1, q2, q3, q4, q5, q6⟩ := hSw; go_simp) <;> with_reducible rfl
          refine wpAnyH_letter fun ac4 HQA4 => ?_; replace e4 := po HQA4 e4; replace e9 := po HQA4 e9; replace e319 := po HQA4 e319; replace e320 := po HQA4 e320; replace e321 := po HQA4 e321; have e322 := put_at HQA4 HS.out (by decide); replace HS := Lib.hid (put_sz HQA4 HS.out)
          refine wpAnyH_take (i := 4) (oi := _) (v := ?_) rfl (by kernel_rfl) (by kernel_rfl) (by kernel_rfl) (fun _ _ _ h => h) (Or.inl ⟨by rfl, ?_⟩) hHeld ?_
          rotate_left
          · (intro w hSw; obtain ⟨q0, q1, q2, q3, q4, q5, q6⟩ := hSw; go_simp) <;> with_reducible rfl
          refine wpAnyH_letter fun ac5 HQA5 => ?_; replace e4 := po HQA5 e4; replace e9 := po HQA5 e9; replace e319 := po HQA5 e319; replace e320 := po HQA5 e320; replace e321 := po HQA5 e321; replace e322 := po HQA5 e322; have e323 := put_at HQA5 HS.out (by decide); replace HS := Lib.hid (put_sz HQA5 HS.out); refine wpAnyH_ready (rs := [5]) (by kernel_rfl) (by simp) ?_; refine AllReadyH.cons (o := _) rfl (fun K hK => ?_) AllReadyH.nil
          go_simp
          refine Calls.mono (has_any (S := S)) ?_
          rintro e w6 ⟨rfl, hk6⟩
          rw [hi]
          have HKR := Lib.hid (HKR.out.trans hk6 (fun _ _ h => h))
          clear hk6
          (try dsimp only)
          refine hK.out _ _ ?_ (fun hHeld => ?_)
          · exact HHC.out _ HKR.out
          clear hK K; refine wpAnyH_letter fun ac6 HQA6 => ?_; replace e4 := po HQA6 e4; replace e9 := po HQA6 e9; replace e319 := po HQA6 e319; replace e320 := po HQA6 e320; replace e321 := po HQA6 e321; replace e322 := po HQA6 e322; replace e323 := po HQA6 e323; have e324 := put_at HQA6 HS.out (by decide); replace HS := Lib.hid (put_sz HQA6 HS.out)
          refine wpAnyH_take (i := 6) (oi := _) (v := ?_) rfl (by kernel_rfl) (by kernel_rfl) (by kernel_rfl) (fun _ _ _ h => h) (Or.inl ⟨by rfl, ?_⟩) hHeld ?_
          rotate_left
          · (intro w hSw; obtain ⟨q0, q1, q2, q3, q4, q5, q6⟩ := hSw; go_simp) <;> with_reducible rfl
          refine wpAnyH_letter fun ac7 HQA7 => ?_; replace e4 := po HQA7 e4; replace e9 := po HQA7 e9; replace e319 := po HQA7 e319; replace e320 := po HQA7 e320; replace e321 := po HQA7 e321; replace e322 := po HQA7 e322; replace e323 := po HQA7 e323; replace e324 := po HQA7 e324; have e325 := put_at HQA7 HS.out (by decide); replace HS := Lib.hid (put_sz HQA7 HS.out)
          refine wpAnyH_take (i := 7) (oi := _) (v := ?_) rfl (by kernel_rfl) (by kernel_rfl) (by kernel_rfl) (fun _ _ _ h => h) (Or.inl ⟨by rfl, ?_⟩) hHeld ?_
          rotate_left
          · (intro w hSw; obtain ⟨q0, q1, q2, q3, q4, q5, q6⟩ := hSw; go_simp) <;> with_reducible rfl
          refine wpAnyH_letter fun ac8 HQA8 => ?_; replace e4 := po HQA8 e4; replace e9 := po HQA8 e9; replace e319 := po HQA8 e319; replace e320 := po HQA8 e320; replace e321 := po HQA8 e321; replace e322 := po HQA8 e322; replace e323 := po HQA8 e323; replace e324 := po HQA8 e324; replace e325 := po HQA8 e325; have e326 := put_at HQA8 HS.out (by decide); replace HS := Lib.hid (put_sz HQA8 HS.out)
          replace e326 : ac8.tmps[326]?.getD undef = .bool false := e326
          refine wpAnyH_take (i := 8) (oi := _) (v := ?_) rfl (by kernel_rfl) (by kernel_rfl) (by kernel_rfl) (fun _ _ _ h => h) (Or.inl ⟨want_of (b' := false) (b := false) rfl rfl rfl e326, ?_⟩) hHeld ?_
          rotate_left
          · (intro w hSw; obtain ⟨q0, q1, q2, q3, q4, q5, q6⟩ := hSw; go_simp) <;> with_reducible rfl
          refine wpAnyH_letter fun ac9 HQA9 => ?_; replace e4 := po HQA9 e4; replace e9 := po HQA9 e9; replace e319 := po HQA9 e319; replace e320 := po HQA9 e320; replace e321 := po HQA9 e321; replace e322 := po HQA9 e322; replace e323 := po HQA9 e323; replace e324 := po HQA9 e324; replace e325 := po HQA9 e325; replace e326 := po HQA9 e326; have e327 := put_at HQA9 HS.out (by decide); replace HS := Lib.hid (put_sz HQA9 HS.out)
          refine wpAnyH_take (i := 9) (oi := _) (v := ?_) rfl (by kernel_rfl) (by kernel_rfl) (by kernel_rfl) (fun _ _ _ h => h) (Or.inl ⟨want_of (b' := false) (b := false) rfl rfl rfl e326, ?_⟩) hHeld ?_
          rotate_left
          · (intro w hSw; obtain ⟨q0, q1, q2, q3, q4, q5, q6⟩ := hSw; go_simp) <;> with_reducible rfl
          refine wpAnyH_letter fun ac10 HQA10 => ?_; replace e4 := po HQA10 e4; replace e9 := po HQA10 e9; replace e319 := po HQA10 e319; replace e320 := po HQA10 e320; replace e321 := po HQA10 e321; replace e322 := po HQA10 e322; replace e323 := po HQA10 e323; replace e324 := po HQA10 e324; replace e325 := po HQA10 e325; replace e326 := po HQA10 e326; replace e327 := po HQA10 e327; have e328 := put_at HQA10 HS.out (by decide); replace HS := Lib.hid (put_sz HQA10 HS.out)
          refine wpAnyH_take (i := 10) (oi := _) (v := ?_) rfl (by kernel_rfl) (by kernel_rfl) (by kernel_rfl) (fun _ _ _ h => h) (Or.inl ⟨want_of (b' := false) (b := false) rfl rfl rfl e326, ?_⟩) hHeld ?_
          rotate_left
          · (intro w hSw; obtain ⟨q0, q1, q2, q3, q4, q5, q6⟩ := hSw; go_simp) <;> with_reducible rfl
          refine wpAnyH_letter fun ac11 HQA11 => ?_; replace e4 := po HQA11 e4; replace e9 := po HQA11 e9; replace e319 := po HQA11 e319; replace e320 := po HQA11 e320; replace e321 := po HQA11 e321; replace e322 := po HQA11 e322; replace e323 := po HQA11 e323; replace e324 := po HQA11 e324; replace e325 := po HQA11 e325; replace e326 := po HQA11 e326; replace e327 := po HQA11 e327; replace e328 := po HQA11 e328; have e329 := put_at HQA11 HS.out (by decide); replace HS := Lib.hid (put_sz HQA11 HS.out)
          refine wpAnyH_take (i := 11) (oi := _) (v := ?_) rfl (by kernel_rfl) (by kernel_rfl) (by kernel_rfl) (fun _ _ _ h => h) (Or.inl ⟨want_of (b' := false) (b := false) rfl rfl rfl e326, ?_⟩) hHeld ?_
          rotate_left
          · (intro w hSw; obtain ⟨q0, q1, q2, q3, q4, q5, q6⟩ := hSw; go_simp) <;> with_reducible rfl
          refine wpAnyH_letter fun ac12 HQA12 => ?_; replace e4 := po HQA12 e4; replace e9 := po HQA12 e9; replace e319 := po HQA12 e319; replace e320 := po HQA12 e320; replace e321 := po HQA12 e321; replace e322 := po HQA12 e322; replace e323 := po HQA12 e323; replace e324 := po HQA12 e324; replace e325 := po HQA12 e325; replace e326 := po HQA12 e326; replace e327 := po HQA12 e327; replace e328 := po HQA12 e328; replace e329 := po HQA12 e329; have e330 := put_at HQA12 HS.out (by decide); replace HS := Lib.hid (put_sz HQA12 HS.out)
          refine wpAnyH_take (i := 12) (oi := _) (v := ?_) rfl (by kernel_rfl) (by kernel_rfl) (by kernel_rfl) (fun _ _ _ h => h) (Or.inl ⟨want_of (b' := false) (b := false) rfl rfl rfl e326, ?_⟩) hHeld ?_
          rotate_left
          · (intro w hSw; obtain ⟨q0, q1, q2, q3, q4, q5, q6⟩ := hSw; go_simp) <;> with_reducible rfl
          refine wpAnyH_letter fun ac13 HQA13 => ?_; replace e4 := po HQA13 e4; replace e9 := po HQA13 e9; replace e319 := po HQA13 e319; replace e320 := po HQA13 e320; replace e321 := po HQA13 e321; replace e322 := po HQA13 e322; replace e323 := po HQA13 e323; replace e324 := po HQA13 e324; replace e325 := po HQA13 e325; replace e326 := po HQA13 e326; replace e327 := po HQA13 e327; replace e328 := po HQA13 e328; replace e329 := po HQA13 e329; replace e330 := po HQA13 e330; have e331 := put_at HQA13 HS.out (by decide); replace HS := Lib.hid (put_sz HQA13 HS.out); refine wpAnyH_ready (rs := [13]) (by kernel_rfl) (by simp) ?_; refine AllReadyH.cons (o := _) rfl (fun K hK => ?_) AllReadyH.nil
          rw [if_pos (by exact want_of (b' := false) (b := false) rfl rfl rfl e326)]
          go_simp
          refine Calls.mono (has_any (S := S)) ?_
          rintro e w6 ⟨rfl, hk6⟩
          rw [hj]
          have HKR := Lib.hid (HKR.out.trans hk6 (fun _ _ h => h))
          clear hk6
          (try dsimp only)
          refine hK.out _ _ ?_ (fun hHeld => ?_)
          · exact HHC.out _ HKR.out
          clear hK K; refine wpAnyH_letter fun ac14 HQA14 => ?_; replace e4 := po HQA14 e4; replace e9 := po HQA14 e9; replace e319 := po HQA14 e319; replace e320 := po HQA14 e320; replace e321 := po HQA14 e321; replace e322 := po HQA14 e322; replace e323 := po HQA14 e323; replace e324 := po HQA14 e324; replace e325 := po HQA14 e325; replace e326 := po HQA14 e326; replace e327 := po HQA14 e327; replace e328 := po HQA14 e328; replace e329 := po HQA14 e329; replace e330 := po HQA14 e330; replace e331 := po HQA14 e331; have e332 := put_at HQA14 HS.out (by decide); replace HS := Lib.hid (put_sz HQA14 HS.out)
          refine wpAnyH_take (i := 14) (oi := _) (v := ?_) rfl (by kernel_rfl) (by kernel_rfl) (by kernel_rfl) (fun _ _ _ h => h) (Or.inl ⟨want_of (b' := false) (b := false) rfl rfl rfl e326, ?_⟩) hHeld ?_
          rotate_left
          · (intro w hSw; obtain ⟨q0, q1, q2, q3, q4, q5, q6⟩ := hSw; go_simp) <;> with_reducible rfl
          refine wpAnyH_letter fun ac15 HQA15 => ?_; replace e4 := po HQA15 e4; replace e9 := po HQA15 e9; replace e319 := po HQA15 e319; replace e320 := po HQA15 e320; replace e321 := po HQA15 e321; replace e322 := po HQA15 e322; replace e323 := po HQA15 e323; replace e324 := po HQA15 e324; replace e325 := po HQA15 e325; replace e326 := po HQA15 e326; replace e327 := po HQA15 e327; replace e328 := po HQA15 e328; replace e329 := po HQA15 e329; replace e330 := po HQA15 e330; replace e331 := po HQA15 e331; replace e332 := po HQA15 e332; have e333 := put_at HQA15 HS.out (by decide); replace HS := Lib.hid (put_sz HQA15 HS.out)
          refine wpAnyH_take (i := 15) (oi := _) (v := ?_) rfl (by kernel_rfl) (by kernel_rfl) (by kernel_rfl) (fun _ _ _ h => h) (Or.inl ⟨by rfl, ?_⟩) hHeld ?_
          rotate_left
          · (intro w hSw; obtain ⟨q0, q1, q2, q3, q4, q5, q6⟩ := hSw; go_simp) <;> with_reducible rfl
          refine wpAnyH_letter fun ac16 HQA16 => ?_; replace e4 := po HQA16 e4; replace e9 := po HQA16 e9; replace e319 := po HQA16 e319; replace e320 := po HQA16 e320; replace e321 := po HQA16 e321; replace e322 := po HQA16 e322; replace e323 := po HQA16 e323; replace e324 := po HQA16 e324; replace e325 := po HQA16 e325; replace e326 := po HQA16 e326; replace e327 := po HQA16 e327; replace e328 := po HQA16 e328; replace e329 := po HQA16 e329; replace e330 := po HQA16 e330; replace e331 := po HQA16 e331; replace e332 := po HQA16 e332; replace e333 := po HQA16 e333; have e334 := put_at HQA16 HS.out (by decide); replace HS := Lib.hid (put_sz HQA16 HS.out)
          refine wpAnyH_take (i := 16) (oi := _) (v := ?_) rfl (by kernel_rfl) (by kernel_rfl) (by kernel_rfl) (fun _ _ _ h => h) (Or.inl ⟨by rfl, ?_⟩) hHeld ?_
          rotate_left
          · (intro w hSw; obtain ⟨q0, q1, q2, q3, q4, q5, q6⟩ := hSw; go_simp) <;> with_reducible rfl
          refine wpAnyH_letter fun ac17 HQA17 => ?_; replace e4 := po HQA17 e4; replace e9 := po HQA17 e9; replace e319 := po HQA17 e319; replace e320 := po HQA17 e320; replace e321 := po HQA17 e321; replace e322 := po HQA17 e322; replace e323 := po HQA17 e323; replace e324 := po HQA17 e324; replace e325 := po HQA17 e325; replace e326 := po HQA17 e326; replace e327 := po HQA17 e327; replace e328 := po HQA17 e328; replace e329 := po HQA17 e329; replace e330 := po HQA17 e330; replace e331 := po HQA17 e331; replace e332 := po HQA17 e332; replace e333 := po HQA17 e333; replace e334 := po HQA17 e334; have e318 := put_at HQA17 HS.out (by decide); replace HS := Lib.hid (put_sz HQA17 HS.out)
          refine wpAnyH_done (by kernel_rfl) ?_ _
          refine NoPanic.normal ?_
          rw [HQ1.out]
          have g0 := uE0 ac0 [318, 319, 320, 321, 322, 323, 324, 325, 326, 327, 328, 329, 330, 331, 332, 333, 334]
          have g1 := uE HQA1 g0 (by rfl); have g2 := uE HQA2 g1 (by rfl); have g3 := uE HQA3 g2 (by rfl); have g4 := uE HQA4 g3 (by rfl); have g5 := uE HQA5 g4 (by rfl); have g6 := uE HQA6 g5 (by rfl); have g7 := uE HQA7 g6 (by rfl); have g8 := uE HQA8 g7 (by rfl); have g9 := uE HQA9 g8 (by rfl); have g10 := uE HQA10 g9 (by rfl); have g11 := uE HQA11 g10 (by rfl); have g12 := uE HQA12 g11 (by rfl); have g13 := uE HQA13 g12 (by rfl); have g14 := uE HQA14 g13 (by rfl); have g15 := uE HQA15 g14 (by rfl); have g16 := uE HQA16 g15 (by rfl); have g17 := uE HQA17 g16 (by rfl)
          obtain ⟨f, hf⟩ := g17
          rw [HQA0.out] at hf
          have v318 := (updL_at (k := 318) (n := 438) (by kernel_rfl) (by rfl)).symm.trans ((congrArg (fun a : Act => a.tmps[318]?.getD undef) hf.symm).trans e318)
          refine hKq _ _ (Met.intro (hJq _ _ ?_))
          refine ⟨f 318, f 319, f 320, f 321, f 322, f 323, f 324, f 325, f 326, f 327, f 328, f 329, f 330, f 331, f 332, f 333, f 334, ⟨v318.trans (by rw [hi, hj]; rfl), HKR.out⟩, hf.trans (by kernel_rfl)⟩
        | true =>
          refine region_letters fun Q1 hQ1 => ?_
          have HQ1 := Lib.hid hQ1; clear hQ1
          refine wp_region_noPanic ?_
          refine wp_region_held_drew (S := (fun W => W.cell? ⟨w.heap.size, 0, none⟩ = some (.slice lo S.lots.length lc) ∧ W.cell? ⟨w.heap.size, 1, none⟩ = some (.slice co S.contacts.length cc) ∧ W.cell? ⟨w.heap.size, 2, none⟩ = some (.slice to_ S.tests.length tc) ∧ W.cell? ⟨w.heap.size, 3, none⟩ = some (.slice no S.notes.length nc) ∧ W.cell? ⟨w2.heap.size, 2, none⟩ = some (.slice (some ⟨ng, no', none⟩) ns.length ocp) ∧ W.cell? ⟨ng, no', none⟩ = some (.int .i64 i) ∧ W.cell? ⟨ng, no' + 1, none⟩ = some (.int .i64 j))) (by kernel_rfl) (HHC.out _ HKR.out) (fun hHeld => ?_)
          refine wpAnyH_letter fun ac0 HQA0 => ?_
          have HS : Hid (ac0.tmps.size = 438) := Lib.hid (by rw [HQA0.out]; kernel_rfl)
          have e4 : ac0.tmps[4]?.getD undef = .pointer (some ⟨w.heap.size, 0, none⟩) := by rw [HQA0.out]; kernel_rfl
          have e9 : ac0.tmps[9]?.getD undef = .pointer (some ⟨w2.heap.size, 0, none⟩) := by rw [HQA0.out]; kernel_rfl
          refine wpAnyH_take (i := 0) (oi := _) (v := ?_) rfl (by kernel_rfl) (by kernel_rfl) (by kernel_rfl) (fun _ _ _ h => h) (Or.inl ⟨by rfl, ?_⟩) hHeld ?_
          rotate_left
          · (intro w hSw; obtain ⟨q0, q1, q2, q3, q4, q5, q6⟩ := hSw; go_simp) <;> with_reducible rfl
          refine wpAnyH_letter fun ac1 HQA1 => ?_; replace e4 := po HQA1 e4; replace e9 := po HQA1 e9; have e319 := put_at HQA1 HS.out (by decide); replace HS := Lib.hid (put_sz HQA1 HS.out)
          refine wpAnyH_take (i := 1) (oi := _) (v := ?_) rfl (by kernel_rfl) (by kernel_rfl) (by kernel_rfl) (fun _ _ _ h => h) (Or.inl ⟨by rfl, ?_⟩) hHeld ?_
          rotate_left
          · (intro w hSw; obtain ⟨q0, q1, q2, q3, q4, q5, q6⟩ := hSw; go_simp) <;> with_reducible rfl
          refine wpAnyH_letter fun ac2 HQA2 => ?_; replace e4 := po HQA2 e4; replace e9 := po HQA2 e9; replace e319 := po HQA2 e319; have e320 := put_at HQA2 HS.out (by decide); replace HS := Lib.hid (put_sz HQA2 HS.out)
          refine wpAnyH_take (i := 2) (oi := _) (v := ?_) rfl (by kernel_rfl) (by kernel_rfl) (by kernel_rfl) (fun _ _ _ h => h) (Or.inl ⟨by rfl, ?_⟩) hHeld ?_
          rotate_left
          · (intro w hSw; obtain ⟨q0, q1, q2, q3, q4, q5, q6⟩ := hSw; go_simp) <;> with_reducible rfl
          refine wpAnyH_letter fun ac3 HQA3 => ?_; replace e4 := po HQA3 e4; replace e9 := po HQA3 e9; replace e319 := po HQA3 e319; replace e320 := po HQA3 e320; have e321 := put_at HQA3 HS.out (by decide); replace HS := Lib.hid (put_sz HQA3 HS.out)
          refine wpAnyH_take (i := 3) (oi := _) (v := ?_) rfl (by kernel_rfl) (by kernel_rfl) (by kernel_rfl) (fun _ _ _ h => h) (Or.inl ⟨by rfl, ?_⟩) hHeld ?_
          rotate_left
          · (intro w hSw; obtain ⟨q0, q1, q2, q3, q4, q5, q6⟩ := hSw; go_simp) <;> with_reducible rfl
          refine wpAnyH_letter fun ac4 HQA4 => ?_; replace e4 := po HQA4 e4; replace e9 := po HQA4 e9; replace e319 := po HQA4 e319; replace e320 := po HQA4 e320; replace e321 := po HQA4 e321; have e322 := put_at HQA4 HS.out (by decide); replace HS := Lib.hid (put_sz HQA4 HS.out)
          refine wpAnyH_take (i := 4) (oi := _) (v := ?_) rfl (by kernel_rfl) (by kernel_rfl) (by kernel_rfl) (fun _ _ _ h => h) (Or.inl ⟨by rfl, ?_⟩) hHeld ?_
          rotate_left
          · (intro w hSw; obtain ⟨q0, q1, q2, q3, q4, q5, q6⟩ := hSw; go_simp) <;> with_reducible rfl
          refine wpAnyH_letter fun ac5 HQA5 => ?_; replace e4 := po HQA5 e4; replace e9 := po HQA5 e9; replace e319 := po HQA5 e319; replace e320 := po HQA5 e320; replace e321 := po HQA5 e321; replace e322 := po HQA5 e322; have e323 := put_at HQA5 HS.out (by decide); replace HS := Lib.hid (put_sz HQA5 HS.out); refine wpAnyH_ready (rs := [5]) (by kernel_rfl) (by simp) ?_; refine AllReadyH.cons (o := _) rfl (fun K hK => ?_) AllReadyH.nil
          go_simp
          refine Calls.mono (has_any (S := S)) ?_
          rintro e w6 ⟨rfl, hk6⟩
          rw [hi]
          have HKR := Lib.hid (HKR.out.trans hk6 (fun _ _ h => h))
          clear hk6
          (try dsimp only)
          refine hK.out _ _ ?_ (fun hHeld => ?_)
          · exact HHC.out _ HKR.out
          clear hK K; refine wpAnyH_letter fun ac6 HQA6 => ?_; replace e4 := po HQA6 e4; replace e9 := po HQA6 e9; replace e319 := po HQA6 e319; replace e320 := po HQA6 e320; replace e321 := po HQA6 e321; replace e322 := po HQA6 e322; replace e323 := po HQA6 e323; have e324 := put_at HQA6 HS.out (by decide); replace HS := Lib.hid (put_sz HQA6 HS.out)
          refine wpAnyH_take (i := 6) (oi := _) (v := ?_) rfl (by kernel_rfl) (by kernel_rfl) (by kernel_rfl) (fun _ _ _ h => h) (Or.inl ⟨by rfl, ?_⟩) hHeld ?_
          rotate_left
          · (intro w hSw; obtain ⟨q0, q1, q2, q3, q4, q5, q6⟩ := hSw; go_simp) <;> with_reducible rfl
          refine wpAnyH_letter fun ac7 HQA7 => ?_; replace e4 := po HQA7 e4; replace e9 := po HQA7 e9; replace e319 := po HQA7 e319; replace e320 := po HQA7 e320; replace e321 := po HQA7 e321; replace e322 := po HQA7 e322; replace e323 := po HQA7 e323; replace e324 := po HQA7 e324; have e325 := put_at HQA7 HS.out (by decide); replace HS := Lib.hid (put_sz HQA7 HS.out)
          refine wpAnyH_take (i := 7) (oi := _) (v := ?_) rfl (by kernel_rfl) (by kernel_rfl) (by kernel_rfl) (fun _ _ _ h => h) (Or.inl ⟨by rfl, ?_⟩) hHeld ?_
          rotate_left
          · (intro w hSw; obtain ⟨q0, q1, q2, q3, q4, q5, q6⟩ := hSw; go_simp) <;> with_reducible rfl
          refine wpAnyH_letter fun ac8 HQA8 => ?_; replace e4 := po HQA8 e4; replace e9 := po HQA8 e9; replace e319 := po HQA8 e319; replace e320 := po HQA8 e320; replace e321 := po HQA8 e321; replace e322 := po HQA8 e322; replace e323 := po HQA8 e323; replace e324 := po HQA8 e324; replace e325 := po HQA8 e325; have e326 := put_at HQA8 HS.out (by decide); replace HS := Lib.hid (put_sz HQA8 HS.out)
          replace e326 : ac8.tmps[326]?.getD undef = .bool false := e326
          refine wpAnyH_take (i := 8) (oi := _) (v := ?_) rfl (by kernel_rfl) (by kernel_rfl) (by kernel_rfl) (fun _ _ _ h => h) (Or.inl ⟨want_of (b' := false) (b := false) rfl rfl rfl e326, ?_⟩) hHeld ?_
          rotate_left
          · (intro w hSw; obtain ⟨q0, q1, q2, q3, q4, q5, q6⟩ := hSw; go_simp) <;> with_reducible rfl
          refine wpAnyH_letter fun ac9 HQA9 => ?_; replace e4 := po HQA9 e4; replace e9 := po HQA9 e9; replace e319 := po HQA9 e319; replace e320 := po HQA9 e320; replace e321 := po HQA9 e321; replace e322 := po HQA9 e322; replace e323 := po HQA9 e323; replace e324 := po HQA9 e324; replace e325 := po HQA9 e325; replace e326 := po HQA9 e326; have e327 := put_at HQA9 HS.out (by decide); replace HS := Lib.hid (put_sz HQA9 HS.out)
          refine wpAnyH_take (i := 9) (oi := _) (v := ?_) rfl (by kernel_rfl) (by kernel_rfl) (by kernel_rfl) (fun _ _ _ h => h) (Or.inl ⟨want_of (b' := false) (b := false) rfl rfl rfl e326, ?_⟩) hHeld ?_
          rotate_left
          · (intro w hSw; obtain ⟨q0, q1, q2, q3, q4, q5, q6⟩ := hSw; go_simp) <;> with_reducible rfl
          refine wpAnyH_letter fun ac10 HQA10 => ?_; replace e4 := po HQA10 e4; replace e9 := po HQA10 e9; replace e319 := po HQA10 e319; replace e320 := po HQA10 e320; replace e321 := po HQA10 e321; replace e322 := po HQA10 e322; replace e323 := po HQA10 e323; replace e324 := po HQA10 e324; replace e325 := po HQA10 e325; replace e326 := po HQA10 e326; replace e327 := po HQA10 e327; have e328 := put_at HQA10 HS.out (by decide); replace HS := Lib.hid (put_sz HQA10 HS.out)
          refine wpAnyH_take (i := 10) (oi := _) (v := ?_) rfl (by kernel_rfl) (by kernel_rfl) (by kernel_rfl) (fun _ _ _ h => h) (Or.inl ⟨want_of (b' := false) (b := false) rfl rfl rfl e326, ?_⟩) hHeld ?_
          rotate_left
          · (intro w hSw; obtain ⟨q0, q1, q2, q3, q4, q5, q6⟩ := hSw; go_simp) <;> with_reducible rfl
          refine wpAnyH_letter fun ac11 HQA11 => ?_; replace e4 := po HQA11 e4; replace e9 := po HQA11 e9; replace e319 := po HQA11 e319; replace e320 := po HQA11 e320; replace e321 := po HQA11 e321; replace e322 := po HQA11 e322; replace e323 := po HQA11 e323; replace e324 := po HQA11 e324; replace e325 := po HQA11 e325; replace e326 := po HQA11 e326; replace e327 := po HQA11 e327; replace e328 := po HQA11 e328; have e329 := put_at HQA11 HS.out (by decide); replace HS := Lib.hid (put_sz HQA11 HS.out)
          refine wpAnyH_take (i := 11) (oi := _) (v := ?_) rfl (by kernel_rfl) (by kernel_rfl) (by kernel_rfl) (fun _ _ _ h => h) (Or.inl ⟨want_of (b' := false) (b := false) rfl rfl rfl e326, ?_⟩) hHeld ?_
          rotate_left
          · (intro w hSw; obtain ⟨q0, q1, q2, q3, q4, q5, q6⟩ := hSw; go_simp) <;> with_reducible rfl
          refine wpAnyH_letter fun ac12 HQA12 => ?_; replace e4 := po HQA12 e4; replace e9 := po HQA12 e9; replace e319 := po HQA12 e319; replace e320 := po HQA12 e320; replace e321 := po HQA12 e321; replace e322 := po HQA12 e322; replace e323 := po HQA12 e323; replace e324 := po HQA12 e324; replace e325 := po HQA12 e325; replace e326 := po HQA12 e326; replace e327 := po HQA12 e327; replace e328 := po HQA12 e328; replace e329 := po HQA12 e329; have e330 := put_at HQA12 HS.out (by decide); replace HS := Lib.hid (put_sz HQA12 HS.out)
          refine wpAnyH_take (i := 12) (oi := _) (v := ?_) rfl (by kernel_rfl) (by kernel_rfl) (by kernel_rfl) (fun _ _ _ h => h) (Or.inl ⟨want_of (b' := false) (b := false) rfl rfl rfl e326, ?_⟩) hHeld ?_
          rotate_left
          · (intro w hSw; obtain ⟨q0, q1, q2, q3, q4, q5, q6⟩ := hSw; go_simp) <;> with_reducible rfl
          refine wpAnyH_letter fun ac13 HQA13 => ?_; replace e4 := po HQA13 e4; replace e9 := po HQA13 e9; replace e319 := po HQA13 e319; replace e320 := po HQA13 e320; replace e321 := po HQA13 e321; replace e322 := po HQA13 e322; replace e323 := po HQA13 e323; replace e324 := po HQA13 e324; replace e325 := po HQA13 e325; replace e326 := po HQA13 e326; replace e327 := po HQA13 e327; replace e328 := po HQA13 e328; replace e329 := po HQA13 e329; replace e330 := po HQA13 e330; have e331 := put_at HQA13 HS.out (by decide); replace HS := Lib.hid (put_sz HQA13 HS.out); refine wpAnyH_ready (rs := [13]) (by kernel_rfl) (by simp) ?_; refine AllReadyH.cons (o := _) rfl (fun K hK => ?_) AllReadyH.nil
          rw [if_pos (by exact want_of (b' := false) (b := false) rfl rfl rfl e326)]
          go_simp
          refine Calls.mono (has_any (S := S)) ?_
          rintro e w6 ⟨rfl, hk6⟩
          rw [hj]
          have HKR := Lib.hid (HKR.out.trans hk6 (fun _ _ h => h))
          clear hk6
          (try dsimp only)
          refine hK.out _ _ ?_ (fun hHeld => ?_)
          · exact HHC.out _ HKR.out
          clear hK K; refine wpAnyH_letter fun ac14 HQA14 => ?_; replace e4 := po HQA14 e4; replace e9 := po HQA14 e9; replace e319 := po HQA14 e319; replace e320 := po HQA14 e320; replace e321 := po HQA14 e321; replace e322 := po HQA14 e322; replace e323 := po HQA14 e323; replace e324 := po HQA14 e324; replace e325 := po HQA14 e325; replace e326 := po HQA14 e326; replace e327 := po HQA14 e327; replace e328 := po HQA14 e328; replace e329 := po HQA14 e329; replace e330 := po HQA14 e330; replace e331 := po HQA14 e331; have e332 := put_at HQA14 HS.out (by decide); replace HS := Lib.hid (put_sz HQA14 HS.out)
          refine wpAnyH_take (i := 14) (oi := _) (v := ?_) rfl (by kernel_rfl) (by kernel_rfl) (by kernel_rfl) (fun _ _ _ h => h) (Or.inl ⟨want_of (b' := false) (b := false) rfl rfl rfl e326, ?_⟩) hHeld ?_
          rotate_left
          · (intro w hSw; obtain ⟨q0, q1, q2, q3, q4, q5, q6⟩ := hSw; go_simp) <;> with_reducible rfl
          refine wpAnyH_letter fun ac15 HQA15 => ?_; replace e4 := po HQA15 e4; replace e9 := po HQA15 e9; replace e319 := po HQA15 e319; replace e320 := po HQA15 e320; replace e321 := po HQA15 e321; replace e322 := po HQA15 e322; replace e323 := po HQA15 e323; replace e324 := po HQA15 e324; replace e325 := po HQA15 e325; replace e326 := po HQA15 e326; replace e327 := po HQA15 e327; replace e328 := po HQA15 e328; replace e329 := po HQA15 e329; replace e330 := po HQA15 e330; replace e331 := po HQA15 e331; replace e332 := po HQA15 e332; have e333 := put_at HQA15 HS.out (by decide); replace HS := Lib.hid (put_sz HQA15 HS.out)
          refine wpAnyH_take (i := 15) (oi := _) (v := ?_) rfl (by kernel_rfl) (by kernel_rfl) (by kernel_rfl) (fun _ _ _ h => h) (Or.inl ⟨by rfl, ?_⟩) hHeld ?_
          rotate_left
          · (intro w hSw; obtain ⟨q0, q1, q2, q3, q4, q5, q6⟩ := hSw; go_simp) <;> with_reducible rfl
          refine wpAnyH_letter fun ac16 HQA16 => ?_; replace e4 := po HQA16 e4; replace e9 := po HQA16 e9; replace e319 := po HQA16 e319; replace e320 := po HQA16 e320; replace e321 := po HQA16 e321; replace e322 := po HQA16 e322; replace e323 := po HQA16 e323; replace e324 := po HQA16 e324; replace e325 := po HQA16 e325; replace e326 := po HQA16 e326; replace e327 := po HQA16 e327; replace e328 := po HQA16 e328; replace e329 := po HQA16 e329; replace e330 := po HQA16 e330; replace e331 := po HQA16 e331; replace e332 := po HQA16 e332; replace e333 := po HQA16 e333; have e334 := put_at HQA16 HS.out (by decide); replace HS := Lib.hid (put_sz HQA16 HS.out)
          refine wpAnyH_take (i := 16) (oi := _) (v := ?_) rfl (by kernel_rfl) (by kernel_rfl) (by kernel_rfl) (fun _ _ _ h => h) (Or.inl ⟨by rfl, ?_⟩) hHeld ?_
          rotate_left
          · (intro w hSw; obtain ⟨q0, q1, q2, q3, q4, q5, q6⟩ := hSw; go_simp) <;> with_reducible rfl
          refine wpAnyH_letter fun ac17 HQA17 => ?_; replace e4 := po HQA17 e4; replace e9 := po HQA17 e9; replace e319 := po HQA17 e319; replace e320 := po HQA17 e320; replace e321 := po HQA17 e321; replace e322 := po HQA17 e322; replace e323 := po HQA17 e323; replace e324 := po HQA17 e324; replace e325 := po HQA17 e325; replace e326 := po HQA17 e326; replace e327 := po HQA17 e327; replace e328 := po HQA17 e328; replace e329 := po HQA17 e329; replace e330 := po HQA17 e330; replace e331 := po HQA17 e331; replace e332 := po HQA17 e332; replace e333 := po HQA17 e333; replace e334 := po HQA17 e334; have e318 := put_at HQA17 HS.out (by decide); replace HS := Lib.hid (put_sz HQA17 HS.out)
          refine wpAnyH_done (by kernel_rfl) ?_ _
          refine NoPanic.normal ?_
          rw [HQ1.out]
          have g0 := uE0 ac0 [318, 319, 320, 321, 322, 323, 324, 325, 326, 327, 328, 329, 330, 331, 332, 333, 334]
          have g1 := uE HQA1 g0 (by rfl); have g2 := uE HQA2 g1 (by rfl); have g3 := uE HQA3 g2 (by rfl); have g4 := uE HQA4 g3 (by rfl); have g5 := uE HQA5 g4 (by rfl); have g6 := uE HQA6 g5 (by rfl); have g7 := uE HQA7 g6 (by rfl); have g8 := uE HQA8 g7 (by rfl); have g9 := uE HQA9 g8 (by rfl); have g10 := uE HQA10 g9 (by rfl); have g11 := uE HQA11 g10 (by rfl); have g12 := uE HQA12 g11 (by rfl); have g13 := uE HQA13 g12 (by rfl); have g14 := uE HQA14 g13 (by rfl); have g15 := uE HQA15 g14 (by rfl); have g16 := uE HQA16 g15 (by rfl); have g17 := uE HQA17 g16 (by rfl)
          obtain ⟨f, hf⟩ := g17
          rw [HQA0.out] at hf
          have v318 := (updL_at (k := 318) (n := 438) (by kernel_rfl) (by rfl)).symm.trans ((congrArg (fun a : Act => a.tmps[318]?.getD undef) hf.symm).trans e318)
          refine hKq _ _ (Met.intro (hJq _ _ ?_))
          refine ⟨f 318, f 319, f 320, f 321, f 322, f 323, f 324, f 325, f 326, f 327, f 328, f 329, f 330, f 331, f 332, f 333, f 334, ⟨v318.trans (by rw [hi, hj]; rfl), HKR.out⟩, hf.trans (by kernel_rfl)⟩
    case rest =>
      obtain ⟨rfl, hk6⟩ := hcut
      obtain ⟨w6, rfl⟩ : ∃ w6, w6 = wc := ⟨_, rfl⟩
      have HKR := Lib.hid hk6; clear hk6 t0 t1 t2 t3 r0 r1 r2 r3 f0 f1 f2 f3 a0 a1 a2
      obtain ⟨t0, t1, t2, t3, r0, r1, r2, r3, f0, f1, f2, f3⟩ := HRC.out _ HKR.out
      obtain ⟨a0, a1, a2⟩ := HAW.out _ HKR.out
      obtain ⟨n0, n1⟩ := HNW.out _ HKR.out
      cases hb : (hasLot S i && hasLot S j) with
      | false =>
        have HF : Hid (doF runF S s = ⟨5, S, bs []⟩) := Lib.hid (by rw [HDF.out, HNS.out]; unfold touchF allLots; rw [if_neg (by simpa using hb)])
        go_wp2_with fail
        (try simp only [Exit.inBlock, Exit.then])
        refine rdo_back (HR3.out.keep (HKC.out.trans (HKR.out) (fun _ _ h => h)) (fun h => h)) rfl rfl rfl rfl rfl (fun wf hkf => ?_)
        exact rdo_no (by decide) HF.out HST.out (((HK3.out.trans HKC.out (fun _ _ h => h)).trans (HKR.out) (fun _ _ h => h)).trans hkf (fun k hk e => by omega))
      | true =>
        have hall : allLots S [i, j] = true := by unfold allLots; simpa using hb
        by_cases hij : i = j
        · have HF : Hid (doF runF S s = ⟨7, S, bs []⟩) := Lib.hid (by rw [HDF.out, HNS.out]; unfold touchF; simp only [List.getD_cons_zero, List.getD_cons_succ]; rw [if_pos hall, if_pos hij])
          have eij : (i == j) = true := by simpa using hij
          clear hb hall hij
          go_wp2_with fail
          go_quiet (fail)
          go_wp2_with fail
          (try simp only [Exit.inBlock, Exit.then])
          refine rdo_back (HR3.out.keep (HKC.out.trans (HKR.out.drewN nq) (fun _ _ h => h)) (fun h => h)) rfl rfl rfl rfl rfl (fun wf hkf => ?_)
          exact rdo_no (by decide) HF.out HST.out (((HK3.out.trans HKC.out (fun _ _ h => h)).trans (HKR.out.drewN nq) (fun _ _ h => h)).trans hkf (fun k hk e => by omega))
        · have HF : Hid (doF runF S s = ⟨0, { S with contacts := S.contacts ++ [(i, j)], notes := S.notes ++ [s] }, ⟨#[116, 111, 117, 99, 104]⟩⟩) := Lib.hid (by rw [HDF.out, HNS.out, HLN.out]; unfold touchF touchS; simp only [List.getD_cons_zero, List.getD_cons_succ]; rw [if_pos hall, if_neg hij]; rfl)
          have eij : (i == j) = false := by simpa using hij
          clear hb hall hij
          go_wp2_with fail
          go_quiet (fail)
          go_wp2_with fail
          refine wp_world fun wz hwz => ?_
          have HKZ : Hid (Keep (fun _ => False) wc wz) := Lib.hid (by rw [hwz]; exact HKR.out.drewN nq)
          clear hwz
          have HR5 : Hid (RO w3.heap.size wz nb (.slice ulo S.lots.length ulc) (.slice uco S.contacts.length ucc) (.slice uto S.tests.length utc) (.slice uno S.notes.length unc) S) := Lib.hid (HRO.out.keep HKZ.out (fun _ h => h.elim))
          have HK35 : Hid (Keep (fun _ => False) w3 wz) := Lib.hid (HKC.out.trans HKZ.out (fun _ _ h => h))
          have HSQ : Hid (∀ W, Keep (fun k => w3.heap.size ≤ k) wz W → W.cell? ⟨w2.heap.size, 2, none⟩ = some (.slice (some ⟨ng, no', none⟩) ns.length ocp) ∧ W.cell? ⟨ng, no', none⟩ = some (.int .i64 i) ∧ W.cell? ⟨ng, no' + 1, none⟩ = some (.int .i64 j)) := Lib.hid fun W hkW => by
            have hnk : Keep (fun k => w3.heap.size ≤ k) w3 W := (HK35.out.mono (fun _ _ h => h.elim)).trans hkW (fun _ _ h => h)
            have hB := HA3.out.keep hnk (fun e => by have := HA3.out.lt; omega)
            have hn := HNC.out _ (Keep.refl _ _)
            exact ⟨hB.cell 2, (hnk.cell (p := ⟨ng, no', none⟩) (World.block_lt_of_cell? w3 _ hn.1) (fun e => by have h1 := World.block_lt_of_cell? w3 _ hn.1; have h2 : w3.heap.size ≤ ng := e; have h3 : ng < w3.heap.size := h1; omega)).trans hn.1, (hnk.cell (p := ⟨ng, no' + 1, none⟩) (World.block_lt_of_cell? w3 _ hn.2) (fun e => by have h1 := World.block_lt_of_cell? w3 _ hn.2; have h2 : w3.heap.size ≤ ng := e; have h3 : ng < w3.heap.size := h1; omega)).trans hn.2⟩
          have b0 : wz.cell? ⟨nb, 1, none⟩ = some (.slice uco S.contacts.length ucc) := HR5.out.blk.cell 1
          go_cut [] from 347 to 360 (fun wx => ∃ vx, RO w3.heap.size wx nb (.slice ulo S.lots.length ulc) vx (.slice uto S.tests.length utc) (.slice uno S.notes.length unc) { S with contacts := S.contacts ++ [(i, j)] } ∧ Keep (fun k => w3.heap.size ≤ k) wz wx)
          case first =>
            rename_i Jq Kq hJq hKq
            refine region_letters fun Q1 hQ1 => ?_
            have HQ1 := Lib.hid hQ1; clear hQ1
            refine wp_region_noPanic ?_
            refine wp_region_held_drew (S := (fun W => W.cell? ⟨w2.heap.size, 2, none⟩ = some (.slice (some ⟨ng, no', none⟩) ns.length ocp) ∧ W.cell? ⟨ng, no', none⟩ = some (.int .i64 i) ∧ W.cell? ⟨ng, no' + 1, none⟩ = some (.int .i64 j))) (by kernel_rfl) (HSQ.out _ ((Keep.refl _ _).drew)) (fun hHeld => ?_)
            refine wpAnyH_letter fun ac0 HQA0 => ?_
            have HS : Hid (ac0.tmps.size = 438) := Lib.hid (by rw [HQA0.out]; kernel_rfl)
            have e11 : ac0.tmps[11]?.getD undef = .pointer (some ⟨nb, 0, none⟩) := by rw [HQA0.out]; kernel_rfl
            have e9 : ac0.tmps[9]?.getD undef = .pointer (some ⟨w2.heap.size, 0, none⟩) := by rw [HQA0.out]; kernel_rfl
            refine wpAnyH_take (i := 0) (oi := _) (v := ?_) rfl (by kernel_rfl) (by kernel_rfl) (by kernel_rfl) (fun _ _ _ h => h) (Or.inl ⟨by rfl, ?_⟩) hHeld ?_
            rotate_left
            · (intro w hSw; obtain ⟨q0, q1, q2⟩ := hSw; go_simp) <;> with_reducible rfl
            refine wpAnyH_letter fun ac1 HQA1 => ?_; replace e11 := po HQA1 e11; replace e9 := po HQA1 e9; have e347 := put_at HQA1 HS.out (by decide); replace HS := Lib.hid (put_sz HQA1 HS.out)
            refine wpAnyH_take (i := 2) (oi := _) (v := ?_) rfl (by kernel_rfl) (by kernel_rfl) (by kernel_rfl) (fun _ _ _ h => h) (Or.inl ⟨by rfl, ?_⟩) hHeld ?_
            rotate_left
            · (intro w hSw; obtain ⟨q0, q1, q2⟩ := hSw; go_simp) <;> with_reducible rfl
            refine wpAnyH_letter fun ac2 HQA2 => ?_; replace e11 := po HQA2 e11; replace e9 := po HQA2 e9; replace e347 := po HQA2 e347; have e349 := put_at HQA2 HS.out (by decide); replace HS := Lib.hid (put_sz HQA2 HS.out)
            refine wpAnyH_take (i := 3) (oi := _) (v := ?_) rfl (by kernel_rfl) (by kernel_rfl) (by kernel_rfl) (fun _ _ _ h => h) (Or.inl ⟨by rfl, ?_⟩) hHeld ?_
            rotate_left
            · (intro w hSw; obtain ⟨q0, q1, q2⟩ := hSw; go_simp) <;> with_reducible rfl
            refine wpAnyH_letter fun ac3 HQA3 => ?_; replace e11 := po HQA3 e11; replace e9 := po HQA3 e9; replace e347 := po HQA3 e347; replace e349 := po HQA3 e349; have e350 := put_at HQA3 HS.out (by decide); replace HS := Lib.hid (put_sz HQA3 HS.out)
            refine wpAnyH_take (i := 4) (oi := _) (v := ?_) rfl (by kernel_rfl) (by kernel_rfl) (by kernel_rfl) (fun _ _ _ h => h) (Or.inl ⟨by rfl, ?_⟩) hHeld ?_
            rotate_left
            · (intro w hSw; obtain ⟨q0, q1, q2⟩ := hSw; go_simp) <;> with_reducible rfl
            refine wpAnyH_letter fun ac4 HQA4 => ?_; replace e11 := po HQA4 e11; replace e9 := po HQA4 e9; replace e347 := po HQA4 e347; replace e349 := po HQA4 e349; replace e350 := po HQA4 e350; have e351 := put_at HQA4 HS.out (by decide); replace HS := Lib.hid (put_sz HQA4 HS.out)
            refine wpAnyH_take (i := 5) (oi := _) (v := ?_) rfl (by kernel_rfl) (by kernel_rfl) (by kernel_rfl) (fun _ _ _ h => h) (Or.inl ⟨by rfl, ?_⟩) hHeld ?_
            rotate_left
            · (intro w hSw; obtain ⟨q0, q1, q2⟩ := hSw; go_simp) <;> with_reducible rfl
            refine wpAnyH_letter fun ac5 HQA5 => ?_; replace e11 := po HQA5 e11; replace e9 := po HQA5 e9; replace e347 := po HQA5 e347; replace e349 := po HQA5 e349; replace e350 := po HQA5 e350; replace e351 := po HQA5 e351; have e352 := put_at HQA5 HS.out (by decide); replace HS := Lib.hid (put_sz HQA5 HS.out)
            refine wpAnyH_take (i := 6) (oi := _) (v := ?_) rfl (by kernel_rfl) (by kernel_rfl) (by kernel_rfl) (fun _ _ _ h => h) (Or.inl ⟨by rfl, ?_⟩) hHeld ?_
            rotate_left
            · (intro w hSw; obtain ⟨q0, q1, q2⟩ := hSw; go_simp) <;> with_reducible rfl
            refine wpAnyH_letter fun ac6 HQA6 => ?_; replace e11 := po HQA6 e11; replace e9 := po HQA6 e9; replace e347 := po HQA6 e347; replace e349 := po HQA6 e349; replace e350 := po HQA6 e350; replace e351 := po HQA6 e351; replace e352 := po HQA6 e352; have e353 := put_at HQA6 HS.out (by decide); replace HS := Lib.hid (put_sz HQA6 HS.out)
            refine wpAnyH_take (i := 7) (oi := _) (v := ?_) rfl (by kernel_rfl) (by kernel_rfl) (by kernel_rfl) (fun _ _ _ h => h) (Or.inl ⟨by rfl, ?_⟩) hHeld ?_
            rotate_left
            · (intro w hSw; obtain ⟨q0, q1, q2⟩ := hSw; go_simp) <;> with_reducible rfl
            refine wpAnyH_letter fun ac7 HQA7 => ?_; replace e11 := po HQA7 e11; replace e9 := po HQA7 e9; replace e347 := po HQA7 e347; replace e349 := po HQA7 e349; replace e350 := po HQA7 e350; replace e351 := po HQA7 e351; replace e352 := po HQA7 e352; replace e353 := po HQA7 e353; have e354 := put_at HQA7 HS.out (by decide); replace HS := Lib.hid (put_sz HQA7 HS.out)
            refine wpAnyH_take (i := 8) (oi := _) (v := ?_) rfl (by kernel_rfl) (by kernel_rfl) (by kernel_rfl) (fun _ _ _ h => h) (Or.inl ⟨by rfl, ?_⟩) hHeld ?_
            rotate_left
            · (intro w hSw; obtain ⟨q0, q1, q2⟩ := hSw; go_simp) <;> with_reducible rfl
            refine wpAnyH_letter fun ac8 HQA8 => ?_; replace e11 := po HQA8 e11; replace e9 := po HQA8 e9; replace e347 := po HQA8 e347; replace e349 := po HQA8 e349; replace e350 := po HQA8 e350; replace e351 := po HQA8 e351; replace e352 := po HQA8 e352; replace e353 := po HQA8 e353; replace e354 := po HQA8 e354; have e355 := put_at HQA8 HS.out (by decide); replace HS := Lib.hid (put_sz HQA8 HS.out)
            refine wpAnyH_take (i := 9) (oi := _) (v := ?_) rfl (by kernel_rfl) (by kernel_rfl) (by kernel_rfl) (fun _ _ _ h => h) (Or.inl ⟨by rfl, ?_⟩) hHeld ?_
            rotate_left
            · (intro w hSw; obtain ⟨q0, q1, q2⟩ := hSw; go_simp) <;> with_reducible rfl
            refine wpAnyH_letter fun ac9 HQA9 => ?_; replace e11 := po HQA9 e11; replace e9 := po HQA9 e9; replace e347 := po HQA9 e347; replace e349 := po HQA9 e349; replace e350 := po HQA9 e350; replace e351 := po HQA9 e351; replace e352 := po HQA9 e352; replace e353 := po HQA9 e353; replace e354 := po HQA9 e354; replace e355 := po HQA9 e355; have e356 := put_at HQA9 HS.out (by decide); replace HS := Lib.hid (put_sz HQA9 HS.out)
            refine wpAnyH_take (i := 10) (oi := _) (v := ?_) rfl (by kernel_rfl) (by kernel_rfl) (by kernel_rfl) (fun _ _ _ h => h) (Or.inl ⟨by rfl, ?_⟩) hHeld ?_
            rotate_left
            · (intro w hSw; obtain ⟨q0, q1, q2⟩ := hSw; go_simp) <;> with_reducible rfl
            refine wpAnyH_letter fun ac10 HQA10 => ?_; replace e11 := po HQA10 e11; replace e9 := po HQA10 e9; replace e347 := po HQA10 e347; replace e349 := po HQA10 e349; replace e350 := po HQA10 e350; replace e351 := po HQA10 e351; replace e352 := po HQA10 e352; replace e353 := po HQA10 e353; replace e354 := po HQA10 e354; replace e355 := po HQA10 e355; replace e356 := po HQA10 e356; have e357 := put_at HQA10 HS.out (by decide); replace HS := Lib.hid (put_sz HQA10 HS.out)
            refine wpAnyH_ready (rs := [1, 11]) (by kernel_rfl) (by simp) ?_
            refine AllReadyH.cons (o := _) rfl (fun K hK => ?_) (AllReadyH.cons (o := _) rfl (fun K hK => ?_) AllReadyH.nil)
            · go_simp
              refine hK.out _ _ ?_ (fun hHeld => ?_)
              · exact HSQ.out _ ((Keep.refl _ _).drew)
              clear hK K; refine wpAnyH_letter fun ac11 HQA11 => ?_; replace e11 := po HQA11 e11; replace e9 := po HQA11 e9; replace e347 := po HQA11 e347; replace e349 := po HQA11 e349; replace e350 := po HQA11 e350; replace e351 := po HQA11 e351; replace e352 := po HQA11 e352; replace e353 := po HQA11 e353; replace e354 := po HQA11 e354; replace e355 := po HQA11 e355; replace e356 := po HQA11 e356; replace e357 := po HQA11 e357; have e348 := put_at HQA11 HS.out (by decide); replace HS := Lib.hid (put_sz HQA11 HS.out); refine wpAnyH_ready (rs := [11]) (by kernel_rfl) (by simp) ?_; refine AllReadyH.cons (o := _) rfl (fun K hK => ?_) AllReadyH.nil
              go_simp
              refine hK.out _ _ ?_ (fun hHeld => ?_)
              · first | exact HSQ.out _ (((Keep.refl _ _).alloc _).drew) | exact HSQ.out _ (((Keep.refl _ _).drew).alloc _)
              clear hK K; refine wpAnyH_letter fun ac12 HQA12 => ?_; replace e11 := po HQA12 e11; replace e9 := po HQA12 e9; replace e347 := po HQA12 e347; replace e349 := po HQA12 e349; replace e350 := po HQA12 e350; replace e351 := po HQA12 e351; replace e352 := po HQA12 e352; replace e353 := po HQA12 e353; replace e354 := po HQA12 e354; replace e355 := po HQA12 e355; replace e356 := po HQA12 e356; replace e357 := po HQA12 e357; replace e348 := po HQA12 e348; have e358 := put_at HQA12 HS.out (by decide); replace HS := Lib.hid (put_sz HQA12 HS.out); refine wpAnyH_ready (rs := [12]) (by kernel_rfl) (by simp) ?_; refine AllReadyH.cons (o := _) rfl (fun K hK => ?_) AllReadyH.nil
              rw [if_pos (by rfl)]
              have ho6 : ((wz.alloc (.cells #[.int .i64 i, .int .i64 j] 176)).drew).ownsRow w3.heap.size 176 2 (.slice uco S.contacts.length ucc) S.contacts.length (pairCells S.contacts) := ownsRow_keep HR5.out.c (((Keep.refl (fun _ => False) wz).alloc (.cells #[.int .i64 i, .int .i64 j] 176)).drew) (fun _ _ h => h)
              refine oper_app (.tmp 348) (.tmp 358) 71 71 rfl 176 (.agg #[.int .i64 0, .int .i64 0]) 2 16 Tryz.underlying71 info176 rfl ho6 (evals e348) (((Rd.new wz 2 1 [.int .i64 i, .int .i64 j] 176 rfl (by simp [Value.oneCell']) (by unfold maxLen; omega)).keep ((Keep.refl (fun _ => False) _).drew) (fun _ _ h => h)).src Tryz.underlying71) (evals e358) (by unfold maxLen; omega) (by omega) (Nat.le_trans HK35.out.size (((Keep.refl (fun _ => False) wz).alloc (.cells #[.int .i64 i, .int .i64 j] 176)).drew).size) (fun v' w7 happ => ?_)
              obtain ⟨ao7, cap7, rfl, _⟩ := ownsRow_shape happ.own
              have h6 := HR5.out.keep (((Keep.refl (fun _ => False) wz).alloc (.cells #[.int .i64 i, .int .i64 j] 176)).drew) (fun _ h => h.elim)
              have hb7 := h6.blk.keep happ.keep (fun e => ownsRow_blk h6.c h6.blk (by decide) e)
              have d0 := hb7.cell 1
              have y0 := hb7.free 1
              simp at d0
              have hk7 : Keep (fun k => w3.heap.size ≤ k) wz w7 := ((((Keep.refl (fun k => w3.heap.size ≤ k) wz).alloc _).drew)).trans happ.keep (fun b hb e => (ownsRow_lt ho6 b e).1)
              have HK7 := Lib.hid hk7
              have H7 := Lib.hid (h6.app_c (x := (i, j)) happ.keep (by have := happ.own; simpa [pairCells, pairCell] using this))
              clear happ h6 hb7 ho6 hk7
              (try dsimp only)
              refine hK.out _ _ ?_ (fun hHeld => ?_)
              · exact HSQ.out _ HK7.out
              clear hK K; refine wpAnyH_letter fun ac13 HQA13 => ?_; replace e11 := po HQA13 e11; replace e9 := po HQA13 e9; replace e347 := po HQA13 e347; replace e349 := po HQA13 e349; replace e350 := po HQA13 e350; replace e351 := po HQA13 e351; replace e352 := po HQA13 e352; replace e353 := po HQA13 e353; replace e354 := po HQA13 e354; replace e355 := po HQA13 e355; replace e356 := po HQA13 e356; replace e357 := po HQA13 e357; replace e348 := po HQA13 e348; replace e358 := po HQA13 e358; have e359 := put_at HQA13 HS.out (by decide); replace HS := Lib.hid (put_sz HQA13 HS.out)
              refine wpAnyH_take (i := 13) (oi := _) (v := ?_) rfl (by kernel_rfl) (by kernel_rfl) (by kernel_rfl) (fun _ _ _ h => h) (Or.inl ⟨by rfl, ?_⟩) hHeld ?_
              rotate_left
              · (intro w hSw; obtain ⟨q0, q1, q2⟩ := hSw; go_simp) <;> with_reducible rfl
              refine wpAnyH_letter fun ac14 HQA14 => ?_; replace e11 := po HQA14 e11; replace e9 := po HQA14 e9; replace e347 := po HQA14 e347; replace e349 := po HQA14 e349; replace e350 := po HQA14 e350; replace e351 := po HQA14 e351; replace e352 := po HQA14 e352; replace e353 := po HQA14 e353; replace e354 := po HQA14 e354; replace e355 := po HQA14 e355; replace e356 := po HQA14 e356; replace e357 := po HQA14 e357; replace e348 := po HQA14 e348; replace e358 := po HQA14 e358; replace e359 := po HQA14 e359; have e360 := put_at HQA14 HS.out (by decide); replace HS := Lib.hid (put_sz HQA14 HS.out); refine wpAnyH_ready (rs := [14]) (by kernel_rfl) (by simp) ?_; refine AllReadyH.cons (o := _) rfl (fun K hK => ?_) AllReadyH.nil
              go_simp
              refine hK.out _ _ ?_ (fun hHeld => ?_)
              · exact HSQ.out _ (HK7.out.setCell _ _ (fun _ => HRO.out.ge))
              clear hK K
              refine wpAnyH_done (by kernel_rfl) ?_ _
              refine NoPanic.normal ?_
              rw [HQ1.out]
              have g0 := uE0 ac0 [347, 348, 349, 350, 351, 352, 353, 354, 355, 356, 357, 358, 359, 360]
              have g1 := uE HQA1 g0 (by rfl); have g2 := uE HQA2 g1 (by rfl); have g3 := uE HQA3 g2 (by rfl); have g4 := uE HQA4 g3 (by rfl); have g5 := uE HQA5 g4 (by rfl); have g6 := uE HQA6 g5 (by rfl); have g7 := uE HQA7 g6 (by rfl); have g8 := uE HQA8 g7 (by rfl); have g9 := uE HQA9 g8 (by rfl); have g10 := uE HQA10 g9 (by rfl); have g11 := uE HQA11 g10 (by rfl); have g12 := uE HQA12 g11 (by rfl); have g13 := uE HQA13 g12 (by rfl); have g14 := uE HQA14 g13 (by rfl)
              obtain ⟨f, hf⟩ := g14
              rw [HQA0.out] at hf
              refine hKq _ _ (Met.intro (hJq _ _ ?_))
              refine ⟨f 347, f 348, f 349, f 350, f 351, f 352, f 353, f 354, f 355, f 356, f 357, f 358, f 359, f 360, ⟨_, H7.out, HK7.out.setCell _ _ (fun _ => HRO.out.ge)⟩, hf.trans (by kernel_rfl)⟩
            · go_simp
              refine hK.out _ _ ?_ (fun hHeld => ?_)
              · first | exact HSQ.out _ (((Keep.refl _ _).alloc _).drew) | exact HSQ.out _ (((Keep.refl _ _).drew).alloc _)
              clear hK K; refine wpAnyH_letter fun ac11 HQA11 => ?_; replace e11 := po HQA11 e11; replace e9 := po HQA11 e9; replace e347 := po HQA11 e347; replace e349 := po HQA11 e349; replace e350 := po HQA11 e350; replace e351 := po HQA11 e351; replace e352 := po HQA11 e352; replace e353 := po HQA11 e353; replace e354 := po HQA11 e354; replace e355 := po HQA11 e355; replace e356 := po HQA11 e356; replace e357 := po HQA11 e357; have e358 := put_at HQA11 HS.out (by decide); replace HS := Lib.hid (put_sz HQA11 HS.out)
              have b0' : (wz.alloc (.cells #[.int .i64 i, .int .i64 j] 176)).cell? ⟨nb, 1, none⟩ = some (.slice uco S.contacts.length ucc) := (HR5.out.keep ((Keep.refl (fun _ => False) wz).alloc (.cells #[.int .i64 i, .int .i64 j] 176)) (fun _ h => h.elim)).blk.cell 1
              refine wpAnyH_ready (rs := [1]) (by kernel_rfl) (by simp) ?_; refine AllReadyH.cons (o := _) rfl (fun K hK => ?_) AllReadyH.nil
              go_simp
              refine hK.out _ _ ?_ (fun hHeld => ?_)
              · first | exact HSQ.out _ (((Keep.refl _ _).alloc _).drew) | exact HSQ.out _ (((Keep.refl _ _).drew).alloc _)
              clear hK K; refine wpAnyH_letter fun ac12 HQA12 => ?_; replace e11 := po HQA12 e11; replace e9 := po HQA12 e9; replace e347 := po HQA12 e347; replace e349 := po HQA12 e349; replace e350 := po HQA12 e350; replace e351 := po HQA12 e351; replace e352 := po HQA12 e352; replace e353 := po HQA12 e353; replace e354 := po HQA12 e354; replace e355 := po HQA12 e355; replace e356 := po HQA12 e356; replace e357 := po HQA12 e357; replace e358 := po HQA12 e358; have e348 := put_at HQA12 HS.out (by decide); replace HS := Lib.hid (put_sz HQA12 HS.out); refine wpAnyH_ready (rs := [12]) (by kernel_rfl) (by simp) ?_; refine AllReadyH.cons (o := _) rfl (fun K hK => ?_) AllReadyH.nil
              rw [if_pos (by rfl)]
              have ho6 : ((wz.alloc (.cells #[.int .i64 i, .int .i64 j] 176)).drew).ownsRow w3.heap.size 176 2 (.slice uco S.contacts.length ucc) S.contacts.length (pairCells S.contacts) := ownsRow_keep HR5.out.c (((Keep.refl (fun _ => False) wz).alloc (.cells #[.int .i64 i, .int .i64 j] 176)).drew) (fun _ _ h => h)
              refine oper_app (.tmp 348) (.tmp 358) 71 71 rfl 176 (.agg #[.int .i64 0, .int .i64 0]) 2 16 Tryz.underlying71 info176 rfl ho6 (evals e348) (((Rd.new wz 2 1 [.int .i64 i, .int .i64 j] 176 rfl (by simp [Value.oneCell']) (by unfold maxLen; omega)).keep ((Keep.refl (fun _ => False) _).drew) (fun _ _ h => h)).src Tryz.underlying71) (evals e358) (by unfold maxLen; omega) (by omega) (Nat.le_trans HK35.out.size (((Keep.refl (fun _ => False) wz).alloc (.cells #[.int .i64 i, .int .i64 j] 176)).drew).size) (fun v' w7 happ => ?_)
              obtain ⟨ao7, cap7, rfl, _⟩ := ownsRow_shape happ.own
              have h6 := HR5.out.keep (((Keep.refl (fun _ => False) wz).alloc (.cells #[.int .i64 i, .int .i64 j] 176)).drew) (fun _ h => h.elim)
              have hb7 := h6.blk.keep happ.keep (fun e => ownsRow_blk h6.c h6.blk (by decide) e)
              have d0 := hb7.cell 1
              have y0 := hb7.free 1
              simp at d0
              have hk7 : Keep (fun k => w3.heap.size ≤ k) wz w7 := ((((Keep.refl (fun k => w3.heap.size ≤ k) wz).alloc _).drew)).trans happ.keep (fun b hb e => (ownsRow_lt ho6 b e).1)
              have HK7 := Lib.hid hk7
              have H7 := Lib.hid (h6.app_c (x := (i, j)) happ.keep (by have := happ.own; simpa [pairCells, pairCell] using this))
              clear happ h6 hb7 ho6 hk7
              (try dsimp only)
              refine hK.out _ _ ?_ (fun hHeld => ?_)
              · exact HSQ.out _ HK7.out
              clear hK K; refine wpAnyH_letter fun ac13 HQA13 => ?_; replace e11 := po HQA13 e11; replace e9 := po HQA13 e9; replace e347 := po HQA13 e347; replace e349 := po HQA13 e349; replace e350 := po HQA13 e350; replace e351 := po HQA13 e351; replace e352 := po HQA13 e352; replace e353 := po HQA13 e353; replace e354 := po HQA13 e354; replace e355 := po HQA13 e355; replace e356 := po HQA13 e356; replace e357 := po HQA13 e357; replace e358 := po HQA13 e358; replace e348 := po HQA13 e348; have e359 := put_at HQA13 HS.out (by decide); replace HS := Lib.hid (put_sz HQA13 HS.out)
              refine wpAnyH_take (i := 13) (oi := _) (v := ?_) rfl (by kernel_rfl) (by kernel_rfl) (by kernel_rfl) (fun _ _ _ h => h) (Or.inl ⟨by rfl, ?_⟩) hHeld ?_
              rotate_left
              · (intro w hSw; obtain ⟨q0, q1, q2⟩ := hSw; go_simp) <;> with_reducible rfl
              refine wpAnyH_letter fun ac14 HQA14 => ?_; replace e11 := po HQA14 e11; replace e9 := po HQA14 e9; replace e347 := po HQA14 e347; replace e349 := po HQA14 e349; replace e350 := po HQA14 e350; replace e351 := po HQA14 e351; replace e352 := po HQA14 e352; replace e353 := po HQA14 e353; replace e354 := po HQA14 e354; replace e355 := po HQA14 e355; replace e356 := po HQA14 e356; replace e357 := po HQA14 e357; replace e358 := po HQA14 e358; replace e348 := po HQA14 e348; replace e359 := po HQA14 e359; have e360 := put_at HQA14 HS.out (by decide); replace HS := Lib.hid (put_sz HQA14 HS.out); refine wpAnyH_ready (rs := [14]) (by kernel_rfl) (by simp) ?_; refine AllReadyH.cons (o := _) rfl (fun K hK => ?_) AllReadyH.nil
              go_simp
              refine hK.out _ _ ?_ (fun hHeld => ?_)
              · exact HSQ.out _ (HK7.out.setCell _ _ (fun _ => HRO.out.ge))
              clear hK K
              refine wpAnyH_done (by kernel_rfl) ?_ _
              refine NoPanic.normal ?_
              rw [HQ1.out]
              have g0 := uE0 ac0 [347, 348, 349, 350, 351, 352, 353, 354, 355, 356, 357, 358, 359, 360]
              have g1 := uE HQA1 g0 (by rfl); have g2 := uE HQA2 g1 (by rfl); have g3 := uE HQA3 g2 (by rfl); have g4 := uE HQA4 g3 (by rfl); have g5 := uE HQA5 g4 (by rfl); have g6 := uE HQA6 g5 (by rfl); have g7 := uE HQA7 g6 (by rfl); have g8 := uE HQA8 g7 (by rfl); have g9 := uE HQA9 g8 (by rfl); have g10 := uE HQA10 g9 (by rfl); have g11 := uE HQA11 g10 (by rfl); have g12 := uE HQA12 g11 (by rfl); have g13 := uE HQA13 g12 (by rfl); have g14 := uE HQA14 g13 (by rfl)
              obtain ⟨f, hf⟩ := g14
              rw [HQA0.out] at hf
              refine hKq _ _ (Met.intro (hJq _ _ ?_))
              refine ⟨f 347, f 348, f 349, f 350, f 351, f 352, f 353, f 354, f 355, f 356, f 357, f 358, f 359, f 360, ⟨_, H7.out, HK7.out.setCell _ _ (fun _ => HRO.out.ge)⟩, hf.trans (by kernel_rfl)⟩
          case rest =>
            obtain ⟨vx, h8, hk8⟩ := hcut
            obtain ⟨ao7, cap7, hvx, _⟩ := ownsRow_shape h8.c
            subst hvx
            simp only [List.length_append, List.length_singleton] at h8
            obtain ⟨w8, rfl⟩ : ∃ w8, w8 = wc := ⟨_, rfl⟩
            have HK38 : Hid (Keep (fun k => w3.heap.size ≤ k) w3 w8) := Lib.hid ((HK35.out.mono (fun _ _ h => h.elim)).trans hk8 (fun _ _ h => h))
            have H8 := Lib.hid h8; clear h8 hk8 b0
            have b3 := H8.out.blk.cell 3
            simp at b3
            have HO8 : Hid ((w8.alloc (.cells #[.string s] 9)).ownsRow w3.heap.size 9 1 (.slice uno S.notes.length unc) S.notes.length (strCells S.notes)) := Lib.hid (ownsRow_keep H8.out.n ((Keep.refl (fun _ => False) w8).alloc _) (fun _ _ h => h))
            have HS8 := Lib.hid (Rd.new w8 1 1 [.string s] 9 rfl (by simp [Value.oneCell']) (by unfold maxLen; omega))
            go_upto_region 55 with (at_builtin; refine wpList_app (w := w8.alloc (.cells #[.string s] 9)) rfl (.tmp 362) (.tmp 364) 44 44 rfl 9 (.string ⟨#[]⟩) 1 16 Tryz.underlying44 info9 rfl HO8.out rfl (HS8.out.src Tryz.underlying44) rfl (by unfold maxLen; omega) (by omega) (Nat.le_trans HK38.out.size ((Keep.refl (fun _ => False) w8).alloc (.cells #[.string s] 9)).size) (fun v9 w9 happ => ?_); obtain ⟨ao9, cap9, rfl, _⟩ := ownsRow_shape happ.own; have h9 := H8.out.keep ((Keep.refl (fun _ => False) w8).alloc (.cells #[.string s] 9)) (fun _ h => h.elim); have hb9 := h9.blk.keep happ.keep (fun e => ownsRow_blk h9.n h9.blk (by decide) e); have d3 := hb9.cell 3; have y3 := hb9.free 3; simp at d3; have HKA := Lib.hid happ.keep; have H9 := Lib.hid (h9.app_n (x := s) happ.keep (by have := happ.own; simpa [strCells, List.map_append] using this)); clear happ h9 hb9)
            obtain ⟨w10, hw10⟩ : ∃ w10, w10 = w9.setCell ⟨nb, 3, none⟩ (.slice ao9 (S.notes.length + 1) cap9) := ⟨_, rfl⟩
            have HK10 : Hid (Keep (fun k => w3.heap.size ≤ k) w8 w10) := Lib.hid (by rw [hw10]; exact (((Keep.refl (fun k => w3.heap.size ≤ k) w8).alloc (.cells #[.string s] 9)).trans HKA.out (fun b hb e => (ownsRow_lt HO8.out b e).1)).setCell _ _ (fun _ => HRO.out.ge))
            have H8 := H9
            rw [← hw10] at H8 ⊢
            have HK38 := Lib.hid (HK38.out.trans HK10.out (fun _ _ h => h))
            clear hw10 d3 y3 b3
            have hrw := HR3.out.keep HK38.out (fun e => by have := HR3.out.lt; omega)
            have r0 := hrw.cell 0
            have r1 := hrw.cell 1
            have r2 := hrw.cell 2
            have r3 := hrw.cell 3
            have f0 := hrw.free 0
            have f1 := hrw.free 1
            have f2 := hrw.free 2
            have f3 := hrw.free 3
            have b0 := H8.out.blk.cell 0
            have b1 := H8.out.blk.cell 1
            have b2 := H8.out.blk.cell 2
            have b3 := H8.out.blk.cell 3
            simp at r0 r1 r2 r3 b0 b1 b2 b3
            have HRW := Lib.hid hrw; clear hrw
            go_wp2_with fail
            (try simp only [Exit.inBlock, Exit.then])
            refine rdo_back HRW.out rfl rfl rfl rfl rfl (fun wf hkf => ?_)
            exact rdo_yes (nb := nb) HF.out (H8.out.keep hkf (fun b e => by have := HR3.out.lt; omega)) ((HK3.out.trans HK38.out (fun k hk e => by have := HK3.out.size; omega)).trans hkf (fun k hk e => by omega)) HK3.out.size
end Go.Proofs.YthdkamnclbfehaaGreatDoor
