/- cubebref09.Do: test. -/
import Derived.Test.YthdkamnclbfehaaGreatDoorO27
import Derived.Deep.LoopGhost
import Derived.Deep.DeepCutAuto
import Derived.Deep.CutBlock
import Derived.Test.YthdkamnclbfehaaGreatDoorO28
import Derived.Test.YthdkamnclbfehaaGreatDoorO25
import Derived.Test.YthdkamnclbfehaaGreatDoorO24
import Derived.Test.YthdkamnclbfehaaGreatDoorO10
/- cubebref09.Do: test. -/
namespace Go.Proofs.YthdkamnclbfehaaGreatDoor
set_option linter.unusedSimpArgs false
set_option linter.unusedVariables false
set_option linter.unnecessarySimpa false
open Go.RowKit
set_option maxHeartbeats 20000000 in
set_option maxRecDepth 100000 in
theorem rdo_test {w : World} {vl vc vt vn bv : Value} {S : St} {m : Nat} {s wd nm : ByteArray} {ns : List Int} (hG : Glob w) (hb : Rd w 1 bv S.bays.length (icells S.bays)) (hS : RSt w vl vc vt vn S) (hI : Inv m S) (hm : m ≤ 1000000) (hs : s.size ≤ 4096)
    (hread : readR s = some (wd, nm, ns)) (hwd : wd.data.toList = [116, 101, 115, 116]) {i : Int} (hns : ns = [i]) (hi : numB i) (hln : s = testNote i nm) (hdo : doF runF S s = testF S ⟨ns, nm, true⟩) : Calls Tryz.prog 67 #[bv, .agg #[vl, vc, vt, vn], .string s] w (RDoPost w (doF runF S s)) := by
  have H95 : Hid (∀ W, Keep (fun _ => False) w W → Calls Tryz.prog 95 #[.string s] W (ReadSaid W s)) := Lib.hid fun W hk => rread_any (hG.keep hk) hs
  have H96 : Hid (∀ W, Keep (fun _ => False) w W → Calls Tryz.prog 96 #[.int .i64 ((S.lots.length : Int) + 1)] W (ItoaPost W ((S.lots.length : Int) + 1))) := Lib.hid fun W hk => itoa_any (hG.keep hk) (by omega) (by have := hI.l; omega)
  have HREAD := Lib.hid hread; have HNS := Lib.hid hns; have HWD := Lib.hid hwd; have HDF := Lib.hid hdo; clear hns hwd hdo; have HLN := Lib.hid hln; have HNI := Lib.hid hi; clear hln hi; have HG := Lib.hid hG; have HBV := Lib.hid hb; have HST := Lib.hid hS; have HI := Lib.hid hI
  have hl20 := hI.l
  have hc2 := hI.c
  have ht2 := hI.t
  have hn2 := hI.n
  obtain ⟨lo, lc, hvl, hlc, _⟩ := hS.l.shape
  obtain ⟨co, cc, hvc, hcc, _⟩ := hS.c.shape
  obtain ⟨to_, tc, hvt, htc, _⟩ := hS.t.shape
  obtain ⟨no, nc, hvn, hnc, _⟩ := hS.n.shape
  subst hvl hvc hvt hvn
  obtain ⟨cells, hcells⟩ : ∃ c : Array Value, c = #[.slice lo S.lots.length lc, .slice co S.contacts.length cc, .slice to_ S.tests.length tc, .slice no S.notes.length nc] := ⟨_, rfl⟩
  have hT0 : Blk ((w.alloc (.cells #[.slice lo S.lots.length lc, .slice co S.contacts.length cc, .slice to_ S.tests.length tc, .slice no S.notes.length nc] 74)).alloc (.cells #[.slice none 0 0, .slice none 0 0, .slice none 0 0, .slice none 0 0] 74)) w.heap.size #[.slice lo S.lots.length lc, .slice co S.contacts.length cc, .slice to_ S.tests.length tc, .slice no S.notes.length nc] 74 := (Blk.new _ _ _).alloc _
  have hR0 : Blk ((w.alloc (.cells #[.slice lo S.lots.length lc, .slice co S.contacts.length cc, .slice to_ S.tests.length tc, .slice no S.notes.length nc] 74)).alloc (.cells #[.slice none 0 0, .slice none 0 0, .slice none 0 0, .slice none 0 0] 74)) (w.heap.size + 1) #[.slice none 0 0, .slice none 0 0, .slice none 0 0, .slice none 0 0] 74 := by
    have := Blk.new (w.alloc (.cells #[.slice lo S.lots.length lc, .slice co S.contacts.length cc, .slice to_ S.tests.length tc, .slice no S.notes.length nc] 74)) #[.slice none 0 0, .slice none 0 0, .slice none 0 0, .slice none 0 0] 74
    rwa [World.size_alloc] at this
  have hK0 : Keep (fun _ => False) w ((w.alloc (.cells #[.slice lo S.lots.length lc, .slice co S.contacts.length cc, .slice to_ S.tests.length tc, .slice no S.notes.length nc] 74)).alloc (.cells #[.slice none 0 0, .slice none 0 0, .slice none 0 0, .slice none 0 0] 74)) := ((Keep.refl _ _).alloc _).alloc _
  have HT0 := Lib.hid hT0; have HR0 := Lib.hid hR0; have HK0 := Lib.hid hK0; clear hG hb hS hI hread hs hcells cells hT0 hR0 hK0
  go_enter Tryz.func67, Tryz.ntmps67
  go_upto_region 4 with (go_at_call 95; refine (H95.out _ HK0.out).mono ?_; rintro e w2 ⟨hk2, _, hsay⟩; obtain ⟨vn9, rfl, hrd9⟩ := hsay _ _ _ HREAD.out; obtain ⟨oo, ocp, rfl, _⟩ := hrd9.shape; have HK2 := Lib.hid hk2; have HRD9 := Lib.hid hrd9; clear hk2 hsay hrd9)
  obtain ⟨w3, hw3⟩ : ∃ w3, w3 = w2.alloc (.cells #[.string wd, .string nm, .slice oo ns.length ocp] 169) := ⟨_, rfl⟩
  have h23 : Keep (fun _ => False) w2 w3 := by rw [hw3]; exact (Keep.refl _ _).alloc _
  have HA3 : Hid (Blk w3 w2.heap.size #[.string wd, .string nm, .slice oo ns.length ocp] 169) := Lib.hid (by rw [hw3]; exact Blk.new _ _ _)
  have HT3 := Lib.hid ((HT0.out.keep HK2.out (fun h => h)).keep h23 (fun h => h))
  have HR3 := Lib.hid ((HR0.out.keep HK2.out (fun h => h)).keep h23 (fun h => h))
  have HK3 := Lib.hid ((HK0.out.trans HK2.out (fun _ _ h => h)).trans h23 (fun _ _ h => h))
  have HN3 := Lib.hid (HRD9.out.keep h23 (fun _ _ h => h))
  rw [← hw3]
  clear hw3 h23
  have HSX : Hid (∀ W, Keep (fun _ => False) w3 W → W.cell? ⟨w.heap.size, 0, none⟩ = some (.slice lo S.lots.length lc) ∧ W.cell? ⟨w.heap.size, 1, none⟩ = some (.slice co S.contacts.length cc) ∧ W.cell? ⟨w.heap.size, 2, none⟩ = some (.slice to_ S.tests.length tc) ∧ W.cell? ⟨w.heap.size, 3, none⟩ = some (.slice no S.notes.length nc) ∧ Keep (fun _ => False) w3 W) := Lib.hid fun W hk =>
    have h := HT3.out.keep hk (fun h => h)
    ⟨h.cell 0, h.cell 1, h.cell 2, h.cell 3, hk⟩
  go_cut [11] from 30 to 47 (fun s11 wx => ∃ nb ul uc ut un, s11 = .pointer (some ⟨nb, 0, none⟩) ∧ RO w3.heap.size wx nb ul uc ut un S ∧ Keep (fun _ => False) w3 wx)
  case first =>
    refine rdo_copy (w := w) (S := S) ⟨by kernel_rfl, by kernel_rfl, ⟨_, _, rfl⟩, ⟨_, _, rfl⟩, ⟨_, _, rfl⟩, ⟨_, _, rfl⟩, ⟨_, _, rfl⟩, ⟨_, _, rfl⟩, ⟨_, _, rfl⟩, ⟨_, _, rfl⟩, ⟨_, _, rfl⟩, ⟨_, _, rfl⟩, ⟨_, _, rfl⟩, ⟨_, _, rfl⟩, ⟨_, _, rfl⟩, ⟨_, _, rfl⟩, ⟨_, _, rfl⟩, ⟨_, _, rfl⟩, ⟨_, _, rfl⟩, ⟨_, _, rfl⟩, ⟨_, _, _, rfl, by kernel_rfl⟩⟩ (by kernel_rfl) (by rfl) (by omega) (by omega) (by omega) (by omega) HK3.out HST.out (fun W hk => have h := HSX.out W hk; ⟨h.1, h.2.1, h.2.2.1, h.2.2.2.1⟩) (fun f wx nb hf hro hkx => ?_)
    simp only [updL, copyKs, Act.put, List.setIfInBounds_toArray, List.set_cons_zero, List.set_cons_succ]
    have HRO := Lib.hid hro; clear hro
    go_wp2_with fail
    go_meet
    exact ⟨nb, _, _, _, _, rfl, HRO.out, hkx⟩
  case rest =>
    obtain ⟨nb, ul, uc, ut, un, rfl, hro, hkc⟩ := hcut
    obtain ⟨ulo, ulc, rfl, _⟩ := ownsRow_shape hro.l
    obtain ⟨uco, ucc, rfl, _⟩ := ownsRow_shape hro.c
    obtain ⟨uto, utc, rfl, _⟩ := ownsRow_shape hro.t
    obtain ⟨uno, unc, rfl, _⟩ := ownsRow_shape hro.n
    obtain ⟨x0, x1, x2, x3, _⟩ := rdo_cells (HT3.out.keep hkc (fun h => h)) (HR3.out.keep hkc (fun h => h))
    have HRO := Lib.hid hro; have HKC := Lib.hid hkc
    have HAC : Hid (∀ W, Keep (fun _ => False) w3 W → W.cell? ⟨w2.heap.size, 0, none⟩ = some (.string wd) ∧ W.cell? ⟨w2.heap.size, 1, none⟩ = some (.string nm) ∧ W.cell? ⟨w2.heap.size, 2, none⟩ = some (.slice oo ns.length ocp)) := Lib.hid fun W hk =>
      have h := HA3.out.keep hk (fun h => h)
      ⟨h.cell 0, h.cell 1, h.cell 2⟩
    clear hro hkc
    have hwd := HWD.out
    have hc0 := lit_ne wd [116, 97, 107, 101] (by rw [hwd]; decide)
    have hc1 := lit_ne wd [98, 108, 101, 110, 100] (by rw [hwd]; decide)
    have hc2 := lit_ne wd [112, 117, 116] (by rw [hwd]; decide)
    have hc3 := lit_ne wd [116, 111, 117, 99, 104] (by rw [hwd]; decide)
    have hc4 := lit_eq _ _ hwd
    clear hwd
    have HRC : Hid (∀ W, Keep (fun _ => False) wc W → _) := Lib.hid fun W hk => rdo_cells (HT3.out.keep (HKC.out.trans hk (fun _ _ h => h)) (fun h => h)) (HR3.out.keep (HKC.out.trans hk (fun _ _ h => h)) (fun h => h))
    have HAW : Hid (∀ W, Keep (fun _ => False) wc W → _) := Lib.hid fun W hk => HAC.out W (HKC.out.trans hk (fun _ _ h => h))
    have hn0 : ns.length = 1 := by rw [HNS.out]; rfl
    obtain ⟨ng, no', rfl, hnx⟩ := rd_ints HN3.out (by omega)
    have HNC : Hid (∀ W, Keep (fun _ => False) w3 W → W.cell? ⟨ng, no', none⟩ = some (.int .i64 i)) := Lib.hid fun W hk => by
      have h0 := hnx W 0 hk (by omega)
      rw [HNS.out] at h0
      exact h0
    clear hnx
    have HNW : Hid (∀ W, Keep (fun _ => False) wc W → _) := Lib.hid fun W hk => HNC.out W (HKC.out.trans hk (fun _ _ h => h))
    cases hi : hasLot S i with
    | false =>
      have HF : Hid (doF runF S s = ⟨5, S, bs []⟩) := Lib.hid (by rw [HDF.out, HNS.out]; unfold testF; simp [hi])
      have HI := Lib.hid hi; clear hi
      go_wp2_with (go_at_call 96; refine (H96.out _ (HK3.out.trans HKC.out (fun _ _ h => h))).mono ?_; rintro e w5 ⟨rfl, hk5⟩; obtain ⟨t0, t1, t2, t3, r0, r1, r2, r3, f0, f1, f2, f3⟩ := HRC.out _ hk5; obtain ⟨a0, a1, a2⟩ := HAW.out _ hk5; have HKR := Lib.hid hk5; clear hk5)
      have HHC : Hid (∀ W, Keep (fun _ => False) wc W → W.cell? ⟨w.heap.size, 0, none⟩ = some (.slice lo S.lots.length lc) ∧ W.cell? ⟨w.heap.size, 1, none⟩ = some (.slice co S.contacts.length cc) ∧ W.cell? ⟨w.heap.size, 2, none⟩ = some (.slice to_ S.tests.length tc) ∧ W.cell? ⟨w.heap.size, 3, none⟩ = some (.slice no S.notes.length nc) ∧ W.cell? ⟨w2.heap.size, 2, none⟩ = some (.slice (some ⟨ng, no', none⟩) ns.length ocp) ∧ W.cell? ⟨ng, no', none⟩ = some (.int .i64 i)) := Lib.hid fun W hk => have x := HRC.out W hk; have y := HAW.out W hk; have z := HNW.out W hk; ⟨x.1, x.2.1, x.2.2.1, x.2.2.2.1, y.2.2, z⟩
      have HKR : Hid (Keep (fun _ => False) wc w5.drew) := Lib.hid HKR.out.drew
      go_region_held3 (fun W => W.cell? ⟨w.heap.size, 0, none⟩ = some (.slice lo S.lots.length lc) ∧ W.cell? ⟨w.heap.size, 1, none⟩ = some (.slice co S.contacts.length cc) ∧ W.cell? ⟨w.heap.size, 2, none⟩ = some (.slice to_ S.tests.length tc) ∧ W.cell? ⟨w.heap.size, 3, none⟩ = some (.slice no S.notes.length nc) ∧ W.cell? ⟨w2.heap.size, 2, none⟩ = some (.slice (some ⟨ng, no', none⟩) ns.length ocp) ∧ W.cell? ⟨ng, no', none⟩ = some (.int .i64 i)) ((refine HHC.out _ ?_; repeat (first | exact HKR.out | apply Keep.drew))) ((go_at_call 97; refine Calls.mono (has_any (S := S)) ?_; rintro e w6 ⟨rfl, hk6⟩; (first | rw [HI.out]); have HKR := Lib.hid (HKR.out.trans hk6 (fun _ _ h => h)); obtain ⟨t0, t1, t2, t3, r0, r1, r2, r3, f0, f1, f2, f3⟩ := HRC.out _ HKR.out; obtain ⟨a0, a1, a2⟩ := HAW.out _ HKR.out; have n0 := HNW.out _ HKR.out; clear hk6; dsimp only))
      go_wp2_with fail
      (try simp only [Exit.inBlock, Exit.then])
      refine rdo_back (HR3.out.keep (HKC.out.trans (HKR.out) (fun _ _ h => h)) (fun h => h)) rfl rfl rfl rfl rfl (fun wf hkf => ?_)
      exact rdo_no (by decide) HF.out HST.out (((HK3.out.trans HKC.out (fun _ _ h => h)).trans (HKR.out) (fun _ _ h => h)).trans hkf (fun k hk e => by omega))
    | true =>
      have HI := Lib.hid hi
      by_cases hg : nm = goodB
      · have gd := lit_eq nm [103, 111, 111, 100] (by rw [hg]; rfl)
        have HF : Hid (doF runF S s = ⟨0, { S with tests := S.tests ++ [(i, 1)], notes := S.notes ++ [s] }, ⟨#[116, 101, 115, 116]⟩⟩) := Lib.hid (by rw [HDF.out, HNS.out, HLN.out]; unfold testF testS; simp only [List.getD_cons_zero]; rw [if_pos hi, if_pos hg]; rfl)
        clear hi hg
        go_wp2_with (go_at_call 96; refine (H96.out _ (HK3.out.trans HKC.out (fun _ _ h => h))).mono ?_; rintro e w5 ⟨rfl, hk5⟩; obtain ⟨t0, t1, t2, t3, r0, r1, r2, r3, f0, f1, f2, f3⟩ := HRC.out _ hk5; obtain ⟨a0, a1, a2⟩ := HAW.out _ hk5; have HKR := Lib.hid hk5; clear hk5)
        have HHC : Hid (∀ W, Keep (fun _ => False) wc W → W.cell? ⟨w.heap.size, 0, none⟩ = some (.slice lo S.lots.length lc) ∧ W.cell? ⟨w.heap.size, 1, none⟩ = some (.slice co S.contacts.length cc) ∧ W.cell? ⟨w.heap.size, 2, none⟩ = some (.slice to_ S.tests.length tc) ∧ W.cell? ⟨w.heap.size, 3, none⟩ = some (.slice no S.notes.length nc) ∧ W.cell? ⟨w2.heap.size, 2, none⟩ = some (.slice (some ⟨ng, no', none⟩) ns.length ocp) ∧ W.cell? ⟨ng, no', none⟩ = some (.int .i64 i)) := Lib.hid fun W hk => have x := HRC.out W hk; have y := HAW.out W hk; have z := HNW.out W hk; ⟨x.1, x.2.1, x.2.2.1, x.2.2.2.1, y.2.2, z⟩
        have HKR : Hid (Keep (fun _ => False) wc w5.drew) := Lib.hid HKR.out.drew
        go_region_held3 (fun W => W.cell? ⟨w.heap.size, 0, none⟩ = some (.slice lo S.lots.length lc) ∧ W.cell? ⟨w.heap.size, 1, none⟩ = some (.slice co S.contacts.length cc) ∧ W.cell? ⟨w.heap.size, 2, none⟩ = some (.slice to_ S.tests.length tc) ∧ W.cell? ⟨w.heap.size, 3, none⟩ = some (.slice no S.notes.length nc) ∧ W.cell? ⟨w2.heap.size, 2, none⟩ = some (.slice (some ⟨ng, no', none⟩) ns.length ocp) ∧ W.cell? ⟨ng, no', none⟩ = some (.int .i64 i)) ((refine HHC.out _ ?_; repeat (first | exact HKR.out | apply Keep.drew))) ((go_at_call 97; refine Calls.mono (has_any (S := S)) ?_; rintro e w6 ⟨rfl, hk6⟩; (first | rw [HI.out]); have HKR := Lib.hid (HKR.out.trans hk6 (fun _ _ h => h)); obtain ⟨t0, t1, t2, t3, r0, r1, r2, r3, f0, f1, f2, f3⟩ := HRC.out _ HKR.out; obtain ⟨a0, a1, a2⟩ := HAW.out _ HKR.out; have n0 := HNW.out _ HKR.out; clear hk6; dsimp only))
        go_wp2_with fail
        refine wp_world fun wz hwz => ?_
        have HKZ : Hid (Keep (fun _ => False) wc wz) := Lib.hid (by rw [hwz]; exact HKR.out)
        clear hwz
        have HR5 : Hid (RO w3.heap.size wz nb (.slice ulo S.lots.length ulc) (.slice uco S.contacts.length ucc) (.slice uto S.tests.length utc) (.slice uno S.notes.length unc) S) := Lib.hid (HRO.out.keep HKZ.out (fun _ h => h.elim))
        have HK35 : Hid (Keep (fun _ => False) w3 wz) := Lib.hid (HKC.out.trans HKZ.out (fun _ _ h => h))
        have HSQ : Hid (∀ W, Keep (fun k => w3.heap.size ≤ k) wz W → W.cell? ⟨w2.heap.size, 1, none⟩ = some (.string nm) ∧ W.cell? ⟨w2.heap.size, 2, none⟩ = some (.slice (some ⟨ng, no', none⟩) ns.length ocp) ∧ W.cell? ⟨ng, no', none⟩ = some (.int .i64 i)) := Lib.hid fun W hkW => by
          have hnk : Keep (fun k => w3.heap.size ≤ k) w3 W := (HK35.out.mono (fun _ _ h => h.elim)).trans hkW (fun _ _ h => h)
          have hB := HA3.out.keep hnk (fun e => by have := HA3.out.lt; omega)
          have hn := HNC.out _ (Keep.refl _ _)
          exact ⟨hB.cell 1, hB.cell 2, (hnk.cell (p := ⟨ng, no', none⟩) (World.block_lt_of_cell? w3 _ hn) (fun e => by have h1 := World.block_lt_of_cell? w3 _ hn; have h2 : w3.heap.size ≤ ng := e; have h3 : ng < w3.heap.size := h1; omega)).trans hn⟩
        have b0 : wz.cell? ⟨nb, 2, none⟩ = some (.slice uto S.tests.length utc) := HR5.out.blk.cell 2
        go_cut [] from 378 to 390 (fun wx => ∃ vx, RO w3.heap.size wx nb (.slice ulo S.lots.length ulc) (.slice uco S.contacts.length ucc) vx (.slice uno S.notes.length unc) { S with tests := S.tests ++ [(i, 1)] } ∧ Keep (fun k => w3.heap.size ≤ k) wz wx)
        case first =>
          rename_i Jq Kq hJq hKq
          refine region_letters fun Q1 hQ1 => ?_
          have HQ1 := Lib.hid hQ1; clear hQ1
          refine wp_region_noPanic ?_
          refine wp_region_held_drew (S := (fun W => W.cell? ⟨w2.heap.size, 1, none⟩ = some (.string nm) ∧ W.cell? ⟨w2.heap.size, 2, none⟩ = some (.slice (some ⟨ng, no', none⟩) ns.length ocp) ∧ W.cell? ⟨ng, no', none⟩ = some (.int .i64 i))) (by kernel_rfl) (HSQ.out _ ((Keep.refl _ _).drew)) (fun hHeld => ?_)
          refine wpAnyH_letter fun ac0 HQA0 => ?_
          have HS : Hid (ac0.tmps.size = 438) := Lib.hid (by rw [HQA0.out]; kernel_rfl)
          have e11 : ac0.tmps[11]?.getD undef = .pointer (some ⟨nb, 0, none⟩) := by rw [HQA0.out]; kernel_rfl
          have e9 : ac0.tmps[9]?.getD undef = .pointer (some ⟨w2.heap.size, 0, none⟩) := by rw [HQA0.out]; kernel_rfl
          refine wpAnyH_take (i := 0) (oi := _) (v := ?_) rfl (by kernel_rfl) (by kernel_rfl) (by kernel_rfl) (fun _ _ _ h => h) (Or.inl ⟨by rfl, ?_⟩) hHeld ?_
          rotate_left
          · (intro w hSw; obtain ⟨q0, q1, q2⟩ := hSw; go_simp) <;> with_reducible rfl
          refine wpAnyH_letter fun ac1 HQA1 => ?_; replace e11 := po HQA1 e11; replace e9 := po HQA1 e9; have e378 := put_at HQA1 HS.out (by decide); replace HS := Lib.hid (put_sz HQA1 HS.out)
          refine wpAnyH_take (i := 2) (oi := _) (v := ?_) rfl (by kernel_rfl) (by kernel_rfl) (by kernel_rfl) (fun _ _ _ h => h) (Or.inl ⟨by rfl, ?_⟩) hHeld ?_
          rotate_left
          · (intro w hSw; obtain ⟨q0, q1, q2⟩ := hSw; go_simp) <;> with_reducible rfl
          refine wpAnyH_letter fun ac2 HQA2 => ?_; replace e11 := po HQA2 e11; replace e9 := po HQA2 e9; replace e378 := po HQA2 e378; have e380 := put_at HQA2 HS.out (by decide); replace HS := Lib.hid (put_sz HQA2 HS.out)
          refine wpAnyH_take (i := 3) (oi := _) (v := ?_) rfl (by kernel_rfl) (by kernel_rfl) (by kernel_rfl) (fun _ _ _ h => h) (Or.inl ⟨by rfl, ?_⟩) hHeld ?_
          rotate_left
          · (intro w hSw; obtain ⟨q0, q1, q2⟩ := hSw; go_simp) <;> with_reducible rfl
          refine wpAnyH_letter fun ac3 HQA3 => ?_; replace e11 := po HQA3 e11; replace e9 := po HQA3 e9; replace e378 := po HQA3 e378; replace e380 := po HQA3 e380; have e381 := put_at HQA3 HS.out (by decide); replace HS := Lib.hid (put_sz HQA3 HS.out)
          refine wpAnyH_take (i := 4) (oi := _) (v := ?_) rfl (by kernel_rfl) (by kernel_rfl) (by kernel_rfl) (fun _ _ _ h => h) (Or.inl ⟨by rfl, ?_⟩) hHeld ?_
          rotate_left
          · (intro w hSw; obtain ⟨q0, q1, q2⟩ := hSw; go_simp) <;> with_reducible rfl
          refine wpAnyH_letter fun ac4 HQA4 => ?_; replace e11 := po HQA4 e11; replace e9 := po HQA4 e9; replace e378 := po HQA4 e378; replace e380 := po HQA4 e380; replace e381 := po HQA4 e381; have e382 := put_at HQA4 HS.out (by decide); replace HS := Lib.hid (put_sz HQA4 HS.out)
          refine wpAnyH_take (i := 5) (oi := _) (v := ?_) rfl (by kernel_rfl) (by kernel_rfl) (by kernel_rfl) (fun _ _ _ h => h) (Or.inl ⟨by rfl, ?_⟩) hHeld ?_
          rotate_left
          · (intro w hSw; obtain ⟨q0, q1, q2⟩ := hSw; go_simp) <;> with_reducible rfl
          refine wpAnyH_letter fun ac5 HQA5 => ?_; replace e11 := po HQA5 e11; replace e9 := po HQA5 e9; replace e378 := po HQA5 e378; replace e380 := po HQA5 e380; replace e381 := po HQA5 e381; replace e382 := po HQA5 e382; have e383 := put_at HQA5 HS.out (by decide); replace HS := Lib.hid (put_sz HQA5 HS.out)
          refine wpAnyH_take (i := 6) (oi := _) (v := ?_) rfl (by kernel_rfl) (by kernel_rfl) (by kernel_rfl) (fun _ _ _ h => h) (Or.inl ⟨by rfl, ?_⟩) hHeld ?_
          rotate_left
          · (intro w hSw; obtain ⟨q0, q1, q2⟩ := hSw; go_simp) <;> with_reducible rfl
          refine wpAnyH_letter fun ac6 HQA6 => ?_; replace e11 := po HQA6 e11; replace e9 := po HQA6 e9; replace e378 := po HQA6 e378; replace e380 := po HQA6 e380; replace e381 := po HQA6 e381; replace e382 := po HQA6 e382; replace e383 := po HQA6 e383; have e384 := put_at HQA6 HS.out (by decide); replace HS := Lib.hid (put_sz HQA6 HS.out)
          refine wpAnyH_take (i := 7) (oi := _) (v := ?_) rfl (by kernel_rfl) (by kernel_rfl) (by kernel_rfl) (fun _ _ _ h => h) (Or.inl ⟨by rfl, ?_⟩) hHeld ?_
          rotate_left
          · (intro w hSw; obtain ⟨q0, q1, q2⟩ := hSw; go_simp) <;> with_reducible rfl
          refine wpAnyH_letter fun ac7 HQA7 => ?_; replace e11 := po HQA7 e11; replace e9 := po HQA7 e9; replace e378 := po HQA7 e378; replace e380 := po HQA7 e380; replace e381 := po HQA7 e381; replace e382 := po HQA7 e382; replace e383 := po HQA7 e383; replace e384 := po HQA7 e384; have e385 := put_at HQA7 HS.out (by decide); replace HS := Lib.hid (put_sz HQA7 HS.out)
          refine wpAnyH_take (i := 8) (oi := _) (v := ?_) rfl (by kernel_rfl) (by kernel_rfl) (by kernel_rfl) (fun _ _ _ h => h) (Or.inl ⟨by rfl, ?_⟩) hHeld ?_
          rotate_left
          · (intro w hSw; obtain ⟨q0, q1, q2⟩ := hSw; go_simp) <;> with_reducible rfl
          refine wpAnyH_letter fun ac8 HQA8 => ?_; replace e11 := po HQA8 e11; replace e9 := po HQA8 e9; replace e378 := po HQA8 e378; replace e380 := po HQA8 e380; replace e381 := po HQA8 e381; replace e382 := po HQA8 e382; replace e383 := po HQA8 e383; replace e384 := po HQA8 e384; replace e385 := po HQA8 e385; have e386 := put_at HQA8 HS.out (by decide); replace HS := Lib.hid (put_sz HQA8 HS.out)
          refine wpAnyH_take (i := 9) (oi := _) (v := ?_) rfl (by kernel_rfl) (by kernel_rfl) (by kernel_rfl) (fun _ _ _ h => h) (Or.inl ⟨by rfl, ?_⟩) hHeld ?_
          rotate_left
          · (intro w hSw; obtain ⟨q0, q1, q2⟩ := hSw; go_simp) <;> with_reducible rfl
          refine wpAnyH_letter fun ac9 HQA9 => ?_; replace e11 := po HQA9 e11; replace e9 := po HQA9 e9; replace e378 := po HQA9 e378; replace e380 := po HQA9 e380; replace e381 := po HQA9 e381; replace e382 := po HQA9 e382; replace e383 := po HQA9 e383; replace e384 := po HQA9 e384; replace e385 := po HQA9 e385; replace e386 := po HQA9 e386; have e387 := put_at HQA9 HS.out (by decide); replace HS := Lib.hid (put_sz HQA9 HS.out)
          refine wpAnyH_ready (rs := [1, 10]) (by kernel_rfl) (by simp) ?_
          refine AllReadyH.cons (o := _) rfl (fun K hK => ?_) (AllReadyH.cons (o := _) rfl (fun K hK => ?_) AllReadyH.nil)
          · go_simp
            refine hK.out _ _ ?_ (fun hHeld => ?_)
            · exact HSQ.out _ ((Keep.refl _ _).drew)
            clear hK K; refine wpAnyH_letter fun ac10 HQA10 => ?_; replace e11 := po HQA10 e11; replace e9 := po HQA10 e9; replace e378 := po HQA10 e378; replace e380 := po HQA10 e380; replace e381 := po HQA10 e381; replace e382 := po HQA10 e382; replace e383 := po HQA10 e383; replace e384 := po HQA10 e384; replace e385 := po HQA10 e385; replace e386 := po HQA10 e386; replace e387 := po HQA10 e387; have e379 := put_at HQA10 HS.out (by decide); replace HS := Lib.hid (put_sz HQA10 HS.out); refine wpAnyH_ready (rs := [10]) (by kernel_rfl) (by simp) ?_; refine AllReadyH.cons (o := _) rfl (fun K hK => ?_) AllReadyH.nil
            go_simp
            refine hK.out _ _ ?_ (fun hHeld => ?_)
            · first | exact HSQ.out _ (((Keep.refl _ _).alloc _).drew) | exact HSQ.out _ (((Keep.refl _ _).drew).alloc _)
            clear hK K; refine wpAnyH_letter fun ac11 HQA11 => ?_; replace e11 := po HQA11 e11; replace e9 := po HQA11 e9; replace e378 := po HQA11 e378; replace e380 := po HQA11 e380; replace e381 := po HQA11 e381; replace e382 := po HQA11 e382; replace e383 := po HQA11 e383; replace e384 := po HQA11 e384; replace e385 := po HQA11 e385; replace e386 := po HQA11 e386; replace e387 := po HQA11 e387; replace e379 := po HQA11 e379; have e388 := put_at HQA11 HS.out (by decide); replace HS := Lib.hid (put_sz HQA11 HS.out); refine wpAnyH_ready (rs := [11]) (by kernel_rfl) (by simp) ?_; refine AllReadyH.cons (o := _) rfl (fun K hK => ?_) AllReadyH.nil
            rw [if_pos (by rfl)]
            have ho6 : ((wz.alloc (.cells #[.int .i64 i, .bool true] 178)).drew).ownsRow w3.heap.size 178 2 (.slice uto S.tests.length utc) S.tests.length (rtestCells S.tests) := ownsRow_keep HR5.out.t (((Keep.refl (fun _ => False) wz).alloc (.cells #[.int .i64 i, .bool true] 178)).drew) (fun _ _ h => h)
            refine oper_app (.tmp 379) (.tmp 388) 72 72 rfl 178 (.agg #[.int .i64 0, .bool false]) 2 16 Tryz.underlying72 info178 rfl ho6 (evals e379) (((Rd.new wz 2 1 [.int .i64 i, .bool true] 178 rfl (by simp [Value.oneCell']) (by unfold maxLen; omega)).keep ((Keep.refl (fun _ => False) _).drew) (fun _ _ h => h)).src Tryz.underlying72) (evals e388) (by unfold maxLen; omega) (by omega) (Nat.le_trans HK35.out.size (((Keep.refl (fun _ => False) wz).alloc (.cells #[.int .i64 i, .bool true] 178)).drew).size) (fun v' w7 happ => ?_)
            obtain ⟨ao7, cap7, rfl, _⟩ := ownsRow_shape happ.own
            have h6 := HR5.out.keep (((Keep.refl (fun _ => False) wz).alloc (.cells #[.int .i64 i, .bool true] 178)).drew) (fun _ h => h.elim)
            have hb7 := h6.blk.keep happ.keep (fun e => ownsRow_blk h6.t h6.blk (by decide) e)
            have d0 := hb7.cell 2
            have y0 := hb7.free 2
            simp at d0
            have hk7 : Keep (fun k => w3.heap.size ≤ k) wz w7 := ((((Keep.refl (fun k => w3.heap.size ≤ k) wz).alloc _).drew)).trans happ.keep (fun b hb e => (ownsRow_lt ho6 b e).1)
            have HK7 := Lib.hid hk7
            have H7 := Lib.hid (h6.app_t (x := (i, 1)) happ.keep (by have := happ.own; simpa [rtestCells, rtestCell] using this))
            clear happ h6 hb7 ho6 hk7
            (try dsimp only)
            refine hK.out _ _ ?_ (fun hHeld => ?_)
            · exact HSQ.out _ HK7.out
            clear hK K; refine wpAnyH_letter fun ac12 HQA12 => ?_; replace e11 := po HQA12 e11; replace e9 := po HQA12 e9; replace e378 := po HQA12 e378; replace e380 := po HQA12 e380; replace e381 := po HQA12 e381; replace e382 := po HQA12 e382; replace e383 := po HQA12 e383; replace e384 := po HQA12 e384; replace e385 := po HQA12 e385; replace e386 := po HQA12 e386; replace e387 := po HQA12 e387; replace e379 := po HQA12 e379; replace e388 := po HQA12 e388; have e389 := put_at HQA12 HS.out (by decide); replace HS := Lib.hid (put_sz HQA12 HS.out)
            refine wpAnyH_take (i := 12) (oi := _) (v := ?_) rfl (by kernel_rfl) (by kernel_rfl) (by kernel_rfl) (fun _ _ _ h => h) (Or.inl ⟨by rfl, ?_⟩) hHeld ?_
            rotate_left
            · (intro w hSw; obtain ⟨q0, q1, q2⟩ := hSw; go_simp) <;> with_reducible rfl
            refine wpAnyH_letter fun ac13 HQA13 => ?_; replace e11 := po HQA13 e11; replace e9 := po HQA13 e9; replace e378 := po HQA13 e378; replace e380 := po HQA13 e380; replace e381 := po HQA13 e381; replace e382 := po HQA13 e382; replace e383 := po HQA13 e383; replace e384 := po HQA13 e384; replace e385 := po HQA13 e385; replace e386 := po HQA13 e386; replace e387 := po HQA13 e387; replace e379 := po HQA13 e379; replace e388 := po HQA13 e388; replace e389 := po HQA13 e389; have e390 := put_at HQA13 HS.out (by decide); replace HS := Lib.hid (put_sz HQA13 HS.out); refine wpAnyH_ready (rs := [13]) (by kernel_rfl) (by simp) ?_; refine AllReadyH.cons (o := _) rfl (fun K hK => ?_) AllReadyH.nil
            go_simp
            refine hK.out _ _ ?_ (fun hHeld => ?_)
            · exact HSQ.out _ (HK7.out.setCell _ _ (fun _ => HRO.out.ge))
            clear hK K
            refine wpAnyH_done (by kernel_rfl) ?_ _
            refine NoPanic.normal ?_
            rw [HQ1.out]
            have g0 := uE0 ac0 [378, 379, 380, 381, 382, 383, 384, 385, 386, 387, 388, 389, 390]
            have g1 := uE HQA1 g0 (by rfl); have g2 := uE HQA2 g1 (by rfl); have g3 := uE HQA3 g2 (by rfl); have g4 := uE HQA4 g3 (by rfl); have g5 := uE HQA5 g4 (by rfl); have g6 := uE HQA6 g5 (by rfl); have g7 := uE HQA7 g6 (by rfl); have g8 := uE HQA8 g7 (by rfl); have g9 := uE HQA9 g8 (by rfl); have g10 := uE HQA10 g9 (by rfl); have g11 := uE HQA11 g10 (by rfl); have g12 := uE HQA12 g11 (by rfl); have g13 := uE HQA13 g12 (by rfl)
            obtain ⟨f, hf⟩ := g13
            rw [HQA0.out] at hf
            refine hKq _ _ (Met.intro (hJq _ _ ?_))
            refine ⟨f 378, f 379, f 380, f 381, f 382, f 383, f 384, f 385, f 386, f 387, f 388, f 389, f 390, ⟨_, H7.out, HK7.out.setCell _ _ (fun _ => HRO.out.ge)⟩, hf.trans (by kernel_rfl)⟩
          · go_simp
            refine hK.out _ _ ?_ (fun hHeld => ?_)
            · first | exact HSQ.out _ (((Keep.refl _ _).alloc _).drew) | exact HSQ.out _ (((Keep.refl _ _).drew).alloc _)
            clear hK K; refine wpAnyH_letter fun ac10 HQA10 => ?_; replace e11 := po HQA10 e11; replace e9 := po HQA10 e9; replace e378 := po HQA10 e378; replace e380 := po HQA10 e380; replace e381 := po HQA10 e381; replace e382 := po HQA10 e382; replace e383 := po HQA10 e383; replace e384 := po HQA10 e384; replace e385 := po HQA10 e385; replace e386 := po HQA10 e386; replace e387 := po HQA10 e387; have e388 := put_at HQA10 HS.out (by decide); replace HS := Lib.hid (put_sz HQA10 HS.out)
            have b0' : (wz.alloc (.cells #[.int .i64 i, .bool true] 178)).cell? ⟨nb, 2, none⟩ = some (.slice uto S.tests.length utc) := (HR5.out.keep ((Keep.refl (fun _ => False) wz).alloc (.cells #[.int .i64 i, .bool true] 178)) (fun _ h => h.elim)).blk.cell 2
            refine wpAnyH_ready (rs := [1]) (by kernel_rfl) (by simp) ?_; refine AllReadyH.cons (o := _) rfl (fun K hK => ?_) AllReadyH.nil
            go_simp
            refine hK.out _ _ ?_ (fun hHeld => ?_)
            · first | exact HSQ.out _ (((Keep.refl _ _).alloc _).drew) | exact HSQ.out _ (((Keep.refl _ _).drew).alloc _)
            clear hK K; refine wpAnyH_letter fun ac11 HQA11 => ?_; replace e11 := po HQA11 e11; replace e9 := po HQA11 e9; replace e378 := po HQA11 e378; replace e380 := po HQA11 e380; replace e381 := po HQA11 e381; replace e382 := po HQA11 e382; replace e383 := po HQA11 e383; replace e384 := po HQA11 e384; replace e385 := po HQA11 e385; replace e386 := po HQA11 e386; replace e387 := po HQA11 e387; replace e388 := po HQA11 e388; have e379 := put_at HQA11 HS.out (by decide); replace HS := Lib.hid (put_sz HQA11 HS.out); refine wpAnyH_ready (rs := [11]) (by kernel_rfl) (by simp) ?_; refine AllReadyH.cons (o := _) rfl (fun K hK => ?_) AllReadyH.nil
            rw [if_pos (by rfl)]
            have ho6 : ((wz.alloc (.cells #[.int .i64 i, .bool true] 178)).drew).ownsRow w3.heap.size 178 2 (.slice uto S.tests.length utc) S.tests.length (rtestCells S.tests) := ownsRow_keep HR5.out.t (((Keep.refl (fun _ => False) wz).alloc (.cells #[.int .i64 i, .bool true] 178)).drew) (fun _ _ h => h)
            refine oper_app (.tmp 379) (.tmp 388) 72 72 rfl 178 (.agg #[.int .i64 0, .bool false]) 2 16 Tryz.underlying72 info178 rfl ho6 (evals e379) (((Rd.new wz 2 1 [.int .i64 i, .bool true] 178 rfl (by simp [Value.oneCell']) (by unfold maxLen; omega)).keep ((Keep.refl (fun _ => False) _).drew) (fun _ _ h => h)).src Tryz.underlying72) (evals e388) (by unfold maxLen; omega) (by omega) (Nat.le_trans HK35.out.size (((Keep.refl (fun _ => False) wz).alloc (.cells #[.int .i64 i, .bool true] 178)).drew).size) (fun v' w7 happ => ?_)
            obtain ⟨ao7, cap7, rfl, _⟩ := ownsRow_shape happ.own
            have h6 := HR5.out.keep (((Keep.refl (fun _ => False) wz).alloc (.cells #[.int .i64 i, .bool true] 178)).drew) (fun _ h => h.elim)
            have hb7 := h6.blk.keep happ.keep (fun e => ownsRow_blk h6.t h6.blk (by decide) e)
            have d0 := hb7.cell 2
            have y0 := hb7.free 2
            simp at d0
            have hk7 : Keep (fun k => w3.heap.size ≤ k) wz w7 := ((((Keep.refl (fun k => w3.heap.size ≤ k) wz).alloc _).drew)).trans happ.keep (fun b hb e => (ownsRow_lt ho6 b e).1)
            have HK7 := Lib.hid hk7
            have H7 := Lib.hid (h6.app_t (x := (i, 1)) happ.keep (by have := happ.own; simpa [rtestCells, rtestCell] using this))
            clear happ h6 hb7 ho6 hk7
            (try dsimp only)
            refine hK.out _ _ ?_ (fun hHeld => ?_)
            · exact HSQ.out _ HK7.out
            clear hK K; refine wpAnyH_letter fun ac12 HQA12 => ?_; replace e11 := po HQA12 e11; replace e9 := po HQA12 e9; replace e378 := po HQA12 e378; replace e380 := po HQA12 e380; replace e381 := po HQA12 e381; replace e382 := po HQA12 e382; replace e383 := po HQA12 e383; replace e384 := po HQA12 e384; replace e385 := po HQA12 e385; replace e386 := po HQA12 e386; replace e387 := po HQA12 e387; replace e388 := po HQA12 e388; replace e379 := po HQA12 e379; have e389 := put_at HQA12 HS.out (by decide); replace HS := Lib.hid (put_sz HQA12 HS.out)
            refine wpAnyH_take (i := 12) (oi := _) (v := ?_) rfl (by kernel_rfl) (by kernel_rfl) (by kernel_rfl) (fun _ _ _ h => h) (Or.inl ⟨by rfl, ?_⟩) hHeld ?_
            rotate_left
            · (intro w hSw; obtain ⟨q0, q1, q2⟩ := hSw; go_simp) <;> with_reducible rfl
            refine wpAnyH_letter fun ac13 HQA13 => ?_; replace e11 := po HQA13 e11; replace e9 := po HQA13 e9; replace e378 := po HQA13 e378; replace e380 := po HQA13 e380; replace e381 := po HQA13 e381; replace e382 := po HQA13 e382; replace e383 := po HQA13 e383; replace e384 := po HQA13 e384; replace e385 := po HQA13 e385; replace e386 := po HQA13 e386; replace e387 := po HQA13 e387; replace e388 := po HQA13 e388; replace e379 := po HQA13 e379; replace e389 := po HQA13 e389; have e390 := put_at HQA13 HS.out (by decide); replace HS := Lib.hid (put_sz HQA13 HS.out); refine wpAnyH_ready (rs := [13]) (by kernel_rfl) (by simp) ?_; refine AllReadyH.cons (o := _) rfl (fun K hK => ?_) AllReadyH.nil
            go_simp
            refine hK.out _ _ ?_ (fun hHeld => ?_)
            · exact HSQ.out _ (HK7.out.setCell _ _ (fun _ => HRO.out.ge))
            clear hK K
            refine wpAnyH_done (by kernel_rfl) ?_ _
            refine NoPanic.normal ?_
            rw [HQ1.out]
            have g0 := uE0 ac0 [378, 379, 380, 381, 382, 383, 384, 385, 386, 387, 388, 389, 390]
            have g1 := uE HQA1 g0 (by rfl); have g2 := uE HQA2 g1 (by rfl); have g3 := uE HQA3 g2 (by rfl); have g4 := uE HQA4 g3 (by rfl); have g5 := uE HQA5 g4 (by rfl); have g6 := uE HQA6 g5 (by rfl); have g7 := uE HQA7 g6 (by rfl); have g8 := uE HQA8 g7 (by rfl); have g9 := uE HQA9 g8 (by rfl); have g10 := uE HQA10 g9 (by rfl); have g11 := uE HQA11 g10 (by rfl); have g12 := uE HQA12 g11 (by rfl); have g13 := uE HQA13 g12 (by rfl)
            obtain ⟨f, hf⟩ := g13
            rw [HQA0.out] at hf
            refine hKq _ _ (Met.intro (hJq _ _ ?_))
            refine ⟨f 378, f 379, f 380, f 381, f 382, f 383, f 384, f 385, f 386, f 387, f 388, f 389, f 390, ⟨_, H7.out, HK7.out.setCell _ _ (fun _ => HRO.out.ge)⟩, hf.trans (by kernel_rfl)⟩
        case rest =>
          obtain ⟨vx, h8, hk8⟩ := hcut
          obtain ⟨ao7, cap7, hvx, _⟩ := ownsRow_shape h8.t
          subst hvx
          simp only [List.length_append, List.length_singleton] at h8
          obtain ⟨w8, rfl⟩ : ∃ w8, w8 = wc := ⟨_, rfl⟩
          have HK38 : Hid (Keep (fun k => w3.heap.size ≤ k) w3 w8) := Lib.hid ((HK35.out.mono (fun _ _ h => h.elim)).trans hk8 (fun _ _ h => h))
          have H8 := Lib.hid h8; clear h8 hk8 b0
          have b3 := H8.out.blk.cell 3
          simp at b3
          have HO8 : Hid ((w8.alloc (.cells #[.string s] 9)).ownsRow w3.heap.size 9 1 (.slice uno S.notes.length unc) S.notes.length (strCells S.notes)) := Lib.hid (ownsRow_keep H8.out.n ((Keep.refl (fun _ => False) w8).alloc _) (fun _ _ h => h))
          have HS8 := Lib.hid (Rd.new w8 1 1 [.string s] 9 rfl (by simp [Value.oneCell']) (by unfold maxLen; omega))
          go_upto_region 61 with (at_builtin; refine wpList_app (w := w8.alloc (.cells #[.string s] 9)) rfl (.tmp 392) (.tmp 394) 44 44 rfl 9 (.string ⟨#[]⟩) 1 16 Tryz.underlying44 info9 rfl HO8.out rfl (HS8.out.src Tryz.underlying44) rfl (by unfold maxLen; omega) (by omega) (Nat.le_trans HK38.out.size ((Keep.refl (fun _ => False) w8).alloc (.cells #[.string s] 9)).size) (fun v9 w9 happ => ?_); obtain ⟨ao9, cap9, rfl, _⟩ := ownsRow_shape happ.own; have h9 := H8.out.keep ((Keep.refl (fun _ => False) w8).alloc (.cells #[.string s] 9)) (fun _ h => h.elim); have hb9 := h9.blk.keep happ.keep (fun e => ownsRow_blk h9.n h9.blk (by decide) e); have d3 := hb9.cell 3; have y3 := hb9.free 3; simp at d3; have HKA := Lib.hid happ.keep; have H9 := Lib.hid (h9.app_n (x := s) happ.keep (by have := happ.own; simpa [strCells, List.map_append] using this)); clear happ h9 hb9)
          obtain ⟨w10, hw10⟩ : ∃ w10, w10 = w9.setCell ⟨nb, 3, none⟩ (.slice ao9 (S.notes.length + 1) cap9) := ⟨_, rfl⟩
          have HK10 : Hid (Keep (fun k => w3.heap.size ≤ k) w8 w10) := Lib.hid (by rw [hw10]; exact (((Keep.refl (fun k => w3.heap.size ≤ k) w8).alloc (.cells #[.string s] 9)).trans HKA.out (fun b hb e => (ownsRow_lt HO8.out b e).1)).setCell _ _ (fun _ => HRO.out.ge))
          have H8 := H9
          rw [← hw10] at H8 ⊢
          have HK38 := Lib.hid (HK38.out.trans HK10.out (fun _ _ h => h))
          clear hw10 d3 y3 b3
          have hrw := HR3.out.keep HK38.out (fun e => by have := HR3.out.lt; omega)
          have r0 := hrw.cell 0
          have r1 := hrw.cell 1
          have r2 := hrw.cell 2
          have r3 := hrw.cell 3
          have f0 := hrw.free 0
          have f1 := hrw.free 1
          have f2 := hrw.free 2
          have f3 := hrw.free 3
          have b0 := H8.out.blk.cell 0
          have b1 := H8.out.blk.cell 1
          have b2 := H8.out.blk.cell 2
          have b3 := H8.out.blk.cell 3
          simp at r0 r1 r2 r3 b0 b1 b2 b3
          have HRW := Lib.hid hrw; clear hrw
          go_wp2_with fail
          (try simp only [Exit.inBlock, Exit.then])
          refine rdo_back HRW.out rfl rfl rfl rfl rfl (fun wf hkf => ?_)
          exact rdo_yes (nb := nb) HF.out (H8.out.keep hkf (fun b e => by have := HR3.out.lt; omega)) ((HK3.out.trans HK38.out (fun k hk e => by have := HK3.out.size; omega)).trans hkf (fun k hk e => by omega)) HK3.out.size
      · have gd := lit_ne nm [103, 111, 111, 100] (fun h => hg (ByteArray.ext (Array.toList_inj.1 h)))
        have HF : Hid (doF runF S s = ⟨0, { S with tests := S.tests ++ [(i, 0)], notes := S.notes ++ [s] }, ⟨#[116, 101, 115, 116]⟩⟩) := Lib.hid (by rw [HDF.out, HNS.out, HLN.out]; unfold testF testS; simp only [List.getD_cons_zero]; rw [if_pos hi, if_neg hg]; rfl)
        clear hi hg
        go_wp2_with (go_at_call 96; refine (H96.out _ (HK3.out.trans HKC.out (fun _ _ h => h))).mono ?_; rintro e w5 ⟨rfl, hk5⟩; obtain ⟨t0, t1, t2, t3, r0, r1, r2, r3, f0, f1, f2, f3⟩ := HRC.out _ hk5; obtain ⟨a0, a1, a2⟩ := HAW.out _ hk5; have HKR := Lib.hid hk5; clear hk5)
        have HHC : Hid (∀ W, Keep (fun _ => False) wc W → W.cell? ⟨w.heap.size, 0, none⟩ = some (.slice lo S.lots.length lc) ∧ W.cell? ⟨w.heap.size, 1, none⟩ = some (.slice co S.contacts.length cc) ∧ W.cell? ⟨w.heap.size, 2, none⟩ = some (.slice to_ S.tests.length tc) ∧ W.cell? ⟨w.heap.size, 3, none⟩ = some (.slice no S.notes.length nc) ∧ W.cell? ⟨w2.heap.size, 2, none⟩ = some (.slice (some ⟨ng, no', none⟩) ns.length ocp) ∧ W.cell? ⟨ng, no', none⟩ = some (.int .i64 i)) := Lib.hid fun W hk => have x := HRC.out W hk; have y := HAW.out W hk; have z := HNW.out W hk; ⟨x.1, x.2.1, x.2.2.1, x.2.2.2.1, y.2.2, z⟩
        have HKR : Hid (Keep (fun _ => False) wc w5.drew) := Lib.hid HKR.out.drew
        go_region_held3 (fun W => W.cell? ⟨w.heap.size, 0, none⟩ = some (.slice lo S.lots.length lc) ∧ W.cell? ⟨w.heap.size, 1, none⟩ = some (.slice co S.contacts.length cc) ∧ W.cell? ⟨w.heap.size, 2, none⟩ = some (.slice to_ S.tests.length tc) ∧ W.cell? ⟨w.heap.size, 3, none⟩ = some (.slice no S.notes.length nc) ∧ W.cell? ⟨w2.heap.size, 2, none⟩ = some (.slice (some ⟨ng, no', none⟩) ns.length ocp) ∧ W.cell? ⟨ng, no', none⟩ = some (.int .i64 i)) ((refine HHC.out _ ?_; repeat (first | exact HKR.out | apply Keep.drew))) ((go_at_call 97; refine Calls.mono (has_any (S := S)) ?_; rintro e w6 ⟨rfl, hk6⟩; (first | rw [HI.out]); have HKR := Lib.hid (HKR.out.trans hk6 (fun _ _ h => h)); obtain ⟨t0, t1, t2, t3, r0, r1, r2, r3, f0, f1, f2, f3⟩ := HRC.out _ HKR.out; obtain ⟨a0, a1, a2⟩ := HAW.out _ HKR.out; have n0 := HNW.out _ HKR.out; clear hk6; dsimp only))
        go_wp2_with fail
        refine wp_world fun wz hwz => ?_
        have HKZ : Hid (Keep (fun _ => False) wc wz) := Lib.hid (by rw [hwz]; exact HKR.out)
        clear hwz
        have HR5 : Hid (RO w3.heap.size wz nb (.slice ulo S.lots.length ulc) (.slice uco S.contacts.length ucc) (.slice uto S.tests.length utc) (.slice uno S.notes.length unc) S) := Lib.hid (HRO.out.keep HKZ.out (fun _ h => h.elim))
        have HK35 : Hid (Keep (fun _ => False) w3 wz) := Lib.hid (HKC.out.trans HKZ.out (fun _ _ h => h))
        have HSQ : Hid (∀ W, Keep (fun k => w3.heap.size ≤ k) wz W → W.cell? ⟨w2.heap.size, 1, none⟩ = some (.string nm) ∧ W.cell? ⟨w2.heap.size, 2, none⟩ = some (.slice (some ⟨ng, no', none⟩) ns.length ocp) ∧ W.cell? ⟨ng, no', none⟩ = some (.int .i64 i)) := Lib.hid fun W hkW => by
          have hnk : Keep (fun k => w3.heap.size ≤ k) w3 W := (HK35.out.mono (fun _ _ h => h.elim)).trans hkW (fun _ _ h => h)
          have hB := HA3.out.keep hnk (fun e => by have := HA3.out.lt; omega)
          have hn := HNC.out _ (Keep.refl _ _)
          exact ⟨hB.cell 1, hB.cell 2, (hnk.cell (p := ⟨ng, no', none⟩) (World.block_lt_of_cell? w3 _ hn) (fun e => by have h1 := World.block_lt_of_cell? w3 _ hn; have h2 : w3.heap.size ≤ ng := e; have h3 : ng < w3.heap.size := h1; omega)).trans hn⟩
        have b0 : wz.cell? ⟨nb, 2, none⟩ = some (.slice uto S.tests.length utc) := HR5.out.blk.cell 2
        go_cut [] from 378 to 390 (fun wx => ∃ vx, RO w3.heap.size wx nb (.slice ulo S.lots.length ulc) (.slice uco S.contacts.length ucc) vx (.slice uno S.notes.length unc) { S with tests := S.tests ++ [(i, 0)] } ∧ Keep (fun k => w3.heap.size ≤ k) wz wx)
        case first =>
          rename_i Jq Kq hJq hKq
          refine region_letters fun Q1 hQ1 => ?_
          have HQ1 := Lib.hid hQ1; clear hQ1
          refine wp_region_noPanic ?_
          refine wp_region_held_drew (S := (fun W => W.cell? ⟨w2.heap.size, 1, none⟩ = some (.string nm) ∧ W.cell? ⟨w2.heap.size, 2, none⟩ = some (.slice (some ⟨ng, no', none⟩) ns.length ocp) ∧ W.cell? ⟨ng, no', none⟩ = some (.int .i64 i))) (by kernel_rfl) (HSQ.out _ ((Keep.refl _ _).drew)) (fun hHeld => ?_)
          refine wpAnyH_letter fun ac0 HQA0 => ?_
          have HS : Hid (ac0.tmps.size = 438) := Lib.hid (by rw [HQA0.out]; kernel_rfl)
          have e11 : ac0.tmps[11]?.getD undef = .pointer (some ⟨nb, 0, none⟩) := by rw [HQA0.out]; kernel_rfl
          have e9 : ac0.tmps[9]?.getD undef = .pointer (some ⟨w2.heap.size, 0, none⟩) := by rw [HQA0.out]; kernel_rfl
          refine wpAnyH_take (i := 0) (oi := _) (v := ?_) rfl (by kernel_rfl) (by kernel_rfl) (by kernel_rfl) (fun _ _ _ h => h) (Or.inl ⟨by rfl, ?_⟩) hHeld ?_
          rotate_left
          · (intro w hSw; obtain ⟨q0, q1, q2⟩ := hSw; go_simp) <;> with_reducible rfl
          refine wpAnyH_letter fun ac1 HQA1 => ?_; replace e11 := po HQA1 e11; replace e9 := po HQA1 e9; have e378 := put_at HQA1 HS.out (by decide); replace HS := Lib.hid (put_sz HQA1 HS.out)
          refine wpAnyH_take (i := 2) (oi := _) (v := ?_) rfl (by kernel_rfl) (by kernel_rfl) (by kernel_rfl) (fun _ _ _ h => h) (Or.inl ⟨by rfl, ?_⟩) hHeld ?_
          rotate_left
          · (intro w hSw; obtain ⟨q0, q1, q2⟩ := hSw; go_simp) <;> with_reducible rfl
          refine wpAnyH_letter fun ac2 HQA2 => ?_; replace e11 := po HQA2 e11; replace e9 := po HQA2 e9; replace e378 := po HQA2 e378; have e380 := put_at HQA2 HS.out (by decide); replace HS := Lib.hid (put_sz HQA2 HS.out)
          refine wpAnyH_take (i := 3) (oi := _) (v := ?_) rfl (by kernel_rfl) (by kernel_rfl) (by kernel_rfl) (fun _ _ _ h => h) (Or.inl ⟨by rfl, ?_⟩) hHeld ?_
          rotate_left
          · (intro w hSw; obtain ⟨q0, q1, q2⟩ := hSw; go_simp) <;> with_reducible rfl
          refine wpAnyH_letter fun ac3 HQA3 => ?_; replace e11 := po HQA3 e11; replace e9 := po HQA3 e9; replace e378 := po HQA3 e378; replace e380 := po HQA3 e380; have e381 := put_at HQA3 HS.out (by decide); replace HS := Lib.hid (put_sz HQA3 HS.out)
          refine wpAnyH_take (i := 4) (oi := _) (v := ?_) rfl (by kernel_rfl) (by kernel_rfl) (by kernel_rfl) (fun _ _ _ h => h) (Or.inl ⟨by rfl, ?_⟩) hHeld ?_
          rotate_left
          · (intro w hSw; obtain ⟨q0, q1, q2⟩ := hSw; go_simp) <;> with_reducible rfl
          refine wpAnyH_letter fun ac4 HQA4 => ?_; replace e11 := po HQA4 e11; replace e9 := po HQA4 e9; replace e378 := po HQA4 e378; replace e380 := po HQA4 e380; replace e381 := po HQA4 e381; have e382 := put_at HQA4 HS.out (by decide); replace HS := Lib.hid (put_sz HQA4 HS.out)
          refine wpAnyH_take (i := 5) (oi := _) (v := ?_) rfl (by kernel_rfl) (by kernel_rfl) (by kernel_rfl) (fun _ _ _ h => h) (Or.inl ⟨by rfl, ?_⟩) hHeld ?_
          rotate_left
          · (intro w hSw; obtain ⟨q0, q1, q2⟩ := hSw; go_simp) <;> with_reducible rfl
          refine wpAnyH_letter fun ac5 HQA5 => ?_; replace e11 := po HQA5 e11; replace e9 := po HQA5 e9; replace e378 := po HQA5 e378; replace e380 := po HQA5 e380; replace e381 := po HQA5 e381; replace e382 := po HQA5 e382; have e383 := put_at HQA5 HS.out (by decide); replace HS := Lib.hid (put_sz HQA5 HS.out)
          refine wpAnyH_take (i := 6) (oi := _) (v := ?_) rfl (by kernel_rfl) (by kernel_rfl) (by kernel_rfl) (fun _ _ _ h => h) (Or.inl ⟨by rfl, ?_⟩) hHeld ?_
          rotate_left
          · (intro w hSw; obtain ⟨q0, q1, q2⟩ := hSw; go_simp) <;> with_reducible rfl
          refine wpAnyH_letter fun ac6 HQA6 => ?_; replace e11 := po HQA6 e11; replace e9 := po HQA6 e9; replace e378 := po HQA6 e378; replace e380 := po HQA6 e380; replace e381 := po HQA6 e381; replace e382 := po HQA6 e382; replace e383 := po HQA6 e383; have e384 := put_at HQA6 HS.out (by decide); replace HS := Lib.hid (put_sz HQA6 HS.out)
          refine wpAnyH_take (i := 7) (oi := _) (v := ?_) rfl (by kernel_rfl) (by kernel_rfl) (by kernel_rfl) (fun _ _ _ h => h) (Or.inl ⟨by rfl, ?_⟩) hHeld ?_
          rotate_left
          · (intro w hSw; obtain ⟨q0, q1, q2⟩ := hSw; go_simp) <;> with_reducible rfl
          refine wpAnyH_letter fun ac7 HQA7 => ?_; replace e11 := po HQA7 e11; replace e9 := po HQA7 e9; replace e378 := po HQA7 e378; replace e380 := po HQA7 e380; replace e381 := po HQA7 e381; replace e382 := po HQA7 e382; replace e383 := po HQA7 e383; replace e384 := po HQA7 e384; have e385 := put_at HQA7 HS.out (by decide); replace HS := Lib.hid (put_sz HQA7 HS.out)
          refine wpAnyH_take (i := 8) (oi := _) (v := ?_) rfl (by kernel_rfl) (by kernel_rfl) (by kernel_rfl) (fun _ _ _ h => h) (Or.inl ⟨by rfl, ?_⟩) hHeld ?_
          rotate_left
          · (intro w hSw; obtain ⟨q0, q1, q2⟩ := hSw; go_simp) <;> with_reducible rfl
          refine wpAnyH_letter fun ac8 HQA8 => ?_; replace e11 := po HQA8 e11; replace e9 := po HQA8 e9; replace e378 := po HQA8 e378; replace e380 := po HQA8 e380; replace e381 := po HQA8 e381; replace e382 := po HQA8 e382; replace e383 := po HQA8 e383; replace e384 := po HQA8 e384; replace e385 := po HQA8 e385; have e386 := put_at HQA8 HS.out (by decide); replace HS := Lib.hid (put_sz HQA8 HS.out)
          refine wpAnyH_take (i := 9) (oi := _) (v := ?_) rfl (by kernel_rfl) (by kernel_rfl) (by kernel_rfl) (fun _ _ _ h => h) (Or.inl ⟨by rfl, ?_⟩) hHeld ?_
          rotate_left
          · (intro w hSw; obtain ⟨q0, q1, q2⟩ := hSw; go_simp) <;> with_reducible rfl
          refine wpAnyH_letter fun ac9 HQA9 => ?_; replace e11 := po HQA9 e11; replace e9 := po HQA9 e9; replace e378 := po HQA9 e378; replace e380 := po HQA9 e380; replace e381 := po HQA9 e381; replace e382 := po HQA9 e382; replace e383 := po HQA9 e383; replace e384 := po HQA9 e384; replace e385 := po HQA9 e385; replace e386 := po HQA9 e386; have e387 := put_at HQA9 HS.out (by decide); replace HS := Lib.hid (put_sz HQA9 HS.out)
          refine wpAnyH_ready (rs := [1, 10]) (by kernel_rfl) (by simp) ?_
          refine AllReadyH.cons (o := _) rfl (fun K hK => ?_) (AllReadyH.cons (o := _) rfl (fun K hK => ?_) AllReadyH.nil)
          · go_simp
            refine hK.out _ _ ?_ (fun hHeld => ?_)
            · exact HSQ.out _ ((Keep.refl _ _).drew)
            clear hK K; refine wpAnyH_letter fun ac10 HQA10 => ?_; replace e11 := po HQA10 e11; replace e9 := po HQA10 e9; replace e378 := po HQA10 e378; replace e380 := po HQA10 e380; replace e381 := po HQA10 e381; replace e382 := po HQA10 e382; replace e383 := po HQA10 e383; replace e384 := po HQA10 e384; replace e385 := po HQA10 e385; replace e386 := po HQA10 e386; replace e387 := po HQA10 e387; have e379 := put_at HQA10 HS.out (by decide); replace HS := Lib.hid (put_sz HQA10 HS.out); refine wpAnyH_ready (rs := [10]) (by kernel_rfl) (by simp) ?_; refine AllReadyH.cons (o := _) rfl (fun K hK => ?_) AllReadyH.nil
            go_simp
            refine hK.out _ _ ?_ (fun hHeld => ?_)
            · first | exact HSQ.out _ (((Keep.refl _ _).alloc _).drew) | exact HSQ.out _ (((Keep.refl _ _).drew).alloc _)
            clear hK K; refine wpAnyH_letter fun ac11 HQA11 => ?_; replace e11 := po HQA11 e11; replace e9 := po HQA11 e9; replace e378 := po HQA11 e378; replace e380 := po HQA11 e380; replace e381 := po HQA11 e381; replace e382 := po HQA11 e382; replace e383 := po HQA11 e383; replace e384 := po HQA11 e384; replace e385 := po HQA11 e385; replace e386 := po HQA11 e386; replace e387 := po HQA11 e387; replace e379 := po HQA11 e379; have e388 := put_at HQA11 HS.out (by decide); replace HS := Lib.hid (put_sz HQA11 HS.out); refine wpAnyH_ready (rs := [11]) (by kernel_rfl) (by simp) ?_; refine AllReadyH.cons (o := _) rfl (fun K hK => ?_) AllReadyH.nil
            rw [if_pos (by rfl)]
            have ho6 : ((wz.alloc (.cells #[.int .i64 i, .bool false] 178)).drew).ownsRow w3.heap.size 178 2 (.slice uto S.tests.length utc) S.tests.length (rtestCells S.tests) := ownsRow_keep HR5.out.t (((Keep.refl (fun _ => False) wz).alloc (.cells #[.int .i64 i, .bool false] 178)).drew) (fun _ _ h => h)
            refine oper_app (.tmp 379) (.tmp 388) 72 72 rfl 178 (.agg #[.int .i64 0, .bool false]) 2 16 Tryz.underlying72 info178 rfl ho6 (evals e379) (((Rd.new wz 2 1 [.int .i64 i, .bool false] 178 rfl (by simp [Value.oneCell']) (by unfold maxLen; omega)).keep ((Keep.refl (fun _ => False) _).drew) (fun _ _ h => h)).src Tryz.underlying72) (evals e388) (by unfold maxLen; omega) (by omega) (Nat.le_trans HK35.out.size (((Keep.refl (fun _ => False) wz).alloc (.cells #[.int .i64 i, .bool false] 178)).drew).size) (fun v' w7 happ => ?_)
            obtain ⟨ao7, cap7, rfl, _⟩ := ownsRow_shape happ.own
            have h6 := HR5.out.keep (((Keep.refl (fun _ => False) wz).alloc (.cells #[.int .i64 i, .bool false] 178)).drew) (fun _ h => h.elim)
            have hb7 := h6.blk.keep happ.keep (fun e => ownsRow_blk h6.t h6.blk (by decide) e)
            have d0 := hb7.cell 2
            have y0 := hb7.free 2
            simp at d0
            have hk7 : Keep (fun k => w3.heap.size ≤ k) wz w7 := ((((Keep.refl (fun k => w3.heap.size ≤ k) wz).alloc _).drew)).trans happ.keep (fun b hb e => (ownsRow_lt ho6 b e).1)
            have HK7 := Lib.hid hk7
            have H7 := Lib.hid (h6.app_t (x := (i, 0)) happ.keep (by have := happ.own; simpa [rtestCells, rtestCell] using this))
            clear happ h6 hb7 ho6 hk7
            (try dsimp only)
            refine hK.out _ _ ?_ (fun hHeld => ?_)
            · exact HSQ.out _ HK7.out
            clear hK K; refine wpAnyH_letter fun ac12 HQA12 => ?_; replace e11 := po HQA12 e11; replace e9 := po HQA12 e9; replace e378 := po HQA12 e378; replace e380 := po HQA12 e380; replace e381 := po HQA12 e381; replace e382 := po HQA12 e382; replace e383 := po HQA12 e383; replace e384 := po HQA12 e384; replace e385 := po HQA12 e385; replace e386 := po HQA12 e386; replace e387 := po HQA12 e387; replace e379 := po HQA12 e379; replace e388 := po HQA12 e388; have e389 := put_at HQA12 HS.out (by decide); replace HS := Lib.hid (put_sz HQA12 HS.out)
            refine wpAnyH_take (i := 12) (oi := _) (v := ?_) rfl (by kernel_rfl) (by kernel_rfl) (by kernel_rfl) (fun _ _ _ h => h) (Or.inl ⟨by rfl, ?_⟩) hHeld ?_
            rotate_left
            · (intro w hSw; obtain ⟨q0, q1, q2⟩ := hSw; go_simp) <;> with_reducible rfl
            refine wpAnyH_letter fun ac13 HQA13 => ?_; replace e11 := po HQA13 e11; replace e9 := po HQA13 e9; replace e378 := po HQA13 e378; replace e380 := po HQA13 e380; replace e381 := po HQA13 e381; replace e382 := po HQA13 e382; replace e383 := po HQA13 e383; replace e384 := po HQA13 e384; replace e385 := po HQA13 e385; replace e386 := po HQA13 e386; replace e387 := po HQA13 e387; replace e379 := po HQA13 e379; replace e388 := po HQA13 e388; replace e389 := po HQA13 e389; have e390 := put_at HQA13 HS.out (by decide); replace HS := Lib.hid (put_sz HQA13 HS.out); refine wpAnyH_ready (rs := [13]) (by kernel_rfl) (by simp) ?_; refine AllReadyH.cons (o := _) rfl (fun K hK => ?_) AllReadyH.nil
            go_simp
            refine hK.out _ _ ?_ (fun hHeld => ?_)
            · exact HSQ.out _ (HK7.out.setCell _ _ (fun _ => HRO.out.ge))
            clear hK K
            refine wpAnyH_done (by kernel_rfl) ?_ _
            refine NoPanic.normal ?_
            rw [HQ1.out]
            have g0 := uE0 ac0 [378, 379, 380, 381, 382, 383, 384, 385, 386, 387, 388, 389, 390]
            have g1 := uE HQA1 g0 (by rfl); have g2 := uE HQA2 g1 (by rfl); have g3 := uE HQA3 g2 (by rfl); have g4 := uE HQA4 g3 (by rfl); have g5 := uE HQA5 g4 (by rfl); have g6 := uE HQA6 g5 (by rfl); have g7 := uE HQA7 g6 (by rfl); have g8 := uE HQA8 g7 (by rfl); have g9 := uE HQA9 g8 (by rfl); have g10 := uE HQA10 g9 (by rfl); have g11 := uE HQA11 g10 (by rfl); have g12 := uE HQA12 g11 (by rfl); have g13 := uE HQA13 g12 (by rfl)
            obtain ⟨f, hf⟩ := g13
            rw [HQA0.out] at hf
            refine hKq _ _ (Met.intro (hJq _ _ ?_))
            refine ⟨f 378, f 379, f 380, f 381, f 382, f 383, f 384, f 385, f 386, f 387, f 388, f 389, f 390, ⟨_, H7.out, HK7.out.setCell _ _ (fun _ => HRO.out.ge)⟩, hf.trans (by kernel_rfl)⟩
          · go_simp
            refine hK.out _ _ ?_ (fun hHeld => ?_)
            · first | exact HSQ.out _ (((Keep.refl _ _).alloc _).drew) | exact HSQ.out _ (((Keep.refl _ _).drew).alloc _)
            clear hK K; refine wpAnyH_letter fun ac10 HQA10 => ?_; replace e11 := po HQA10 e11; replace e9 := po HQA10 e9; replace e378 := po HQA10 e378; replace e380 := po HQA10 e380; replace e381 := po HQA10 e381; replace e382 := po HQA10 e382; replace e383 := po HQA10 e383; replace e384 := po HQA10 e384; replace e385 := po HQA10 e385; replace e386 := po HQA10 e386; replace e387 := po HQA10 e387; have e388 := put_at HQA10 HS.out (by decide); replace HS := Lib.hid (put_sz HQA10 HS.out)
            have b0' : (wz.alloc (.cells #[.int .i64 i, .bool false] 178)).cell? ⟨nb, 2, none⟩ = some (.slice uto S.tests.length utc) := (HR5.out.keep ((Keep.refl (fun _ => False) wz).alloc (.cells #[.int .i64 i, .bool false] 178)) (fun _ h => h.elim)).blk.cell 2
            refine wpAnyH_ready (rs := [1]) (by kernel_rfl) (by simp) ?_; refine AllReadyH.cons (o := _) rfl (fun K hK => ?_) AllReadyH.nil
            go_simp
            refine hK.out _ _ ?_ (fun hHeld => ?_)
            · first | exact HSQ.out _ (((Keep.refl _ _).alloc _).drew) | exact HSQ.out _ (((Keep.refl _ _).drew).alloc _)
            clear hK K; refine wpAnyH_letter fun ac11 HQA11 => ?_; replace e11 := po HQA11 e11; replace e9 := po HQA11 e9; replace e378 := po HQA11 e378; replace e380 := po HQA11 e380; replace e381 := po HQA11 e381; replace e382 := po HQA11 e382; replace e383 := po HQA11 e383; replace e384 := po HQA11 e384; replace e385 := po HQA11 e385; replace e386 := po HQA11 e386; replace e387 := po HQA11 e387; replace e388 := po HQA11 e388; have e379 := put_at HQA11 HS.out (by decide); replace HS := Lib.hid (put_sz HQA11 HS.out); refine wpAnyH_ready (rs := [11]) (by kernel_rfl) (by simp) ?_; refine AllReadyH.cons (o := _) rfl (fun K hK => ?_) AllReadyH.nil
            rw [if_pos (by rfl)]
            have ho6 : ((wz.alloc (.cells #[.int .i64 i, .bool false] 178)).drew).ownsRow w3.heap.size 178 2 (.slice uto S.tests.length utc) S.tests.length (rtestCells S.tests) := ownsRow_keep HR5.out.t (((Keep.refl (fun _ => False) wz).alloc (.cells #[.int .i64 i, .bool false] 178)).drew) (fun _ _ h => h)
            refine oper_app (.tmp 379) (.tmp 388) 72 72 rfl 178 (.agg #[.int .i64 0, .bool false]) 2 16 Tryz.underlying72 info178 rfl ho6 (evals e379) (((Rd.new wz 2 1 [.int .i64 i, .bool false] 178 rfl (by simp [Value.oneCell']) (by unfold maxLen; omega)).keep ((Keep.refl (fun _ => False) _).drew) (fun _ _ h => h)).src Tryz.underlying72) (evals e388) (by unfold maxLen; omega) (by omega) (Nat.le_trans HK35.out.size (((Keep.refl (fun _ => False) wz).alloc (.cells #[.int .i64 i, .bool false] 178)).drew).size) (fun v' w7 happ => ?_)
            obtain ⟨ao7, cap7, rfl, _⟩ := ownsRow_shape happ.own
            have h6 := HR5.out.keep (((Keep.refl (fun _ => False) wz).alloc (.cells #[.int .i64 i, .bool false] 178)).drew) (fun _ h => h.elim)
            have hb7 := h6.blk.keep happ.keep (fun e => ownsRow_blk h6.t h6.blk (by decide) e)
            have d0 := hb7.cell 2
            have y0 := hb7.free 2
            simp at d0
            have hk7 : Keep (fun k => w3.heap.size ≤ k) wz w7 := ((((Keep.refl (fun k => w3.heap.size ≤ k) wz).alloc _).drew)).trans happ.keep (fun b hb e => (ownsRow_lt ho6 b e).1)
            have HK7 := Lib.hid hk7
            have H7 := Lib.hid (h6.app_t (x := (i, 0)) happ.keep (by have := happ.own; simpa [rtestCells, rtestCell] using this))
            clear happ h6 hb7 ho6 hk7
            (try dsimp only)
            refine hK.out _ _ ?_ (fun hHeld => ?_)
            · exact HSQ.out _ HK7.out
            clear hK K; refine wpAnyH_letter fun ac12 HQA12 => ?_; replace e11 := po HQA12 e11; replace e9 := po HQA12 e9; replace e378 := po HQA12 e378; replace e380 := po HQA12 e380; replace e381 := po HQA12 e381; replace e382 := po HQA12 e382; replace e383 := po HQA12 e383; replace e384 := po HQA12 e384; replace e385 := po HQA12 e385; replace e386 := po HQA12 e386; replace e387 := po HQA12 e387; replace e388 := po HQA12 e388; replace e379 := po HQA12 e379; have e389 := put_at HQA12 HS.out (by decide); replace HS := Lib.hid (put_sz HQA12 HS.out)
            refine wpAnyH_take (i := 12) (oi := _) (v := ?_) rfl (by kernel_rfl) (by kernel_rfl) (by kernel_rfl) (fun _ _ _ h => h) (Or.inl ⟨by rfl, ?_⟩) hHeld ?_
            rotate_left
            · (intro w hSw; obtain ⟨q0, q1, q2⟩ := hSw; go_simp) <;> with_reducible rfl
            refine wpAnyH_letter fun ac13 HQA13 => ?_; replace e11 := po HQA13 e11; replace e9 := po HQA13 e9; replace e378 := po HQA13 e378; replace e380 := po HQA13 e380; replace e381 := po HQA13 e381; replace e382 := po HQA13 e382; replace e383 := po HQA13 e383; replace e384 := po HQA13 e384; replace e385 := po HQA13 e385; replace e386 := po HQA13 e386; replace e387 := po HQA13 e387; replace e388 := po HQA13 e388; replace e379 := po HQA13 e379; replace e389 := po HQA13 e389; have e390 := put_at HQA13 HS.out (by decide); replace HS := Lib.hid (put_sz HQA13 HS.out); refine wpAnyH_ready (rs := [13]) (by kernel_rfl) (by simp) ?_; refine AllReadyH.cons (o := _) rfl (fun K hK => ?_) AllReadyH.nil
            go_simp
            refine hK.out _ _ ?_ (fun hHeld => ?_)
            · exact HSQ.out _ (HK7.out.setCell _ _ (fun _ => HRO.out.ge))
            clear hK K
            refine wpAnyH_done (by kernel_rfl) ?_ _
            refine NoPanic.normal ?_
            rw [HQ1.out]
            have g0 := uE0 ac0 [378, 379, 380, 381, 382, 383, 384, 385, 386, 387, 388, 389, 390]
            have g1 := uE HQA1 g0 (by rfl); have g2 := uE HQA2 g1 (by rfl); have g3 := uE HQA3 g2 (by rfl); have g4 := uE HQA4 g3 (by rfl); have g5 := uE HQA5 g4 (by rfl); have g6 := uE HQA6 g5 (by rfl); have g7 := uE HQA7 g6 (by rfl); have g8 := uE HQA8 g7 (by rfl); have g9 := uE HQA9 g8 (by rfl); have g10 := uE HQA10 g9 (by rfl); have g11 := uE HQA11 g10 (by rfl); have g12 := uE HQA12 g11 (by rfl); have g13 := uE HQA13 g12 (by rfl)
            obtain ⟨f, hf⟩ := g13
            rw [HQA0.out] at hf
            refine hKq _ _ (Met.intro (hJq _ _ ?_))
            refine ⟨f 378, f 379, f 380, f 381, f 382, f 383, f 384, f 385, f 386, f 387, f 388, f 389, f 390, ⟨_, H7.out, HK7.out.setCell _ _ (fun _ => HRO.out.ge)⟩, hf.trans (by kernel_rfl)⟩
        case rest =>
          obtain ⟨vx, h8, hk8⟩ := hcut
          obtain ⟨ao7, cap7, hvx, _⟩ := ownsRow_shape h8.t
          subst hvx
          simp only [List.length_append, List.length_singleton] at h8
          obtain ⟨w8, rfl⟩ : ∃ w8, w8 = wc := ⟨_, rfl⟩
          have HK38 : Hid (Keep (fun k => w3.heap.size ≤ k) w3 w8) := Lib.hid ((HK35.out.mono (fun _ _ h => h.elim)).trans hk8 (fun _ _ h => h))
          have H8 := Lib.hid h8; clear h8 hk8 b0
          have b3 := H8.out.blk.cell 3
          simp at b3
          have HO8 : Hid ((w8.alloc (.cells #[.string s] 9)).ownsRow w3.heap.size 9 1 (.slice uno S.notes.length unc) S.notes.length (strCells S.notes)) := Lib.hid (ownsRow_keep H8.out.n ((Keep.refl (fun _ => False) w8).alloc _) (fun _ _ h => h))
          have HS8 := Lib.hid (Rd.new w8 1 1 [.string s] 9 rfl (by simp [Value.oneCell']) (by unfold maxLen; omega))
          go_upto_region 61 with (at_builtin; refine wpList_app (w := w8.alloc (.cells #[.string s] 9)) rfl (.tmp 392) (.tmp 394) 44 44 rfl 9 (.string ⟨#[]⟩) 1 16 Tryz.underlying44 info9 rfl HO8.out rfl (HS8.out.src Tryz.underlying44) rfl (by unfold maxLen; omega) (by omega) (Nat.le_trans HK38.out.size ((Keep.refl (fun _ => False) w8).alloc (.cells #[.string s] 9)).size) (fun v9 w9 happ => ?_); obtain ⟨ao9, cap9, rfl, _⟩ := ownsRow_shape happ.own; have h9 := H8.out.keep ((Keep.refl (fun _ => False) w8).alloc (.cells #[.string s] 9)) (fun _ h => h.elim); have hb9 := h9.blk.keep happ.keep (fun e => ownsRow_blk h9.n h9.blk (by decide) e); have d3 := hb9.cell 3; have y3 := hb9.free 3; simp at d3; have HKA := Lib.hid happ.keep; have H9 := Lib.hid (h9.app_n (x := s) happ.keep (by have := happ.own; simpa [strCells, List.map_append] using this)); clear happ h9 hb9)
          obtain ⟨w10, hw10⟩ : ∃ w10, w10 = w9.setCell ⟨nb, 3, none⟩ (.slice ao9 (S.notes.length + 1) cap9) := ⟨_, rfl⟩
          have HK10 : Hid (Keep (fun k => w3.heap.size ≤ k) w8 w10) := Lib.hid (by rw [hw10]; exact (((Keep.refl (fun k => w3.heap.size ≤ k) w8).alloc (.cells #[.string s] 9)).trans HKA.out (fun b hb e => (ownsRow_lt HO8.out b e).1)).setCell _ _ (fun _ => HRO.out.ge))
          have H8 := H9
          rw [← hw10] at H8 ⊢
          have HK38 := Lib.hid (HK38.out.trans HK10.out (fun _ _ h => h))
          clear hw10 d3 y3 b3
          have hrw := HR3.out.keep HK38.out (fun e => by have := HR3.out.lt; omega)
          have r0 := hrw.cell 0
          have r1 := hrw.cell 1
          have r2 := hrw.cell 2
          have r3 := hrw.cell 3
          have f0 := hrw.free 0
          have f1 := hrw.free 1
          have f2 := hrw.free 2
          have f3 := hrw.free 3
          have b0 := H8.out.blk.cell 0
          have b1 := H8.out.blk.cell 1
          have b2 := H8.out.blk.cell 2
          have b3 := H8.out.blk.cell 3
          simp at r0 r1 r2 r3 b0 b1 b2 b3
          have HRW := Lib.hid hrw; clear hrw
          go_wp2_with fail
          (try simp only [Exit.inBlock, Exit.then])
          refine rdo_back HRW.out rfl rfl rfl rfl rfl (fun wf hkf => ?_)
          exact rdo_yes (nb := nb) HF.out (H8.out.keep hkf (fun b e => by have := HR3.out.lt; omega)) ((HK3.out.trans HK38.out (fun k hk e => by have := HK3.out.size; omega)).trans hkf (fun k hk e => by omega)) HK3.out.size
end Go.Proofs.YthdkamnclbfehaaGreatDoor
/- cubebref09.Do: close. -/
namespace Go.Proofs.YthdkamnclbfehaaGreatDoor
set_option linter.unusedSimpArgs false
set_option linter.unusedVariables false
set_option linter.unnecessarySimpa false
open Go.RowKit
set_option maxHeartbeats 20000000 in
set_option maxRecDepth 100000 in
theorem rdo_shut {w : World} {vl vc vt vn bv : Value} {S : St} {m : Nat} {s wd nm : ByteArray} {ns : List Int} (hG : Glob w) (hb : Rd w 1 bv S.bays.length (icells S.bays)) (hS : RSt w vl vc vt vn S) (hI : Inv m S) (hm : m ≤ 1000000) (hs : s.size ≤ 4096)
    (hread : readR s = some (wd, nm, ns)) (hwd : wd.data.toList = [99, 108, 111, 115, 101]) {i : Int} (hns : ns = [i]) (hi : numB i) (hdo : doF runF S s = shutF S ⟨ns, nm, true⟩) : Calls Tryz.prog 67 #[bv, .agg #[vl, vc, vt, vn], .string s] w (RDoPost w (doF runF S s)) := by
  have H95 : Hid (∀ W, Keep (fun _ => False) w W → Calls Tryz.prog 95 #[.string s] W (ReadSaid W s)) := Lib.hid fun W hk => rread_any (hG.keep hk) hs
  have H96 : Hid (∀ W, Keep (fun _ => False) w W → Calls Tryz.prog 96 #[.int .i64 ((S.lots.length : Int) + 1)] W (ItoaPost W ((S.lots.length : Int) + 1))) := Lib.hid fun W hk => itoa_any (hG.keep hk) (by omega) (by have := hI.l; omega)
  have HREAD := Lib.hid hread; have HNS := Lib.hid hns; have HWD := Lib.hid hwd; have HDF := Lib.hid hdo; clear hns hwd hdo; have HNI := Lib.hid hi; clear hi; have HG := Lib.hid hG; have HBV := Lib.hid hb; have HST := Lib.hid hS; have HI := Lib.hid hI
  have hl20 := hI.l
  have hc2 := hI.c
  have ht2 := hI.t
  have hn2 := hI.n
  obtain ⟨lo, lc, hvl, hlc, _⟩ := hS.l.shape
  obtain ⟨co, cc, hvc, hcc, _⟩ := hS.c.shape
  obtain ⟨to_, tc, hvt, htc, _⟩ := hS.t.shape
  obtain ⟨no, nc, hvn, hnc, _⟩ := hS.n.shape
  subst hvl hvc hvt hvn
  obtain ⟨cells, hcells⟩ : ∃ c : Array Value, c = #[.slice lo S.lots.length lc, .slice co S.contacts.length cc, .slice to_ S.tests.length tc, .slice no S.notes.length nc] := ⟨_, rfl⟩
  have hT0 : Blk ((w.alloc (.cells #[.slice lo S.lots.length lc, .slice co S.contacts.length cc, .slice to_ S.tests.length tc, .slice no S.notes.length nc] 74)).alloc (.cells #[.slice none 0 0, .slice none 0 0, .slice none 0 0, .slice none 0 0] 74)) w.heap.size #[.slice lo S.lots.length lc, .slice co S.contacts.length cc, .slice to_ S.tests.length tc, .slice no S.notes.length nc] 74 := (Blk.new _ _ _).alloc _
  have hR0 : Blk ((w.alloc (.cells #[.slice lo S.lots.length lc, .slice co S.contacts.length cc, .slice to_ S.tests.length tc, .slice no S.notes.length nc] 74)).alloc (.cells #[.slice none 0 0, .slice none 0 0, .slice none 0 0, .slice none 0 0] 74)) (w.heap.size + 1) #[.slice none 0 0, .slice none 0 0, .slice none 0 0, .slice none 0 0] 74 := by
    have := Blk.new (w.alloc (.cells #[.slice lo S.lots.length lc, .slice co S.contacts.length cc, .slice to_ S.tests.length tc, .slice no S.notes.length nc] 74)) #[.slice none 0 0, .slice none 0 0, .slice none 0 0, .slice none 0 0] 74
    rwa [World.size_alloc] at this
  have hK0 : Keep (fun _ => False) w ((w.alloc (.cells #[.slice lo S.lots.length lc, .slice co S.contacts.length cc, .slice to_ S.tests.length tc, .slice no S.notes.length nc] 74)).alloc (.cells #[.slice none 0 0, .slice none 0 0, .slice none 0 0, .slice none 0 0] 74)) := ((Keep.refl _ _).alloc _).alloc _
  have HT0 := Lib.hid hT0; have HR0 := Lib.hid hR0; have HK0 := Lib.hid hK0; clear hG hb hS hI hread hs hcells cells hT0 hR0 hK0
  go_enter Tryz.func67, Tryz.ntmps67
  go_upto_region 4 with (go_at_call 95; refine (H95.out _ HK0.out).mono ?_; rintro e w2 ⟨hk2, _, hsay⟩; obtain ⟨vn9, rfl, hrd9⟩ := hsay _ _ _ HREAD.out; obtain ⟨oo, ocp, rfl, _⟩ := hrd9.shape; have HK2 := Lib.hid hk2; have HRD9 := Lib.hid hrd9; clear hk2 hsay hrd9)
  obtain ⟨w3, hw3⟩ : ∃ w3, w3 = w2.alloc (.cells #[.string wd, .string nm, .slice oo ns.length ocp] 169) := ⟨_, rfl⟩
  have h23 : Keep (fun _ => False) w2 w3 := by rw [hw3]; exact (Keep.refl _ _).alloc _
  have HA3 : Hid (Blk w3 w2.heap.size #[.string wd, .string nm, .slice oo ns.length ocp] 169) := Lib.hid (by rw [hw3]; exact Blk.new _ _ _)
  have HT3 := Lib.hid ((HT0.out.keep HK2.out (fun h => h)).keep h23 (fun h => h))
  have HR3 := Lib.hid ((HR0.out.keep HK2.out (fun h => h)).keep h23 (fun h => h))
  have HK3 := Lib.hid ((HK0.out.trans HK2.out (fun _ _ h => h)).trans h23 (fun _ _ h => h))
  have HN3 := Lib.hid (HRD9.out.keep h23 (fun _ _ h => h))
  rw [← hw3]
  clear hw3 h23
  have HSX : Hid (∀ W, Keep (fun _ => False) w3 W → W.cell? ⟨w.heap.size, 0, none⟩ = some (.slice lo S.lots.length lc) ∧ W.cell? ⟨w.heap.size, 1, none⟩ = some (.slice co S.contacts.length cc) ∧ W.cell? ⟨w.heap.size, 2, none⟩ = some (.slice to_ S.tests.length tc) ∧ W.cell? ⟨w.heap.size, 3, none⟩ = some (.slice no S.notes.length nc) ∧ Keep (fun _ => False) w3 W) := Lib.hid fun W hk =>
    have h := HT3.out.keep hk (fun h => h)
    ⟨h.cell 0, h.cell 1, h.cell 2, h.cell 3, hk⟩
  go_cut [11] from 30 to 47 (fun s11 wx => ∃ nb ul uc ut un, s11 = .pointer (some ⟨nb, 0, none⟩) ∧ RO w3.heap.size wx nb ul uc ut un S ∧ Keep (fun _ => False) w3 wx)
  case first =>
    refine rdo_copy (w := w) (S := S) ⟨by kernel_rfl, by kernel_rfl, ⟨_, _, rfl⟩, ⟨_, _, rfl⟩, ⟨_, _, rfl⟩, ⟨_, _, rfl⟩, ⟨_, _, rfl⟩, ⟨_, _, rfl⟩, ⟨_, _, rfl⟩, ⟨_, _, rfl⟩, ⟨_, _, rfl⟩, ⟨_, _, rfl⟩, ⟨_, _, rfl⟩, ⟨_, _, rfl⟩, ⟨_, _, rfl⟩, ⟨_, _, rfl⟩, ⟨_, _, rfl⟩, ⟨_, _, rfl⟩, ⟨_, _, rfl⟩, ⟨_, _, rfl⟩, ⟨_, _, _, rfl, by kernel_rfl⟩⟩ (by kernel_rfl) (by rfl) (by omega) (by omega) (by omega) (by omega) HK3.out HST.out (fun W hk => have h := HSX.out W hk; ⟨h.1, h.2.1, h.2.2.1, h.2.2.2.1⟩) (fun f wx nb hf hro hkx => ?_)
    simp only [updL, copyKs, Act.put, List.setIfInBounds_toArray, List.set_cons_zero, List.set_cons_succ]
    have HRO := Lib.hid hro; clear hro
    go_wp2_with fail
    go_meet
    exact ⟨nb, _, _, _, _, rfl, HRO.out, hkx⟩
  case rest =>
    obtain ⟨nb, ul, uc, ut, un, rfl, hro, hkc⟩ := hcut
    obtain ⟨ulo, ulc, rfl, _⟩ := ownsRow_shape hro.l
    obtain ⟨uco, ucc, rfl, _⟩ := ownsRow_shape hro.c
    obtain ⟨uto, utc, rfl, _⟩ := ownsRow_shape hro.t
    obtain ⟨uno, unc, rfl, _⟩ := ownsRow_shape hro.n
    obtain ⟨x0, x1, x2, x3, _⟩ := rdo_cells (HT3.out.keep hkc (fun h => h)) (HR3.out.keep hkc (fun h => h))
    have HRO := Lib.hid hro; have HKC := Lib.hid hkc
    have HAC : Hid (∀ W, Keep (fun _ => False) w3 W → W.cell? ⟨w2.heap.size, 0, none⟩ = some (.string wd) ∧ W.cell? ⟨w2.heap.size, 1, none⟩ = some (.string nm) ∧ W.cell? ⟨w2.heap.size, 2, none⟩ = some (.slice oo ns.length ocp)) := Lib.hid fun W hk =>
      have h := HA3.out.keep hk (fun h => h)
      ⟨h.cell 0, h.cell 1, h.cell 2⟩
    clear hro hkc
    have hwd := HWD.out
    have hc0 := lit_ne wd [116, 97, 107, 101] (by rw [hwd]; decide)
    have hc1 := lit_ne wd [98, 108, 101, 110, 100] (by rw [hwd]; decide)
    have hc2 := lit_ne wd [112, 117, 116] (by rw [hwd]; decide)
    have hc3 := lit_ne wd [116, 111, 117, 99, 104] (by rw [hwd]; decide)
    have hc4 := lit_ne wd [116, 101, 115, 116] (by rw [hwd]; decide)
    clear hwd
    have HRC : Hid (∀ W, Keep (fun _ => False) wc W → _) := Lib.hid fun W hk => rdo_cells (HT3.out.keep (HKC.out.trans hk (fun _ _ h => h)) (fun h => h)) (HR3.out.keep (HKC.out.trans hk (fun _ _ h => h)) (fun h => h))
    have HAW : Hid (∀ W, Keep (fun _ => False) wc W → _) := Lib.hid fun W hk => HAC.out W (HKC.out.trans hk (fun _ _ h => h))
    have hn0 : ns.length = 1 := by rw [HNS.out]; rfl
    obtain ⟨ng, no', rfl, hnx⟩ := rd_ints HN3.out (by omega)
    have HNC : Hid (∀ W, Keep (fun _ => False) w3 W → W.cell? ⟨ng, no', none⟩ = some (.int .i64 i)) := Lib.hid fun W hk => by
      have h0 := hnx W 0 hk (by omega)
      rw [HNS.out] at h0
      exact h0
    clear hnx
    have HNW : Hid (∀ W, Keep (fun _ => False) wc W → _) := Lib.hid fun W hk => HNC.out W (HKC.out.trans hk (fun _ _ h => h))
    cases hi : hasLot S i with
    | false =>
      have HF : Hid (doF runF S s = ⟨5, S, bs []⟩) := Lib.hid (by rw [HDF.out, HNS.out]; unfold shutF; simp [hi])
      have HI := Lib.hid hi; clear hi
      go_wp2_with (go_at_call 96; refine (H96.out _ (HK3.out.trans HKC.out (fun _ _ h => h))).mono ?_; rintro e w5 ⟨rfl, hk5⟩; obtain ⟨t0, t1, t2, t3, r0, r1, r2, r3, f0, f1, f2, f3⟩ := HRC.out _ hk5; obtain ⟨a0, a1, a2⟩ := HAW.out _ hk5; have HKR := Lib.hid hk5; clear hk5)
      have HHC : Hid (∀ W, Keep (fun _ => False) wc W → W.cell? ⟨w.heap.size, 0, none⟩ = some (.slice lo S.lots.length lc) ∧ W.cell? ⟨w.heap.size, 1, none⟩ = some (.slice co S.contacts.length cc) ∧ W.cell? ⟨w.heap.size, 2, none⟩ = some (.slice to_ S.tests.length tc) ∧ W.cell? ⟨w.heap.size, 3, none⟩ = some (.slice no S.notes.length nc) ∧ W.cell? ⟨w2.heap.size, 2, none⟩ = some (.slice (some ⟨ng, no', none⟩) ns.length ocp) ∧ W.cell? ⟨ng, no', none⟩ = some (.int .i64 i)) := Lib.hid fun W hk => have x := HRC.out W hk; have y := HAW.out W hk; have z := HNW.out W hk; ⟨x.1, x.2.1, x.2.2.1, x.2.2.2.1, y.2.2, z⟩
      have HKR : Hid (Keep (fun _ => False) wc w5.drew) := Lib.hid HKR.out.drew
      go_region_held3 (fun W => W.cell? ⟨w.heap.size, 0, none⟩ = some (.slice lo S.lots.length lc) ∧ W.cell? ⟨w.heap.size, 1, none⟩ = some (.slice co S.contacts.length cc) ∧ W.cell? ⟨w.heap.size, 2, none⟩ = some (.slice to_ S.tests.length tc) ∧ W.cell? ⟨w.heap.size, 3, none⟩ = some (.slice no S.notes.length nc) ∧ W.cell? ⟨w2.heap.size, 2, none⟩ = some (.slice (some ⟨ng, no', none⟩) ns.length ocp) ∧ W.cell? ⟨ng, no', none⟩ = some (.int .i64 i)) ((refine HHC.out _ ?_; repeat (first | exact HKR.out | apply Keep.drew))) ((go_at_call 97; refine Calls.mono (has_any (S := S)) ?_; rintro e w6 ⟨rfl, hk6⟩; (first | rw [HI.out]); have HKR := Lib.hid (HKR.out.trans hk6 (fun _ _ h => h)); obtain ⟨t0, t1, t2, t3, r0, r1, r2, r3, f0, f1, f2, f3⟩ := HRC.out _ HKR.out; obtain ⟨a0, a1, a2⟩ := HAW.out _ HKR.out; have n0 := HNW.out _ HKR.out; clear hk6; dsimp only))
      go_wp2_with fail
      (try simp only [Exit.inBlock, Exit.then])
      refine rdo_back (HR3.out.keep (HKC.out.trans (HKR.out) (fun _ _ h => h)) (fun h => h)) rfl rfl rfl rfl rfl (fun wf hkf => ?_)
      exact rdo_no (by decide) HF.out HST.out (((HK3.out.trans HKC.out (fun _ _ h => h)).trans (HKR.out) (fun _ _ h => h)).trans hkf (fun k hk e => by omega))
    | true =>
      have HI := Lib.hid hi
      obtain ⟨k, rfl, hk⟩ := hasLot_at hi
      obtain ⟨X, hX⟩ : ∃ X, S.lots[k]? = some X := ⟨_, List.getElem?_eq_getElem hk⟩
      obtain ⟨lg, lof, rfl, hlx⟩ := HST.out.lot (by omega)
      have HLC : Hid (∀ W, Keep (fun _ => False) wc W → _) := Lib.hid fun W hw => hlx W k X ((HK3.out.trans HKC.out (fun _ _ h => h)).trans hw (fun _ _ h => h)) hX
      obtain ⟨ug, rfl⟩ := HRO.out.lrow (by omega)
      have HX := Lib.hid hX
      have hget : S.lots[((k : Int) + 1 - 1).toNat]? = some X := by rw [show ((k : Int) + 1 - 1).toNat = k by omega]; exact hX
      have hwr : IntKind.i64.wrap ((k : Int) + 1 - 1) = (k : Int) := by rw [show (k : Int) + 1 - 1 = k by omega]; exact IntWalk.i64_in _ (by omega)
      have hkI : ((k : Int) < (S.lots.length : Int)) = True := eq_true (by omega)
      have hwk2 : IntKind.i64.wrap (k : Int) = (k : Int) := IntWalk.i64_in _ (by omega)
      clear hlx hX
      cases hcl : X.closed with
      | true =>
        have HF : Hid (doF runF S s = ⟨7, S, bs []⟩) := Lib.hid (by rw [HDF.out, HNS.out]; unfold shutF; simp only [List.getD_cons_zero]; rw [if_pos hi, hget]; simp only []; rw [if_pos hcl])
        have HCL := Lib.hid hcl; clear hi hget hcl
        go_wp2_with (go_at_call 96; refine (H96.out _ (HK3.out.trans HKC.out (fun _ _ h => h))).mono ?_; rintro e w5 ⟨rfl, hk5⟩; obtain ⟨t0, t1, t2, t3, r0, r1, r2, r3, f0, f1, f2, f3⟩ := HRC.out _ hk5; obtain ⟨a0, a1, a2⟩ := HAW.out _ hk5; have HKR := Lib.hid hk5; clear hk5)
        have HHC : Hid (∀ W, Keep (fun _ => False) wc W → W.cell? ⟨w.heap.size, 0, none⟩ = some (.slice (some ⟨lg, lof, none⟩) S.lots.length lc) ∧ W.cell? ⟨w.heap.size, 1, none⟩ = some (.slice co S.contacts.length cc) ∧ W.cell? ⟨w.heap.size, 2, none⟩ = some (.slice to_ S.tests.length tc) ∧ W.cell? ⟨w.heap.size, 3, none⟩ = some (.slice no S.notes.length nc) ∧ W.cell? ⟨w2.heap.size, 2, none⟩ = some (.slice (some ⟨ng, no', none⟩) ns.length ocp) ∧ W.cell? ⟨ng, no', none⟩ = some (.int .i64 ((k : Int) + 1))) := Lib.hid fun W hk => have x := HRC.out W hk; have y := HAW.out W hk; have z := HNW.out W hk; ⟨x.1, x.2.1, x.2.2.1, x.2.2.2.1, y.2.2, z⟩
        have HKR : Hid (Keep (fun _ => False) wc w5.drew) := Lib.hid HKR.out.drew
        go_region_held3 (fun W => W.cell? ⟨w.heap.size, 0, none⟩ = some (.slice (some ⟨lg, lof, none⟩) S.lots.length lc) ∧ W.cell? ⟨w.heap.size, 1, none⟩ = some (.slice co S.contacts.length cc) ∧ W.cell? ⟨w.heap.size, 2, none⟩ = some (.slice to_ S.tests.length tc) ∧ W.cell? ⟨w.heap.size, 3, none⟩ = some (.slice no S.notes.length nc) ∧ W.cell? ⟨w2.heap.size, 2, none⟩ = some (.slice (some ⟨ng, no', none⟩) ns.length ocp) ∧ W.cell? ⟨ng, no', none⟩ = some (.int .i64 ((k : Int) + 1))) ((refine HHC.out _ ?_; repeat (first | exact HKR.out | apply Keep.drew))) ((go_at_call 97; refine Calls.mono (has_any (S := S)) ?_; rintro e w6 ⟨rfl, hk6⟩; (first | rw [HI.out]); have HKR := Lib.hid (HKR.out.trans hk6 (fun _ _ h => h)); obtain ⟨t0, t1, t2, t3, r0, r1, r2, r3, f0, f1, f2, f3⟩ := HRC.out _ HKR.out; obtain ⟨a0, a1, a2⟩ := HAW.out _ HKR.out; have n0 := HNW.out _ HKR.out; clear hk6; dsimp only))
        have l3 := (HLC.out _ HKR.out).2.2.2
        rw [HCL.out] at l3
        go_wp2_with fail
        go_quiet (fail)
        go_wp2_with fail
        (try simp only [Exit.inBlock, Exit.then])
        refine rdo_back (HR3.out.keep (HKC.out.trans (HKR.out.drewN nq) (fun _ _ h => h)) (fun h => h)) rfl rfl rfl rfl rfl (fun wf hkf => ?_)
        exact rdo_no (by decide) HF.out HST.out (((HK3.out.trans HKC.out (fun _ _ h => h)).trans (HKR.out.drewN nq) (fun _ _ h => h)).trans hkf (fun k hk e => by omega))
      | false =>
        have HF : Hid (doF runF S s = ⟨0, { S with lots := S.lots.set k { X with bay := -1, closed := true } }, ⟨#[99, 108, 111, 115, 101]⟩⟩) := Lib.hid (by rw [HDF.out, HNS.out]; unfold shutF; simp only [List.getD_cons_zero]; rw [if_pos hi, hget]; simp only []; rw [if_neg (by rw [hcl]; decide), show ((k : Int) + 1 - 1).toNat = k by omega]; rfl)
        have HCL := Lib.hid hcl; clear hi hget hcl
        go_wp2_with (go_at_call 96; refine (H96.out _ (HK3.out.trans HKC.out (fun _ _ h => h))).mono ?_; rintro e w5 ⟨rfl, hk5⟩; obtain ⟨t0, t1, t2, t3, r0, r1, r2, r3, f0, f1, f2, f3⟩ := HRC.out _ hk5; obtain ⟨a0, a1, a2⟩ := HAW.out _ hk5; have HKR := Lib.hid hk5; clear hk5)
        have HHC : Hid (∀ W, Keep (fun _ => False) wc W → W.cell? ⟨w.heap.size, 0, none⟩ = some (.slice (some ⟨lg, lof, none⟩) S.lots.length lc) ∧ W.cell? ⟨w.heap.size, 1, none⟩ = some (.slice co S.contacts.length cc) ∧ W.cell? ⟨w.heap.size, 2, none⟩ = some (.slice to_ S.tests.length tc) ∧ W.cell? ⟨w.heap.size, 3, none⟩ = some (.slice no S.notes.length nc) ∧ W.cell? ⟨w2.heap.size, 2, none⟩ = some (.slice (some ⟨ng, no', none⟩) ns.length ocp) ∧ W.cell? ⟨ng, no', none⟩ = some (.int .i64 ((k : Int) + 1))) := Lib.hid fun W hk => have x := HRC.out W hk; have y := HAW.out W hk; have z := HNW.out W hk; ⟨x.1, x.2.1, x.2.2.1, x.2.2.2.1, y.2.2, z⟩
        have HKR : Hid (Keep (fun _ => False) wc w5.drew) := Lib.hid HKR.out.drew
        go_region_held3 (fun W => W.cell? ⟨w.heap.size, 0, none⟩ = some (.slice (some ⟨lg, lof, none⟩) S.lots.length lc) ∧ W.cell? ⟨w.heap.size, 1, none⟩ = some (.slice co S.contacts.length cc) ∧ W.cell? ⟨w.heap.size, 2, none⟩ = some (.slice to_ S.tests.length tc) ∧ W.cell? ⟨w.heap.size, 3, none⟩ = some (.slice no S.notes.length nc) ∧ W.cell? ⟨w2.heap.size, 2, none⟩ = some (.slice (some ⟨ng, no', none⟩) ns.length ocp) ∧ W.cell? ⟨ng, no', none⟩ = some (.int .i64 ((k : Int) + 1))) ((refine HHC.out _ ?_; repeat (first | exact HKR.out | apply Keep.drew))) ((go_at_call 97; refine Calls.mono (has_any (S := S)) ?_; rintro e w6 ⟨rfl, hk6⟩; (first | rw [HI.out]); have HKR := Lib.hid (HKR.out.trans hk6 (fun _ _ h => h)); obtain ⟨t0, t1, t2, t3, r0, r1, r2, r3, f0, f1, f2, f3⟩ := HRC.out _ HKR.out; obtain ⟨a0, a1, a2⟩ := HAW.out _ HKR.out; have n0 := HNW.out _ HKR.out; clear hk6; dsimp only))
        have l3 := (HLC.out _ HKR.out).2.2.2
        rw [HCL.out] at l3
        go_wp2_with fail
        go_quiet (fail)
        go_wp2_with fail
        refine wp_world fun wz hwz => ?_
        have HKZ : Hid (Keep (fun _ => False) wc wz) := Lib.hid (by rw [hwz]; exact HKR.out.drewN nq)
        clear hwz; clear t0 t1 t2 t3 r0 r1 r2 r3 f0 f1 f2 f3 a0 a1 a2 n0 l3
        have hr5 := HRO.out.keep HKZ.out (fun _ h => h.elim)
        have b0 := hr5.blk.cell 0
        simp at b0
        obtain ⟨a0, a1, a2⟩ := HAW.out _ HKZ.out
        have n0 := HNW.out _ HKZ.out
        obtain ⟨⟨_, _, _, l3⟩, hfr⟩ := hr5.lot HX.out
        have y3 := hfr (k * 4 + 3)
        have HR5 := Lib.hid hr5; clear hr5 hfr
        have HSQ : Hid (∀ W, Keep (fun j => j = ug) wz W → W.cell? ⟨nb, 0, none⟩ = some (.slice (some ⟨ug, 0, none⟩) S.lots.length ulc) ∧ W.cell? ⟨w2.heap.size, 2, none⟩ = some (.slice (some ⟨ng, no', none⟩) ns.length ocp) ∧ W.cell? ⟨ng, no', none⟩ = some (.int .i64 ((k : Int) + 1))) := Lib.hid fun W hkW => by
          have hug := (ownsRow_lt HR5.out.l ug rfl).1
          have hne : ug ≠ nb := fun e => ownsRow_blk HR5.out.l HR5.out.blk (by decide) (by rw [e]; rfl)
          have h3 := HA3.out.lt
          have h4 : ng < w3.heap.size := World.block_lt_of_cell? w3 _ (HNC.out _ (Keep.refl _ _))
          exact ⟨(hkW.cell (p := ⟨nb, 0, none⟩) (World.block_lt_of_cell? _ _ b0) (fun e => hne (Eq.symm e))).trans b0, (hkW.cell (p := ⟨w2.heap.size, 2, none⟩) (World.block_lt_of_cell? _ _ a2) (fun e => by have e2 : w2.heap.size = ug := e; omega)).trans a2, (hkW.cell (p := ⟨ng, no', none⟩) (World.block_lt_of_cell? _ _ n0) (fun e => by have e2 : ng = ug := e; omega)).trans n0⟩
        go_cut [] from 419 to 427 (fun wx => RO w3.heap.size wx nb (.slice (some ⟨ug, 0, none⟩) S.lots.length ulc) (.slice uco S.contacts.length ucc) (.slice uto S.tests.length utc) (.slice uno S.notes.length unc) { S with lots := S.lots.set k { X with closed := true } } ∧ Keep (fun j => w3.heap.size ≤ j) wz wx)
        case first =>
          rename_i Jq Kq hJq hKq
          refine region_letters fun Q1 hQ1 => ?_
          have HQ1 := Lib.hid hQ1; clear hQ1
          refine wp_region_noPanic ?_
          refine wp_region_held_drew (S := (fun W => W.cell? ⟨nb, 0, none⟩ = some (.slice (some ⟨ug, 0, none⟩) S.lots.length ulc) ∧ W.cell? ⟨w2.heap.size, 2, none⟩ = some (.slice (some ⟨ng, no', none⟩) ns.length ocp) ∧ W.cell? ⟨ng, no', none⟩ = some (.int .i64 ((k : Int) + 1)))) (by kernel_rfl) (HSQ.out _ ((Keep.refl _ _).drew)) (fun hHeld => ?_)
          refine wpAnyH_letter fun ac0 HQA0 => ?_
          have HS : Hid (ac0.tmps.size = 438) := Lib.hid (by rw [HQA0.out]; kernel_rfl)
          have e11 : ac0.tmps[11]?.getD undef = .pointer (some ⟨nb, 0, none⟩) := by rw [HQA0.out]; kernel_rfl
          have e9 : ac0.tmps[9]?.getD undef = .pointer (some ⟨w2.heap.size, 0, none⟩) := by rw [HQA0.out]; kernel_rfl
          refine wpAnyH_take (i := 0) (oi := _) (v := ?_) rfl (by kernel_rfl) (by kernel_rfl) (by kernel_rfl) (fun _ _ _ h => h) (Or.inl ⟨by rfl, ?_⟩) hHeld ?_
          rotate_left
          · (intro w hSw; obtain ⟨q0, q1, q2⟩ := hSw; go_simp) <;> with_reducible rfl
          refine wpAnyH_letter fun ac1 HQA1 => ?_; replace e11 := po HQA1 e11; replace e9 := po HQA1 e9; have e419 := put_at HQA1 HS.out (by decide); replace HS := Lib.hid (put_sz HQA1 HS.out)
          refine wpAnyH_take (i := 1) (oi := _) (v := ?_) rfl (by kernel_rfl) (by kernel_rfl) (by kernel_rfl) (fun _ _ _ h => h) (Or.inl ⟨by rfl, ?_⟩) hHeld ?_
          rotate_left
          · (intro w hSw; obtain ⟨q0, q1, q2⟩ := hSw; go_simp) <;> with_reducible rfl
          refine wpAnyH_letter fun ac2 HQA2 => ?_; replace e11 := po HQA2 e11; replace e9 := po HQA2 e9; replace e419 := po HQA2 e419; have e420 := put_at HQA2 HS.out (by decide); replace HS := Lib.hid (put_sz HQA2 HS.out)
          refine wpAnyH_take (i := 2) (oi := _) (v := ?_) rfl (by kernel_rfl) (by kernel_rfl) (by kernel_rfl) (fun _ _ _ h => h) (Or.inl ⟨by rfl, ?_⟩) hHeld ?_
          rotate_left
          · (intro w hSw; obtain ⟨q0, q1, q2⟩ := hSw; go_simp) <;> with_reducible rfl
          refine wpAnyH_letter fun ac3 HQA3 => ?_; replace e11 := po HQA3 e11; replace e9 := po HQA3 e9; replace e419 := po HQA3 e419; replace e420 := po HQA3 e420; have e421 := put_at HQA3 HS.out (by decide); replace HS := Lib.hid (put_sz HQA3 HS.out)
          refine wpAnyH_take (i := 3) (oi := _) (v := ?_) rfl (by kernel_rfl) (by kernel_rfl) (by kernel_rfl) (fun _ _ _ h => h) (Or.inl ⟨by rfl, ?_⟩) hHeld ?_
          rotate_left
          · (intro w hSw; obtain ⟨q0, q1, q2⟩ := hSw; go_simp) <;> with_reducible rfl
          refine wpAnyH_letter fun ac4 HQA4 => ?_; replace e11 := po HQA4 e11; replace e9 := po HQA4 e9; replace e419 := po HQA4 e419; replace e420 := po HQA4 e420; replace e421 := po HQA4 e421; have e422 := put_at HQA4 HS.out (by decide); replace HS := Lib.hid (put_sz HQA4 HS.out)
          refine wpAnyH_take (i := 4) (oi := _) (v := ?_) rfl (by kernel_rfl) (by kernel_rfl) (by kernel_rfl) (fun _ _ _ h => h) (Or.inl ⟨by rfl, ?_⟩) hHeld ?_
          rotate_left
          · (intro w hSw; obtain ⟨q0, q1, q2⟩ := hSw; go_simp) <;> with_reducible rfl
          refine wpAnyH_letter fun ac5 HQA5 => ?_; replace e11 := po HQA5 e11; replace e9 := po HQA5 e9; replace e419 := po HQA5 e419; replace e420 := po HQA5 e420; replace e421 := po HQA5 e421; replace e422 := po HQA5 e422; have e423 := put_at HQA5 HS.out (by decide); replace HS := Lib.hid (put_sz HQA5 HS.out)
          refine wpAnyH_take (i := 5) (oi := _) (v := ?_) rfl (by kernel_rfl) (by kernel_rfl) (by kernel_rfl) (fun _ _ _ h => h) (Or.inl ⟨by rfl, ?_⟩) hHeld ?_
          rotate_left
          · (intro w hSw; obtain ⟨q0, q1, q2⟩ := hSw; go_simp) <;> with_reducible rfl
          refine wpAnyH_letter fun ac6 HQA6 => ?_; replace e11 := po HQA6 e11; replace e9 := po HQA6 e9; replace e419 := po HQA6 e419; replace e420 := po HQA6 e420; replace e421 := po HQA6 e421; replace e422 := po HQA6 e422; replace e423 := po HQA6 e423; have e424 := put_at HQA6 HS.out (by decide); replace HS := Lib.hid (put_sz HQA6 HS.out)
          refine wpAnyH_take (i := 6) (oi := _) (v := ?_) rfl (by kernel_rfl) (by kernel_rfl) (by kernel_rfl) (fun _ _ _ h => h) (Or.inl ⟨by rfl, ?_⟩) hHeld ?_
          rotate_left
          · (intro w hSw; obtain ⟨q0, q1, q2⟩ := hSw; go_simp) <;> with_reducible rfl
          refine wpAnyH_letter fun ac7 HQA7 => ?_; replace e11 := po HQA7 e11; replace e9 := po HQA7 e9; replace e419 := po HQA7 e419; replace e420 := po HQA7 e420; replace e421 := po HQA7 e421; replace e422 := po HQA7 e422; replace e423 := po HQA7 e423; replace e424 := po HQA7 e424; have e425 := put_at HQA7 HS.out (by decide); replace HS := Lib.hid (put_sz HQA7 HS.out)
          refine wpAnyH_take (i := 7) (oi := _) (v := ?_) rfl (by kernel_rfl) (by kernel_rfl) (by kernel_rfl) (fun _ _ _ h => h) (Or.inl ⟨by rfl, ?_⟩) hHeld ?_
          rotate_left
          · (intro w hSw; obtain ⟨q0, q1, q2⟩ := hSw; go_simp) <;> with_reducible rfl
          refine wpAnyH_letter fun ac8 HQA8 => ?_; replace e11 := po HQA8 e11; replace e9 := po HQA8 e9; replace e419 := po HQA8 e419; replace e420 := po HQA8 e420; replace e421 := po HQA8 e421; replace e422 := po HQA8 e422; replace e423 := po HQA8 e423; replace e424 := po HQA8 e424; replace e425 := po HQA8 e425; have e426 := put_at HQA8 HS.out (by decide); replace HS := Lib.hid (put_sz HQA8 HS.out)
          refine wpAnyH_take (i := 8) (oi := _) (v := ?_) rfl (by kernel_rfl) (by kernel_rfl) (by kernel_rfl) (fun _ _ _ h => h) (Or.inl ⟨by rfl, ?_⟩) hHeld ?_
          rotate_left
          · (intro w hSw; obtain ⟨q0, q1, q2⟩ := hSw; go_simp) <;> with_reducible rfl
          refine wpAnyH_letter fun ac9 HQA9 => ?_; replace e11 := po HQA9 e11; replace e9 := po HQA9 e9; replace e419 := po HQA9 e419; replace e420 := po HQA9 e420; replace e421 := po HQA9 e421; replace e422 := po HQA9 e422; replace e423 := po HQA9 e423; replace e424 := po HQA9 e424; replace e425 := po HQA9 e425; replace e426 := po HQA9 e426; have e427 := put_at HQA9 HS.out (by decide); replace HS := Lib.hid (put_sz HQA9 HS.out); refine wpAnyH_ready (rs := [9]) (by kernel_rfl) (by simp) ?_; refine AllReadyH.cons (o := _) rfl (fun K hK => ?_) AllReadyH.nil
          go_simp
          refine hK.out _ _ ?_ (fun hHeld => ?_)
          · exact HSQ.out _ (((Keep.refl _ _).drew).setCell _ _ (fun _ => rfl))
          clear hK K
          refine wpAnyH_done (by kernel_rfl) ?_ _
          refine NoPanic.normal ?_
          rw [HQ1.out]
          have g0 := uE0 ac0 [419, 420, 421, 422, 423, 424, 425, 426, 427]
          have g1 := uE HQA1 g0 (by rfl); have g2 := uE HQA2 g1 (by rfl); have g3 := uE HQA3 g2 (by rfl); have g4 := uE HQA4 g3 (by rfl); have g5 := uE HQA5 g4 (by rfl); have g6 := uE HQA6 g5 (by rfl); have g7 := uE HQA7 g6 (by rfl); have g8 := uE HQA8 g7 (by rfl); have g9 := uE HQA9 g8 (by rfl)
          obtain ⟨f, hf⟩ := g9
          rw [HQA0.out] at hf
          refine hKq _ _ (Met.intro (hJq _ _ ?_))
          refine ⟨f 419, f 420, f 421, f 422, f 423, f 424, f 425, f 426, f 427, ⟨(HR5.out.setLot HX.out 3 (by omega) { X with closed := true } (.bool true) rfl).1.keep ((Keep.refl (fun _ => False) _).drew) (fun _ h => h.elim), ((HR5.out.setLot HX.out 3 (by omega) { X with closed := true } (.bool true) rfl).2.1.drew).mono (fun j _ e => by rw [e]; exact (HR5.out.setLot HX.out 3 (by omega) { X with closed := true } (.bool true) rfl).2.2)⟩, hf.trans (by kernel_rfl)⟩
        case rest =>
          obtain ⟨h7, hk7⟩ := hcut
          clear b0 a0 a1 a2 n0 l3 y3 HSQ
          obtain ⟨wy, rfl⟩ : ∃ wy, wy = wc := ⟨_, rfl⟩
          have HK7 := Lib.hid hk7
          have HK37 : Hid (Keep (fun j => w3.heap.size ≤ j) w3 wy) := Lib.hid (((HKC.out.trans HKZ.out (fun _ _ h => h)).mono (fun _ _ h => h.elim)).trans HK7.out (fun _ _ h => h))
          have hB := HA3.out.keep HK37.out (fun e => by have := HA3.out.lt; omega)
          have a2 : wy.cell? ⟨w2.heap.size, 2, none⟩ = some (.slice (some ⟨ng, no', none⟩) ns.length ocp) := hB.cell 2
          clear hB
          have n0 : wy.cell? ⟨ng, no', none⟩ = some (.int .i64 ((k : Int) + 1)) := by
            have hn := HNC.out _ (Keep.refl _ _)
            have hnk := HK37.out
            exact (hnk.cell (p := ⟨ng, no', none⟩) (World.block_lt_of_cell? w3 _ hn) (fun e => by have h1 := World.block_lt_of_cell? w3 _ hn; have h2 : w3.heap.size ≤ ng := e; have h3 : ng < w3.heap.size := h1; omega)).trans hn
          have hX2 : (S.lots.set k { X with closed := true })[k]? = some { X with closed := true } := by simp [hk]
          have h7' : RO w3.heap.size wy nb (.slice (some ⟨ug, 0, none⟩) (S.lots.set k { X with closed := true }).length ulc) (.slice uco S.contacts.length ucc) (.slice uto S.tests.length utc) (.slice uno S.notes.length unc) { S with lots := S.lots.set k { X with closed := true } } := by simpa using h7
          obtain ⟨⟨_, _, l2, _⟩, hfr⟩ := h7'.lot (S := { S with lots := S.lots.set k { X with closed := true } }) hX2
          have y2 := hfr (k * 4 + 2)
          have H7 := Lib.hid h7'
          clear hfr h7 h7' hk7; have HX2 := Lib.hid hX2; clear hX2
          have b0 : wy.cell? ⟨nb, 0, none⟩ = some (.slice (some ⟨ug, 0, none⟩) S.lots.length ulc) := by have h1 := H7.out.blk.cell 0; simpa using h1
          go_wp2_with fail
          have HSQ : Hid (∀ W, Keep (fun j => j = ug) wy W → W.cell? ⟨nb, 0, none⟩ = some (.slice (some ⟨ug, 0, none⟩) S.lots.length ulc) ∧ W.cell? ⟨w2.heap.size, 2, none⟩ = some (.slice (some ⟨ng, no', none⟩) ns.length ocp) ∧ W.cell? ⟨ng, no', none⟩ = some (.int .i64 ((k : Int) + 1))) := Lib.hid fun W hkW => by
            have hug := (ownsRow_lt H7.out.l ug rfl).1
            have hne : ug ≠ nb := fun e => ownsRow_blk H7.out.l H7.out.blk (by decide) (by rw [e]; rfl)
            have h3 := HA3.out.lt
            have h4 : ng < w3.heap.size := World.block_lt_of_cell? w3 _ (HNC.out _ (Keep.refl _ _))
            exact ⟨(hkW.cell (p := ⟨nb, 0, none⟩) (World.block_lt_of_cell? _ _ b0) (fun e => hne (Eq.symm e))).trans b0, (hkW.cell (p := ⟨w2.heap.size, 2, none⟩) (World.block_lt_of_cell? _ _ a2) (fun e => by have e2 : w2.heap.size = ug := e; omega)).trans a2, (hkW.cell (p := ⟨ng, no', none⟩) (World.block_lt_of_cell? _ _ n0) (fun e => by have e2 : ng = ug := e; omega)).trans n0⟩
          go_cut [] from 428 to 436 (fun wx => RO w3.heap.size wx nb (.slice (some ⟨ug, 0, none⟩) (S.lots.set k { X with closed := true }).length ulc) (.slice uco S.contacts.length ucc) (.slice uto S.tests.length utc) (.slice uno S.notes.length unc) { { S with lots := S.lots.set k { X with closed := true } } with lots := (S.lots.set k { X with closed := true }).set k { X with bay := -1, closed := true } } ∧ Keep (fun j => w3.heap.size ≤ j) wy wx)
          case first =>
            rename_i Jq Kq hJq hKq
            refine region_letters fun Q1 hQ1 => ?_
            have HQ1 := Lib.hid hQ1; clear hQ1
            refine wp_region_noPanic ?_
            refine wp_region_held_drew (S := (fun W => W.cell? ⟨nb, 0, none⟩ = some (.slice (some ⟨ug, 0, none⟩) S.lots.length ulc) ∧ W.cell? ⟨w2.heap.size, 2, none⟩ = some (.slice (some ⟨ng, no', none⟩) ns.length ocp) ∧ W.cell? ⟨ng, no', none⟩ = some (.int .i64 ((k : Int) + 1)))) (by kernel_rfl) (HSQ.out _ ((Keep.refl _ _).drew)) (fun hHeld => ?_)
            refine wpAnyH_letter fun ac0 HQA0 => ?_
            have HS : Hid (ac0.tmps.size = 438) := Lib.hid (by rw [HQA0.out]; kernel_rfl)
            have e11 : ac0.tmps[11]?.getD undef = .pointer (some ⟨nb, 0, none⟩) := by rw [HQA0.out]; kernel_rfl
            have e9 : ac0.tmps[9]?.getD undef = .pointer (some ⟨w2.heap.size, 0, none⟩) := by rw [HQA0.out]; kernel_rfl
            refine wpAnyH_take (i := 0) (oi := _) (v := ?_) rfl (by kernel_rfl) (by kernel_rfl) (by kernel_rfl) (fun _ _ _ h => h) (Or.inl ⟨by rfl, ?_⟩) hHeld ?_
            rotate_left
            · (intro w hSw; obtain ⟨q0, q1, q2⟩ := hSw; go_simp) <;> with_reducible rfl
            refine wpAnyH_letter fun ac1 HQA1 => ?_; replace e11 := po HQA1 e11; replace e9 := po HQA1 e9; have e428 := put_at HQA1 HS.out (by decide); replace HS := Lib.hid (put_sz HQA1 HS.out)
            refine wpAnyH_take (i := 1) (oi := _) (v := ?_) rfl (by kernel_rfl) (by kernel_rfl) (by kernel_rfl) (fun _ _ _ h => h) (Or.inl ⟨by rfl, ?_⟩) hHeld ?_
            rotate_left
            · (intro w hSw; obtain ⟨q0, q1, q2⟩ := hSw; go_simp) <;> with_reducible rfl
            refine wpAnyH_letter fun ac2 HQA2 => ?_; replace e11 := po HQA2 e11; replace e9 := po HQA2 e9; replace e428 := po HQA2 e428; have e429 := put_at HQA2 HS.out (by decide); replace HS := Lib.hid (put_sz HQA2 HS.out)
            refine wpAnyH_take (i := 2) (oi := _) (v := ?_) rfl (by kernel_rfl) (by kernel_rfl) (by kernel_rfl) (fun _ _ _ h => h) (Or.inl ⟨by rfl, ?_⟩) hHeld ?_
            rotate_left
            · (intro w hSw; obtain ⟨q0, q1, q2⟩ := hSw; go_simp) <;> with_reducible rfl
            refine wpAnyH_letter fun ac3 HQA3 => ?_; replace e11 := po HQA3 e11; replace e9 := po HQA3 e9; replace e428 := po HQA3 e428; replace e429 := po HQA3 e429; have e430 := put_at HQA3 HS.out (by decide); replace HS := Lib.hid (put_sz HQA3 HS.out)
            refine wpAnyH_take (i := 3) (oi := _) (v := ?_) rfl (by kernel_rfl) (by kernel_rfl) (by kernel_rfl) (fun _ _ _ h => h) (Or.inl ⟨by rfl, ?_⟩) hHeld ?_
            rotate_left
            · (intro w hSw; obtain ⟨q0, q1, q2⟩ := hSw; go_simp) <;> with_reducible rfl
            refine wpAnyH_letter fun ac4 HQA4 => ?_; replace e11 := po HQA4 e11; replace e9 := po HQA4 e9; replace e428 := po HQA4 e428; replace e429 := po HQA4 e429; replace e430 := po HQA4 e430; have e431 := put_at HQA4 HS.out (by decide); replace HS := Lib.hid (put_sz HQA4 HS.out)
            refine wpAnyH_take (i := 4) (oi := _) (v := ?_) rfl (by kernel_rfl) (by kernel_rfl) (by kernel_rfl) (fun _ _ _ h => h) (Or.inl ⟨by rfl, ?_⟩) hHeld ?_
            rotate_left
            · (intro w hSw; obtain ⟨q0, q1, q2⟩ := hSw; go_simp) <;> with_reducible rfl
            refine wpAnyH_letter fun ac5 HQA5 => ?_; replace e11 := po HQA5 e11; replace e9 := po HQA5 e9; replace e428 := po HQA5 e428; replace e429 := po HQA5 e429; replace e430 := po HQA5 e430; replace e431 := po HQA5 e431; have e432 := put_at HQA5 HS.out (by decide); replace HS := Lib.hid (put_sz HQA5 HS.out)
            refine wpAnyH_take (i := 5) (oi := _) (v := ?_) rfl (by kernel_rfl) (by kernel_rfl) (by kernel_rfl) (fun _ _ _ h => h) (Or.inl ⟨by rfl, ?_⟩) hHeld ?_
            rotate_left
            · (intro w hSw; obtain ⟨q0, q1, q2⟩ := hSw; go_simp) <;> with_reducible rfl
            refine wpAnyH_letter fun ac6 HQA6 => ?_; replace e11 := po HQA6 e11; replace e9 := po HQA6 e9; replace e428 := po HQA6 e428; replace e429 := po HQA6 e429; replace e430 := po HQA6 e430; replace e431 := po HQA6 e431; replace e432 := po HQA6 e432; have e433 := put_at HQA6 HS.out (by decide); replace HS := Lib.hid (put_sz HQA6 HS.out)
            refine wpAnyH_take (i := 6) (oi := _) (v := ?_) rfl (by kernel_rfl) (by kernel_rfl) (by kernel_rfl) (fun _ _ _ h => h) (Or.inl ⟨by rfl, ?_⟩) hHeld ?_
            rotate_left
            · (intro w hSw; obtain ⟨q0, q1, q2⟩ := hSw; go_simp) <;> with_reducible rfl
            refine wpAnyH_letter fun ac7 HQA7 => ?_; replace e11 := po HQA7 e11; replace e9 := po HQA7 e9; replace e428 := po HQA7 e428; replace e429 := po HQA7 e429; replace e430 := po HQA7 e430; replace e431 := po HQA7 e431; replace e432 := po HQA7 e432; replace e433 := po HQA7 e433; have e434 := put_at HQA7 HS.out (by decide); replace HS := Lib.hid (put_sz HQA7 HS.out)
            refine wpAnyH_take (i := 7) (oi := _) (v := ?_) rfl (by kernel_rfl) (by kernel_rfl) (by kernel_rfl) (fun _ _ _ h => h) (Or.inl ⟨by rfl, ?_⟩) hHeld ?_
            rotate_left
            · (intro w hSw; obtain ⟨q0, q1, q2⟩ := hSw; go_simp) <;> with_reducible rfl
            refine wpAnyH_letter fun ac8 HQA8 => ?_; replace e11 := po HQA8 e11; replace e9 := po HQA8 e9; replace e428 := po HQA8 e428; replace e429 := po HQA8 e429; replace e430 := po HQA8 e430; replace e431 := po HQA8 e431; replace e432 := po HQA8 e432; replace e433 := po HQA8 e433; replace e434 := po HQA8 e434; have e435 := put_at HQA8 HS.out (by decide); replace HS := Lib.hid (put_sz HQA8 HS.out)
            refine wpAnyH_take (i := 8) (oi := _) (v := ?_) rfl (by kernel_rfl) (by kernel_rfl) (by kernel_rfl) (fun _ _ _ h => h) (Or.inl ⟨by rfl, ?_⟩) hHeld ?_
            rotate_left
            · (intro w hSw; obtain ⟨q0, q1, q2⟩ := hSw; go_simp) <;> with_reducible rfl
            refine wpAnyH_letter fun ac9 HQA9 => ?_; replace e11 := po HQA9 e11; replace e9 := po HQA9 e9; replace e428 := po HQA9 e428; replace e429 := po HQA9 e429; replace e430 := po HQA9 e430; replace e431 := po HQA9 e431; replace e432 := po HQA9 e432; replace e433 := po HQA9 e433; replace e434 := po HQA9 e434; replace e435 := po HQA9 e435; have e436 := put_at HQA9 HS.out (by decide); replace HS := Lib.hid (put_sz HQA9 HS.out); refine wpAnyH_ready (rs := [9]) (by kernel_rfl) (by simp) ?_; refine AllReadyH.cons (o := _) rfl (fun K hK => ?_) AllReadyH.nil
            go_simp
            refine hK.out _ _ ?_ (fun hHeld => ?_)
            · exact HSQ.out _ (((Keep.refl _ _).drew).setCell _ _ (fun _ => rfl))
            clear hK K
            refine wpAnyH_done (by kernel_rfl) ?_ _
            refine NoPanic.normal ?_
            rw [HQ1.out]
            have g0 := uE0 ac0 [428, 429, 430, 431, 432, 433, 434, 435, 436]
            have g1 := uE HQA1 g0 (by rfl); have g2 := uE HQA2 g1 (by rfl); have g3 := uE HQA3 g2 (by rfl); have g4 := uE HQA4 g3 (by rfl); have g5 := uE HQA5 g4 (by rfl); have g6 := uE HQA6 g5 (by rfl); have g7 := uE HQA7 g6 (by rfl); have g8 := uE HQA8 g7 (by rfl); have g9 := uE HQA9 g8 (by rfl)
            obtain ⟨f, hf⟩ := g9
            rw [HQA0.out] at hf
            refine hKq _ _ (Met.intro (hJq _ _ ?_))
            refine ⟨f 428, f 429, f 430, f 431, f 432, f 433, f 434, f 435, f 436, ⟨(H7.out.setLot (S := { S with lots := S.lots.set k { X with closed := true } }) HX2.out 2 (by omega) { X with bay := -1, closed := true } (.int .i64 (-1)) rfl).1.keep ((Keep.refl (fun _ => False) _).drew) (fun _ h => h.elim), ((H7.out.setLot (S := { S with lots := S.lots.set k { X with closed := true } }) HX2.out 2 (by omega) { X with bay := -1, closed := true } (.int .i64 (-1)) rfl).2.1.drew).mono (fun j _ e => by rw [e]; exact (H7.out.setLot (S := { S with lots := S.lots.set k { X with closed := true } }) HX2.out 2 (by omega) { X with bay := -1, closed := true } (.int .i64 (-1)) rfl).2.2)⟩, hf.trans (by kernel_rfl)⟩
          case rest =>
            obtain ⟨h8, hk8⟩ := hcut
            simp only [List.length_set, List.set_set] at h8
            clear b0 a2 n0 l2 y2 HSQ
            have hk38 : Keep (fun j => w3.heap.size ≤ j) w3 _ := HK37.out.trans hk8 (fun _ _ h => h)
            obtain ⟨w8, rfl⟩ : ∃ w8, w8 = wc := ⟨_, rfl⟩
            have H8 := Lib.hid h8; have HK38 := Lib.hid hk38; clear h8 hk38 hk8
            have hrw := HR3.out.keep HK38.out (fun e => by have := HR3.out.lt; omega)
            have r0 := hrw.cell 0
            have r1 := hrw.cell 1
            have r2 := hrw.cell 2
            have r3 := hrw.cell 3
            have f0 := hrw.free 0
            have f1 := hrw.free 1
            have f2 := hrw.free 2
            have f3 := hrw.free 3
            have b0 := H8.out.blk.cell 0
            have b1 := H8.out.blk.cell 1
            have b2 := H8.out.blk.cell 2
            have b3 := H8.out.blk.cell 3
            simp at r0 r1 r2 r3 b0 b1 b2 b3
            have HRW := Lib.hid hrw; clear hrw
            go_wp2_with fail
            (try simp only [Exit.inBlock, Exit.then])
            refine rdo_back HRW.out rfl rfl rfl rfl rfl (fun wf hkf => ?_)
            exact rdo_yes HF.out (H8.out.keep hkf (fun b e => by have := HR3.out.lt; omega)) ((HK3.out.trans HK38.out (fun k hk e => by have := HK3.out.size; omega)).trans hkf (fun k hk e => by omega)) HK3.out.size
end Go.Proofs.YthdkamnclbfehaaGreatDoor
/- cubebref09.Do: any line. -/
namespace Go.Proofs.YthdkamnclbfehaaGreatDoor
set_option linter.unusedSimpArgs false
set_option linter.unusedVariables false
set_option linter.unnecessarySimpa false
open Go.RowKit
set_option maxHeartbeats 4000000 in
set_option maxRecDepth 100000 in
theorem rdo_bad {w : World} {vl vc vt vn bv : Value} {S : St} {s : ByteArray} (hG : Glob w) (hS : RSt w vl vc vt vn S) (hs : s.size ≤ 4096)
    (hread : readR s = none) : Calls Tryz.prog 67 #[bv, .agg #[vl, vc, vt, vn], .string s] w (RDoPost w (doF runF S s)) := by
  have H95 : Hid (∀ W, Keep (fun _ => False) w W → Calls Tryz.prog 95 #[.string s] W (ReadSaid W s)) := Lib.hid fun W hk => rread_any (hG.keep hk) hs
  have HREAD := Lib.hid hread
  have HF := Lib.hid (read_do_none runF S hread)
  have HST := Lib.hid hS
  obtain ⟨lo, lc, hvl, hlc, _⟩ := hS.l.shape
  obtain ⟨co, cc, hvc, hcc, _⟩ := hS.c.shape
  obtain ⟨to_, tc, hvt, htc, _⟩ := hS.t.shape
  obtain ⟨no, nc, hvn, hnc, _⟩ := hS.n.shape
  subst hvl hvc hvt hvn
  obtain ⟨cells, hcells⟩ : ∃ c : Array Value, c = #[.slice lo S.lots.length lc, .slice co S.contacts.length cc, .slice to_ S.tests.length tc, .slice no S.notes.length nc] := ⟨_, rfl⟩
  have hT0 : Blk ((w.alloc (.cells #[.slice lo S.lots.length lc, .slice co S.contacts.length cc, .slice to_ S.tests.length tc, .slice no S.notes.length nc] 74)).alloc (.cells #[.slice none 0 0, .slice none 0 0, .slice none 0 0, .slice none 0 0] 74)) w.heap.size #[.slice lo S.lots.length lc, .slice co S.contacts.length cc, .slice to_ S.tests.length tc, .slice no S.notes.length nc] 74 := (Blk.new _ _ _).alloc _
  have hR0 : Blk ((w.alloc (.cells #[.slice lo S.lots.length lc, .slice co S.contacts.length cc, .slice to_ S.tests.length tc, .slice no S.notes.length nc] 74)).alloc (.cells #[.slice none 0 0, .slice none 0 0, .slice none 0 0, .slice none 0 0] 74)) (w.heap.size + 1) #[.slice none 0 0, .slice none 0 0, .slice none 0 0, .slice none 0 0] 74 := by
    have := Blk.new (w.alloc (.cells #[.slice lo S.lots.length lc, .slice co S.contacts.length cc, .slice to_ S.tests.length tc, .slice no S.notes.length nc] 74)) #[.slice none 0 0, .slice none 0 0, .slice none 0 0, .slice none 0 0] 74
    rwa [World.size_alloc] at this
  have hK0 : Keep (fun _ => False) w ((w.alloc (.cells #[.slice lo S.lots.length lc, .slice co S.contacts.length cc, .slice to_ S.tests.length tc, .slice no S.notes.length nc] 74)).alloc (.cells #[.slice none 0 0, .slice none 0 0, .slice none 0 0, .slice none 0 0] 74)) := ((Keep.refl _ _).alloc _).alloc _
  have HT0 := Lib.hid hT0; have HR0 := Lib.hid hR0; have HK0 := Lib.hid hK0; clear hG hS hread hs hcells cells hT0 hR0 hK0
  go_enter Tryz.func67, Tryz.ntmps67
  go_upto_region 2 with (go_at_call 95; refine (H95.out _ HK0.out).mono ?_; rintro e w2 ⟨hk2, hsay, _⟩; obtain ⟨x9, y9, ao9, n9, cap9, rfl⟩ := hsay HREAD.out; have HK2 := Lib.hid hk2; clear hk2 hsay)
  obtain ⟨w3, hw3⟩ : ∃ w3, w3 = w2.alloc (.cells #[.string x9, .string y9, .slice ao9 n9 cap9] 169) := ⟨_, rfl⟩
  have h23 : Keep (fun _ => False) w2 w3 := by rw [hw3]; exact (Keep.refl _ _).alloc _
  have HT3 := Lib.hid ((HT0.out.keep HK2.out (fun h => h)).keep h23 (fun h => h))
  have HR3 := Lib.hid ((HR0.out.keep HK2.out (fun h => h)).keep h23 (fun h => h))
  have HK3 := Lib.hid ((HK0.out.trans HK2.out (fun _ _ h => h)).trans h23 (fun _ _ h => h))
  rw [← hw3]
  clear hw3 h23
  obtain ⟨t0, t1, t2, t3, r0, r1, r2, r3, f0, f1, f2, f3⟩ := rdo_cells HT3.out HR3.out
  go_wp2_with fail
  (try simp only [Exit.inBlock, Exit.then])
  refine rdo_back HR3.out rfl rfl rfl rfl rfl (fun wf hkf => ?_)
  exact rdo_no (by decide) HF.out HST.out (HK3.out.trans hkf (fun k hk e => by omega))
theorem rdo_any {w : World} {vl vc vt vn bv : Value} {S : St} {m : Nat} {s : ByteArray} (hG : Glob w) (hb : Rd w 1 bv S.bays.length (icells S.bays)) (hS : RSt w vl vc vt vn S) (hI : Inv m S) (hm : m ≤ 1000000) (hs : s.size ≤ 4096) :
    Calls Tryz.prog 67 #[bv, .agg #[vl, vc, vt, vn], .string s] w (RDoPost w (doF runF S s)) := by
  cases hread : readR s with
  | none => exact rdo_bad hG hS hs hread
  | some x =>
    obtain ⟨wd, nm, ns⟩ := x
    rcases read_cases S hread with ⟨hwd, n, hns, hn, hdo⟩ | ⟨hwd, i, j, q, hns, hi, hj, hq, hdo⟩ | ⟨hwd, i, b, hns, hi, hb2, hdo⟩ | ⟨hwd, i, j, hns, hi, hj, hl, hdo⟩ | ⟨hwd, i, hns, hi, hw2, hl, hdo⟩ | ⟨hwd, i, hns, hi, hdo⟩
    · exact rdo_take hG hb hS hI hm hs hread hwd hns hn hdo
    · exact rdo_blend hG hb hS hI hm hs hread hwd hns hi hj hq hdo
    · exact rdo_put hG hb hS hI hm hs hread hwd hns hi hb2 hdo
    · exact rdo_touch hG hb hS hI hm hs hread hwd hns hi hj hl hdo
    · exact rdo_test hG hb hS hI hm hs hread hwd hns hi hl hdo
    · exact rdo_shut hG hb hS hI hm hs hread hwd hns hi hdo
end Go.Proofs.YthdkamnclbfehaaGreatDoor
/- cubebref09.Open. -/
namespace Go.Proofs.YthdkamnclbfehaaGreatDoor
set_option linter.unusedSimpArgs false
set_option linter.unusedVariables false
set_option linter.unnecessarySimpa false
open Go.RowKit
set_option maxHeartbeats 8000000 in
set_option maxRecDepth 100000 in
theorem ropen_any {base bd : Nat} {w : World} {D : Dsk} {v gv : Value} {g : List Int} (hG : Glob w) (hd : RDiskAt base w bd D v) (hg : Rd w 1 gv g.length (icells g)) (hgl : g.length < 9223372036854775807) (hD : D.bytes.length ≤ 4096) :
    Calls Tryz.prog 34 #[.pointer (some ⟨bd, 0, none⟩), gv] w (ROpenPost base w bd gv v (openF runF D g)) := by
  obtain ⟨go, gc, hve, _⟩ := hg.shape
  subst hve
  obtain ⟨bo, bc, hbe, _⟩ := ownsRow_shape hd.own
  subst hbe
  have H17 := Lib.hid (rvalid_any hg hgl)
  have c1 := hd.blk.cell 1
  have c3 := hd.blk.cell 3
  simp at c1 c3
  have HD := Lib.hid hd; clear hd
  have HG := Lib.hid hG; clear hG
  have HGV := Lib.hid hg; clear hg
  cases hv : validB g with
  | false =>
    have HF := Lib.hid (show openF runF D g = ⟨2, D, S0 g, []⟩ by unfold openF baysB; rw [hv]; rfl)
    have HV := Lib.hid hv; clear hv
    go_enter Tryz.func34, Tryz.ntmps34
    go_wp2_with (go_at_call 17; refine H17.out.mono ?_; rintro e w1 ⟨rfl, q0, rfl⟩; rw [HV.out])
    go_ret2
    rw [HF.out]
    exact ropen_err (by decide) ((Keep.refl (fun _ => False) w).drewN q0) (Keep.refl _ _) (HD.out.drewN q0) (.inl rfl)
  | true =>
    have HV := Lib.hid hv
    by_cases h8 : g.length = 8
    case neg =>
      have HF := Lib.hid (show openF runF D g = ⟨2, D, S0 g, []⟩ by unfold openF baysB; rw [hv]; simp [h8])
      have e8 : ((g.length : Int) != 8) = true := by simp; omega
      clear hv h8
      go_enter Tryz.func34, Tryz.ntmps34
      go_wp2_with (go_at_call 17; refine H17.out.mono ?_; rintro e w1 ⟨rfl, q0, rfl⟩; rw [HV.out])
      go_ret2
      rw [HF.out]
      exact ropen_err (by decide) ((Keep.refl (fun _ => False) w).drewN q0) (Keep.refl _ _) (HD.out.drewN q0) (.inl rfl)
    case pos =>
      have e8 : ((g.length : Int) != 8) = false := by rw [h8]; rfl
      have hbay : baysB g = true := by unfold baysB; rw [hv]; simp [h8]
      have H8 := Lib.hid h8; clear hv h8
      cases hoff : D.off with
      | true =>
        have HF := Lib.hid (show openF runF D g = ⟨10, D, S0 g, []⟩ by unfold openF; rw [hbay, hoff]; rfl)
        rw [hoff] at c3
        clear hbay hoff
        go_enter Tryz.func34, Tryz.ntmps34
        go_wp2_with (go_at_call 17; refine H17.out.mono ?_; rintro e w1 ⟨rfl, q0, rfl⟩; rw [HV.out])
        go_ret2
        rw [HF.out]
        exact ropen_err (by decide) ((Keep.refl (fun _ => False) w).drewN q0) (Keep.refl _ _) (HD.out.drewN q0) (.inl rfl)
      | false =>
        have HF := Lib.hid (show openF runF D g = openEnd D (openLoop runF (D.bytes.length + 1) D.bytes (S0 g) [] 0) by unfold openF; rw [hbay, hoff]; rfl)
        rw [hoff] at c3
        clear hbay hoff
        go_enter Tryz.func34, Tryz.ntmps34
        go_upto_region 6 with (go_at_call 17; refine H17.out.mono ?_; rintro e w1 ⟨rfl, q0, rfl⟩; rw [HV.out])
        obtain ⟨w4, hw4⟩ : ∃ w4, w4 = (w.drewN q0).alloc (.cells #[.pointer (some ⟨bd, 0, none⟩), .slice go g.length gc, .slice none 0 0, .slice none 0 0, .slice none 0 0, .slice none 0 0, .slice none 0 0, .bool false] 76) := ⟨_, rfl⟩
        have hn4 : Blk w4 w.heap.size #[.pointer (some ⟨bd, 0, none⟩), .slice go g.length gc, .slice none 0 0, .slice none 0 0, .slice none 0 0, .slice none 0 0, .slice none 0 0, .bool false] 76 := by rw [hw4]; exact Blk.new _ _ _
        have hk4 : Keep (fun _ => False) w w4 := by rw [hw4]; exact ((Keep.refl _ _).drewN q0).alloc _
        rw [← hw4]
        clear hw4 c1 c3
        have hd4 := HD.out.keep hk4 (fun h => h) (fun _ _ h => h)
        have c1 := hd4.blk.cell 1
        simp at c1
        have hcv : (convert 61 9 (.slice bo D.bytes.length bc)).run Tryz.prog w4 = .ok (.string (bs D.bytes)) w4 := convRd (ownsRow_rd hd4.own (bcells_one _))
        have HREL : Hid (RORel w D g bd w.heap.size (.slice go g.length gc) (.string (bs D.bytes)) w4) := Lib.hid ⟨D.bytes, S0 g, [], 0, D.bytes.length + 1, _, _, _, _, none, 0, rfl, Nat.zero_le _, rfl, by omega, rfl, inv_S0 H8.out, Nat.le_refl _, rfl, hn4, ⟨World.ownsRow_nil _ _ _ _, World.ownsRow_nil _ _ _ _, World.ownsRow_nil _ _ _ _, World.ownsRow_nil _ _ _ _, World.ownsRow_nil _ _ _ _, fun k e => by cases e⟩, hk4⟩
        clear hn4 hk4 hd4
        go_wp2_with fail
        go_loopw [7] (RORel w D g bd w.heap.size (.slice go g.length gc)) (fun v _ => strOf v)
        · exact HREL.out
        case round =>
          clear c1 hcv
          obtain ⟨rest, S, ls, at_, fuel, vl, vc, vt, vn, lo, lc, rfl, hat, hrest, hfuel, hloop, hinv, hls, hbg, hblk, hrows, hkeep⟩ := hrel
          have hrl : rest.length = D.bytes.length - at_ := by rw [hrest, List.length_drop]
          have hpl := cutPre_length rest
          have HLOOP := Lib.hid hloop; clear hloop
          have HINV := Lib.hid hinv; clear hinv
          have HREST := Lib.hid hrest; clear hrest
          have HCUT := Lib.hid (rcutnl_any (HG.out.keep hkeep) (l := rest) (by omega))
          obtain ⟨ok, hok⟩ : ∃ ok, (cutNL rest).isSome = ok := ⟨_, rfl⟩
          obtain ⟨R, hR⟩ : ∃ R, doF runF S (bs (cutPre rest)) = R := ⟨_, rfl⟩
          have HDO : Hid (∀ W, Keep (fun _ => False) wr W → Calls Tryz.prog 67 #[.slice go g.length gc, .agg #[vl, vc, vt, vn], .string (bs (cutPre rest))] W (RDoPost W R)) := Lib.hid fun W hk => by
            rw [← hR]
            refine rdo_any ((HG.out.keep hkeep).keep hk) ?_ (hrows.st.keep hk) HINV.out (by omega) (by rw [size_bs]; omega)
            rw [hbg]; exact (HGV.out.keep hkeep (fun _ _ h => h)).keep hk (fun _ _ h => h)
          have hrb : R.st.bays = g := by rw [← hR, doF_bays]; exact hbg
          obtain ⟨re, rs, ro⟩ := R
          have HOK := Lib.hid hok; clear hok
          have HRR := Lib.hid hR; clear hR
          have HRB := Lib.hid hrb; clear hrb hbg
          have b2 := hblk.cell 2
          have b3 := hblk.cell 3
          have b4 := hblk.cell 4
          have b5 := hblk.cell 5
          simp at b2 b3 b4 b5
          have HBLK := Lib.hid hblk; clear hblk
          have HROWS := Lib.hid hrows; clear hrows
          have HKEEP := Lib.hid hkeep; clear hkeep
          go_upto_region 9 with (first | (go_at_call 66; refine HCUT.out.mono ?_; rintro e w5 ⟨rfl, q, rfl⟩; rw [HOK.out]) | (go_at_call 67; refine (HDO.out _ ((Keep.refl _ _).drewN q)).mono ?_; rintro e w6 ⟨ul, uc, ut, un, rfl, hst6, hk6, hro6⟩; obtain ⟨ulo, ulc, rfl, _⟩ := hst6.l.shape; obtain ⟨uco, ucc, rfl, _⟩ := hst6.c.shape; obtain ⟨uto, utc, rfl, _⟩ := hst6.t.shape; obtain ⟨uno, unc, rfl, _⟩ := hst6.n.shape; have HK6 := Lib.hid hk6; have HRO6 := Lib.hid hro6; clear hst6 hk6 hro6))
          (try dsimp only at HRO6)
          obtain ⟨w7, hw7⟩ : ∃ w7, w7 = w6.alloc (.cells #[.slice ulo rs.lots.length ulc, .slice uco rs.contacts.length ucc, .slice uto rs.tests.length utc, .slice uno rs.notes.length unc] 74) := ⟨_, rfl⟩
          have hkr : Keep (fun _ => False) wr w7 := by rw [hw7]; exact (((Keep.refl _ _).drewN q).trans HK6.out (fun _ _ h => h)).alloc _
          have h67 : Keep (fun _ => False) w6 w7 := by rw [hw7]; exact (Keep.refl _ _).alloc _
          have hn7 : Blk w7 w6.heap.size #[.slice ulo rs.lots.length ulc, .slice uco rs.contacts.length ucc, .slice uto rs.tests.length utc, .slice uno rs.notes.length unc] 74 := by rw [hw7]; exact Blk.new _ _ _
          rw [← hw7]
          clear hw7 b2 b3 b4 b5
          have HK7 := Lib.hid (HKEEP.out.trans hkr (fun _ _ h => h))
          have HB7 := Lib.hid (HBLK.out.keep hkr (fun h => h))
          have HR7 := Lib.hid (HROWS.out.keep hkr (fun _ h => h.elim))
          have HKR := Lib.hid hkr; have H67 := Lib.hid h67; have HN7 := Lib.hid hn7; clear hkr h67 hn7
          cases ok with
          | false =>
            have HL := Lib.hid (show openF runF D g = openEnd D (S, ls, at_) by rw [HF.out, ← HLOOP.out]; rw [openLoop_none hfuel HOK.out])
            have HD7 := Lib.hid (HD.out.keep HK7.out (fun h => h) (fun _ _ h => h))
            have d1 := HD7.out.blk.cell 1
            simp at d1
            by_cases hend : at_ < D.bytes.length
            · obtain ⟨C, hC⟩ : ∃ C, cutF D (at_ : Int) = C := ⟨_, rfl⟩
              obtain ⟨ce, D1⟩ := C
              have HC := Lib.hid hC
              have hne := lit_ne (bs rest) [] (by rw [show (bs rest).data.toList = rest by simp [bs]]; intro e; rw [e] at hrl; simp at hrl; omega)
              have hszb : (bs rest).size = rest.length := size_bs rest
              have hsub : IntKind.i64.wrap ((D.bytes.length : Int) - ((bs rest).size : Int)) = (at_ : Int) := by rw [IntWalk.i64_in _ (by omega)]; omega
              clear hszb
              by_cases hce : ce = 0
              · subst hce
                obtain ⟨Y, hY⟩ : ∃ Y, syncF D1 = Y := ⟨_, rfl⟩
                obtain ⟨se, D2⟩ := Y
                have HY := Lib.hid hY
                have HL2 := Lib.hid (show openEnd D (S, ls, at_) = ⟨se, D2, S, ls⟩ by unfold openEnd; rw [if_pos hend]; simp only [hC, if_true, hY])
                clear hC hY
                by_cases hse : se = 0
                · subst hse
                  go_wp2_with (first | (go_at_call 47; have hh := rcut_any (at_ : Int) HD7.out; rw [HC.out] at hh; dsimp only at hh; refine Calls.mono hh ?_; clear hh; rintro e W4 ⟨rfl, ⟨v1, hd1, hf1⟩, hk4⟩; have HD1 := Lib.hid hd1; have HF1 := Lib.hid hf1; have HK4 := Lib.hid hk4; clear hd1 hf1 hk4) | (go_at_call 49; have hh := rsync_any HD1.out; rw [HY.out] at hh; dsimp only at hh; refine Calls.mono hh ?_; clear hh; rintro e W5 ⟨rfl, ⟨v2, hd2, hf2⟩, hk5⟩; have HD2 := Lib.hid hd2; have HF2 := Lib.hid hf2; have HK5 := Lib.hid hk5; clear hd2 hf2 hk5))
                  go_ret2
                  rw [HL.out, HL2.out]
                  exact ropen_fin HD.out HB7.out HR7.out (Nat.le_refl _) HK7.out (HK4.out.trans HK5.out (fun k hk e => e.elim .inl (fun e => HF1.out.elim (fun h => .inr (h ▸ e)) (fun ⟨g, h1, h2⟩ => by have h3 : g = k := Option.some.inj (h1.symm.trans e); omega)))) HD2.out (HF2.out.elim (fun h => HF1.out.elim (fun h' => .inl (h.trans h')) (fun ⟨g, h1, h2⟩ => .inr ⟨g, h.trans h1, h2⟩)) (fun ⟨g, h1, h2⟩ => .inr ⟨g, h1, Nat.le_trans HK4.out.size h2⟩))
                · have hse2 : (se != 0) = true := by simpa using hse
                  have HSE := Lib.hid hse; clear hse
                  go_wp2_with (first | (go_at_call 47; have hh := rcut_any (at_ : Int) HD7.out; rw [HC.out] at hh; dsimp only at hh; refine Calls.mono hh ?_; clear hh; rintro e W4 ⟨rfl, ⟨v1, hd1, hf1⟩, hk4⟩; have HD1 := Lib.hid hd1; have HF1 := Lib.hid hf1; have HK4 := Lib.hid hk4; clear hd1 hf1 hk4) | (go_at_call 49; have hh := rsync_any HD1.out; rw [HY.out] at hh; dsimp only at hh; refine Calls.mono hh ?_; clear hh; rintro e W5 ⟨rfl, ⟨v2, hd2, hf2⟩, hk5⟩; have HD2 := Lib.hid hd2; have HF2 := Lib.hid hf2; have HK5 := Lib.hid hk5; clear hd2 hf2 hk5))
                  go_ret2
                  rw [HL.out, HL2.out]
                  exact ropen_err HSE.out HK7.out (HK4.out.trans HK5.out (fun k hk e => e.elim .inl (fun e => HF1.out.elim (fun h => .inr (h ▸ e)) (fun ⟨g, h1, h2⟩ => by have h3 : g = k := Option.some.inj (h1.symm.trans e); omega)))) HD2.out (HF2.out.elim (fun h => HF1.out.elim (fun h' => .inl (h.trans h')) (fun ⟨g, h1, h2⟩ => .inr ⟨g, h.trans h1, h2⟩)) (fun ⟨g, h1, h2⟩ => .inr ⟨g, h1, Nat.le_trans HK4.out.size h2⟩))
              · have hce2 : (ce != 0) = true := by simpa using hce
                have HCE := Lib.hid hce
                have HL2 := Lib.hid (show openEnd D (S, ls, at_) = ⟨ce, D1, S, ls⟩ by unfold openEnd; rw [if_pos hend]; simp only [hC, if_neg hce])
                clear hC hce
                go_wp2_with (go_at_call 47; have hh := rcut_any (at_ : Int) HD7.out; rw [HC.out] at hh; dsimp only at hh; refine Calls.mono hh ?_; clear hh; rintro e W4 ⟨rfl, ⟨v1, hd1, hf1⟩, hk4⟩; have HD1 := Lib.hid hd1; have HF1 := Lib.hid hf1; have HK4 := Lib.hid hk4; clear hd1 hf1 hk4)
                go_ret2
                rw [HL.out, HL2.out]
                exact ropen_err HCE.out HK7.out HK4.out HD1.out HF1.out
            · have hr0 : rest = [] := List.eq_nil_of_length_eq_zero (by omega)
              have hee := lit_eq (bs rest) [] (by rw [hr0]; rfl)
              clear hr0
              obtain ⟨Y, hY⟩ : ∃ Y, syncF D = Y := ⟨_, rfl⟩
              obtain ⟨se, D2⟩ := Y
              have HY := Lib.hid hY
              have HL2 := Lib.hid (show openEnd D (S, ls, at_) = ⟨se, D2, S, ls⟩ by unfold openEnd; rw [if_neg hend]; simp only [hY])
              clear hY
              by_cases hse : se = 0
              · subst hse
                go_wp2_with (go_at_call 49; have hh := rsync_any HD7.out; rw [HY.out] at hh; dsimp only at hh; refine Calls.mono hh ?_; clear hh; rintro e W5 ⟨rfl, ⟨v2, hd2, hf2⟩, hk5⟩; have HD2 := Lib.hid hd2; have HF2 := Lib.hid hf2; have HK5 := Lib.hid hk5; clear hd2 hf2 hk5)
                go_ret2
                rw [HL.out, HL2.out]
                exact ropen_fin HD.out HB7.out HR7.out (Nat.le_refl _) HK7.out HK5.out HD2.out HF2.out
              · have hse2 : (se != 0) = true := by simpa using hse
                have HSE := Lib.hid hse; clear hse
                go_wp2_with (go_at_call 49; have hh := rsync_any HD7.out; rw [HY.out] at hh; dsimp only at hh; refine Calls.mono hh ?_; clear hh; rintro e W5 ⟨rfl, ⟨v2, hd2, hf2⟩, hk5⟩; have HD2 := Lib.hid hd2; have HF2 := Lib.hid hf2; have HK5 := Lib.hid hk5; clear hd2 hf2 hk5)
                go_ret2
                rw [HL.out, HL2.out]
                exact ropen_err HSE.out HK7.out HK5.out HD2.out HF2.out
          | true =>
            have hct := (cutNL_true HOK.out).2
            by_cases hz : re = 0
            case neg =>
              have HL := Lib.hid (show openF runF D g = openEnd D (S, ls, at_) by rw [HF.out, ← HLOOP.out]; rw [openLoop_err hfuel HOK.out HRR.out hz])
              have hre : (re != 0) = true := by simpa using hz
              clear hz
              have HD7 := Lib.hid (HD.out.keep HK7.out (fun h => h) (fun _ _ h => h))
              have d1 := HD7.out.blk.cell 1
              simp at d1
              have hend : at_ < D.bytes.length := by omega
              obtain ⟨C, hC⟩ : ∃ C, cutF D (at_ : Int) = C := ⟨_, rfl⟩
              obtain ⟨ce, D1⟩ := C
              have HC := Lib.hid hC
              have hne := lit_ne (bs rest) [] (by rw [show (bs rest).data.toList = rest by simp [bs]]; intro e; rw [e] at hrl; simp at hrl; omega)
              have hszb : (bs rest).size = rest.length := size_bs rest
              have hsub : IntKind.i64.wrap ((D.bytes.length : Int) - ((bs rest).size : Int)) = (at_ : Int) := by rw [IntWalk.i64_in _ (by omega)]; omega
              clear hszb
              by_cases hce : ce = 0
              · subst hce
                obtain ⟨Y, hY⟩ : ∃ Y, syncF D1 = Y := ⟨_, rfl⟩
                obtain ⟨se, D2⟩ := Y
                have HY := Lib.hid hY
                have HL2 := Lib.hid (show openEnd D (S, ls, at_) = ⟨se, D2, S, ls⟩ by unfold openEnd; rw [if_pos hend]; simp only [hC, if_true, hY])
                clear hC hY
                by_cases hse : se = 0
                · subst hse
                  go_wp2_with (first | (go_at_call 47; have hh := rcut_any (at_ : Int) HD7.out; rw [HC.out] at hh; dsimp only at hh; refine Calls.mono hh ?_; clear hh; rintro e W4 ⟨rfl, ⟨v1, hd1, hf1⟩, hk4⟩; have HD1 := Lib.hid hd1; have HF1 := Lib.hid hf1; have HK4 := Lib.hid hk4; clear hd1 hf1 hk4) | (go_at_call 49; have hh := rsync_any HD1.out; rw [HY.out] at hh; dsimp only at hh; refine Calls.mono hh ?_; clear hh; rintro e W5 ⟨rfl, ⟨v2, hd2, hf2⟩, hk5⟩; have HD2 := Lib.hid hd2; have HF2 := Lib.hid hf2; have HK5 := Lib.hid hk5; clear hd2 hf2 hk5))
                  go_ret2
                  rw [HL.out, HL2.out]
                  exact ropen_fin HD.out HB7.out HR7.out (Nat.le_refl _) HK7.out (HK4.out.trans HK5.out (fun k hk e => e.elim .inl (fun e => HF1.out.elim (fun h => .inr (h ▸ e)) (fun ⟨g, h1, h2⟩ => by have h3 : g = k := Option.some.inj (h1.symm.trans e); omega)))) HD2.out (HF2.out.elim (fun h => HF1.out.elim (fun h' => .inl (h.trans h')) (fun ⟨g, h1, h2⟩ => .inr ⟨g, h.trans h1, h2⟩)) (fun ⟨g, h1, h2⟩ => .inr ⟨g, h1, Nat.le_trans HK4.out.size h2⟩))
                · have hse2 : (se != 0) = true := by simpa using hse
                  have HSE := Lib.hid hse; clear hse
                  go_wp2_with (first | (go_at_call 47; have hh := rcut_any (at_ : Int) HD7.out; rw [HC.out] at hh; dsimp only at hh; refine Calls.mono hh ?_; clear hh; rintro e W4 ⟨rfl, ⟨v1, hd1, hf1⟩, hk4⟩; have HD1 := Lib.hid hd1; have HF1 := Lib.hid hf1; have HK4 := Lib.hid hk4; clear hd1 hf1 hk4) | (go_at_call 49; have hh := rsync_any HD1.out; rw [HY.out] at hh; dsimp only at hh; refine Calls.mono hh ?_; clear hh; rintro e W5 ⟨rfl, ⟨v2, hd2, hf2⟩, hk5⟩; have HD2 := Lib.hid hd2; have HF2 := Lib.hid hf2; have HK5 := Lib.hid hk5; clear hd2 hf2 hk5))
                  go_ret2
                  rw [HL.out, HL2.out]
                  exact ropen_err HSE.out HK7.out (HK4.out.trans HK5.out (fun k hk e => e.elim .inl (fun e => HF1.out.elim (fun h => .inr (h ▸ e)) (fun ⟨g, h1, h2⟩ => by have h3 : g = k := Option.some.inj (h1.symm.trans e); omega)))) HD2.out (HF2.out.elim (fun h => HF1.out.elim (fun h' => .inl (h.trans h')) (fun ⟨g, h1, h2⟩ => .inr ⟨g, h.trans h1, h2⟩)) (fun ⟨g, h1, h2⟩ => .inr ⟨g, h1, Nat.le_trans HK4.out.size h2⟩))
              · have hce2 : (ce != 0) = true := by simpa using hce
                have HCE := Lib.hid hce
                have HL2 := Lib.hid (show openEnd D (S, ls, at_) = ⟨ce, D1, S, ls⟩ by unfold openEnd; rw [if_pos hend]; simp only [hC, if_neg hce])
                clear hC hce
                go_wp2_with (go_at_call 47; have hh := rcut_any (at_ : Int) HD7.out; rw [HC.out] at hh; dsimp only at hh; refine Calls.mono hh ?_; clear hh; rintro e W4 ⟨rfl, ⟨v1, hd1, hf1⟩, hk4⟩; have HD1 := Lib.hid hd1; have HF1 := Lib.hid hf1; have HK4 := Lib.hid hk4; clear hd1 hf1 hk4)
                go_ret2
                rw [HL.out, HL2.out]
                exact ropen_err HCE.out HK7.out HK4.out HD1.out HF1.out
            case pos =>
              subst hz
              obtain ⟨nb, hro⟩ := HRO6.out rfl
              have HRO := Lib.hid hro; clear hro HRO6
              have m0 := HN7.out.cell 0
              have m1 := HN7.out.cell 1
              have m2 := HN7.out.cell 2
              have m3 := HN7.out.cell 3
              simp at m0 m1 m2 m3
              have b2 := HB7.out.cell 2
              have b3 := HB7.out.cell 3
              have b4 := HB7.out.cell 4
              have b5 := HB7.out.cell 5
              simp at b2 b3 b4 b5
              have f2 := HB7.out.free 2
              have f3 := HB7.out.free 3
              have f4 := HB7.out.free 4
              have f5 := HB7.out.free 5
              go_upto_region 11 with fail
              obtain ⟨w8, hw8⟩ : ∃ w8, w8 = (((w7.setCell ⟨w.heap.size, 2, none⟩ (.slice ulo rs.lots.length ulc)).setCell ⟨w.heap.size, 3, none⟩ (.slice uco rs.contacts.length ucc)).setCell ⟨w.heap.size, 4, none⟩ (.slice uto rs.tests.length utc)).setCell ⟨w.heap.size, 5, none⟩ (.slice uno rs.notes.length unc) := ⟨_, rfl⟩
              have hB8 : Blk w8 w.heap.size #[.pointer (some ⟨bd, 0, none⟩), .slice go g.length gc, .slice ulo rs.lots.length ulc, .slice uco rs.contacts.length ucc, .slice uto rs.tests.length utc, .slice uno rs.notes.length unc, .slice lo ls.length lc, .bool false] 76 := by
                rw [hw8]; simpa using (((HB7.out.set 2 (.slice ulo rs.lots.length ulc)).set 3 (.slice uco rs.contacts.length ucc)).set 4 (.slice uto rs.tests.length utc)).set 5 (.slice uno rs.notes.length unc)
              have hk78 : Keep (fun k => k = w.heap.size) w7 w8 := by rw [hw8]; exact ((((Keep.refl (fun k => k = w.heap.size) w7).setCell _ _ (fun _ => rfl)).setCell _ _ (fun _ => rfl)).setCell _ _ (fun _ => rfl)).setCell _ _ (fun _ => rfl)
              rw [← hw8]
              clear hw8 m0 m1 m2 m3 b2 b3 b4 b5 f2 f3 f4 f5
              have hhb : w.heap.size < wr.heap.size := HBLK.out.lt
              have hq : (wr.drewN q).heap.size = wr.heap.size := rfl
              have h8 : RO wr.heap.size w8 nb (.slice ulo rs.lots.length ulc) (.slice uco rs.contacts.length ucc) (.slice uto rs.tests.length utc) (.slice uno rs.notes.length unc) rs := (HRO.out.keep H67.out (fun _ h => h.elim)).keep hk78 (fun b e => by rw [e]; exact hhb)
              have hln8 : w8.ownsRow w.heap.size 9 1 (.slice lo ls.length lc) ls.length (strCells ls) := ownsRow_keep HR7.out.lr hk78 (fun b e e2 => ownsRow_blk HR7.out.lr HB7.out (by decide) (e2 ▸ e))
              have hlnlt : ∀ b, (Value.slice lo ls.length lc).ownBlock = some b → b < wr.heap.size := fun b e => (ownsRow_lt HROWS.out.lr b e).2
              have b6 := hB8.cell 6
              simp at b6
              have HB8 := Lib.hid hB8; have HRO8 := Lib.hid h8; have HLN8 := Lib.hid hln8; have HLT := Lib.hid hlnlt
              have HK8 := Lib.hid ((HKR.out.mono (fun _ _ h => h.elim)).trans hk78 (fun _ _ h => h))
              clear hB8 h8 hln8 hlnlt hk78 hq
              have HO8 : Hid ((w8.alloc (.cells #[.string (bs (cutPre rest))] 9)).ownsRow w.heap.size 9 1 (.slice lo ls.length lc) ls.length (strCells ls)) := Lib.hid (ownsRow_keep HLN8.out ((Keep.refl (fun _ => False) w8).alloc _) (fun _ _ h => h))
              have HS8 := Lib.hid (Rd.new w8 1 1 [.string (bs (cutPre rest))] 9 rfl (by simp [Value.oneCell']) (by unfold maxLen; omega))
              have hw08 : w.heap.size ≤ w8.heap.size := by have := HK8.out.size; omega
              go_wp2_with (at_builtin; refine wpList_app (w := w8.alloc (.cells #[.string (bs (cutPre rest))] 9)) rfl (.tmp 69) (.tmp 71) 44 44 rfl 9 (.string ⟨#[]⟩) 1 16 Tryz.underlying44 info9 rfl HO8.out rfl (HS8.out.src Tryz.underlying44) rfl (by unfold maxLen; omega) (by omega) (Nat.le_trans hw08 ((Keep.refl (fun _ => False) w8).alloc (.cells #[.string (bs (cutPre rest))] 9)).size) (fun v9 w9 happ => ?_); obtain ⟨ao9, cap9, rfl, _⟩ := ownsRow_shape happ.own; have hb9 := (HB8.out.keep ((Keep.refl (fun _ => False) w8).alloc (.cells #[.string (bs (cutPre rest))] 9)) (fun h => h)).keep happ.keep (fun e => ownsRow_blk HLN8.out HB8.out (by decide) e); have d6 := hb9.cell 6; have y6 := hb9.free 6; simp at d6; have HB9 := Lib.hid hb9; have HAPP := Lib.hid happ; clear happ hb9)
              go_roundw
              case rel =>
                have hk89 : Keep (fun k => (Value.slice lo ls.length lc).ownBlock = some k) w8 w9 := ((Keep.refl _ _).alloc (.cells #[.string (bs (cutPre rest))] 9)).trans HAPP.out.keep (fun _ _ h => h)
                have hown9 : w9.ownsRow w.heap.size 9 1 (.slice ao9 (ls.length + 1) cap9) (ls.length + 1) (strCells (ls ++ [bs (cutPre rest)])) := by have h1 := HAPP.out.own; simpa [strCells, List.map_append] using h1
                have ho9 : RO wr.heap.size w9 nb (.slice ulo rs.lots.length ulc) (.slice uco rs.contacts.length ucc) (.slice uto rs.tests.length utc) (.slice uno rs.notes.length unc) rs := HRO8.out.keep hk89 (fun b e => HLT.out b e)
                have hfb := HB9.out
                have hl9 := ownsRow_blk hown9 hfb (by decide)
                have hw9k : Keep (fun k => k = w.heap.size) w9 (w9.setCell ⟨w.heap.size, 6, none⟩ (.slice ao9 (ls.length + 1) cap9)) := (Keep.refl _ _).setCell _ _ (fun _ => rfl)
                have hof := ho9.keep hw9k (fun b e => by rw [e]; exact hhb)
                have hct2 := (cutNL_true HOK.out).1
                refine ⟨cutRest rest, rs, ls ++ [bs (cutPre rest)], at_ + ((cutPre rest).length + 1), fuel - 1, .slice ulo rs.lots.length ulc, .slice uco rs.contacts.length ucc, .slice uto rs.tests.length utc, .slice uno rs.notes.length unc, ao9, cap9, rfl, by omega, ?_, ?_, ?_, ?_, ?_, HRB.out, ?_, ?_, ?_⟩
                · rw [cutRest_true HOK.out, HREST.out, List.drop_drop]
                · rw [cutRest_true HOK.out, List.length_drop]; omega
                · rw [← HLOOP.out, openLoop_step hfuel HOK.out HRR.out, cutRest_true HOK.out]
                · have h1 := inv_next (line := bs (cutPre rest)) HINV.out (by rw [HRR.out])
                  rw [HRR.out] at h1; simpa using h1
                · simp; omega
                · simpa using hfb.set 6 (.slice ao9 (ls.length + 1) cap9)
                · have hw0 : w.heap.size ≤ wr.heap.size := Nat.le_of_lt hhb
                  refine ⟨ownsRow_base hof.l hw0, ownsRow_base hof.c hw0, ownsRow_base hof.t hw0, ownsRow_base hof.n hw0, ?_, ?_⟩
                  · rw [List.length_append]; exact ownsRow_keep hown9 hw9k (fun b e e2 => hl9 (e2 ▸ e))
                  · intro k e e2
                    have h1 := (ownsRow_lt HRO8.out.n k e)
                    rw [List.length_append] at e2
                    have e3 : (Value.slice ao9 (ls.length + 1) cap9).ownBlock = some k := e2
                    rcases HAPP.out.fresh with h3 | ⟨g2, h3, h4⟩
                    · have h5 := HLT.out k (h3 ▸ e3); omega
                    · have h5 : g2 = k := Option.some.inj (h3.symm.trans e3)
                      rw [World.size_alloc] at h4; omega
                · have hk9 : Keep (fun k => w.heap.size ≤ k) wr w9 := (HK8.out.mono (fun k _ e => by rw [e]; exact Nat.le_refl _)).trans hk89 (fun k _ e => (ownsRow_lt HLN8.out k e).1)
                  exact (HKEEP.out.trans (hk9.trans hw9k (fun k _ e => by rw [e]; exact Nat.le_refl _)) (fun k hk e => by omega))
              case measure =>
                have h1 := cutRest_true HOK.out
                simp only [strOf, size_bs]
                rw [h1, List.length_drop]; omega
end Go.Proofs.YthdkamnclbfehaaGreatDoor
/- The law HouseOpens, walked: it returns true, whatever the text, the bays and the fuse. -/
namespace Go.Proofs.YthdkamnclbfehaaGreatDoor
set_option linter.unusedSimpArgs false
set_option linter.unusedVariables false
set_option linter.unnecessarySimpa false
open Go.RowKit
theorem want_undef {o oj : Oper} {ops : Array Oper} {a : Act} {j d : Nat} {b : Bool} (hg : o.guard = some (j, b)) (hj : ops[j]? = some oj) (hd : oj.dst = some d) (hv : a.tmps[d]?.getD undef = undef) : Region.wanted o (yielded ops a.tmps) = false := by
  have h1 : yielded ops a.tmps j = none := by
    unfold yielded
    rw [hj]
    cases h : a.tmps[d]? with
    | none => simp [hd, h]
    | some v => rw [h] at hv; have h2 : v = undef := hv; subst h2; simp [hd, h, undef]
  unfold Region.wanted
  rw [hg]
  show (yielded ops a.tmps j == some b) = _
  rw [h1]
  rfl
theorem eqL_self (l : List ByteArray) : eqL l l = true := by
  induction l with
  | nil => rfl
  | cons x l ih => simp [eqL, ih]
theorem house_past {base B : Nat} {w w' : World} {H : HV} {D : Dsk} {S : St} {ls : List ByteArray} {x : Nat} {u : Value} (h : HouseAt base w H D S ls false) (k : Keep (fun k => k = x ∨ u.ownBlock = some k) w w')
    (hx : x < B) (hu : ∀ k, u.ownBlock = some k → k < B) (hh : B ≤ H.h) (hl : ∀ k, H.vl.ownBlock = some k → B ≤ k) (hf : ∀ k, H.V.fp k → B ≤ k) (hd : H.d ≠ x) (hdu : u.ownBlock ≠ some H.d)
    (hv : H.v.ownBlock ≠ some x) (hvu : ∀ k, H.v.ownBlock = some k → u.ownBlock ≠ some k) : HouseAt base w' H D S ls false := by
  refine h.keep k (fun i hi e => ?_) (fun i hi e => ?_)
  · rcases hi with e1 | e1 | e1 | e1 <;> rcases e with e2 | e2
    · omega
    · have := hu i e2; omega
    · exact hd (e1.symm.trans e2)
    · exact hdu (e1 ▸ e2)
    · exact hv (e2 ▸ e1)
    · exact hvu i e1 e2
    · have := hl i e1; omega
    · have := hl i e1; have := hu i e2; omega
  · have h1 := hf i hi
    rcases e with e2 | e2
    · omega
    · have := hu i e2; omega
set_option maxHeartbeats 8000000 in
set_option maxRecDepth 100000 in
theorem houseOpens_any {w : World} {text : ByteArray} {gv : Value} {g : List Int} {fuse : Int} (hG : Glob w) (htx : text.size ≤ 140737488355328) (hg : Rd w 1 gv g.length (icells g)) (hgl : g.length < 9223372036854775807) (hf : fuse ≤ 9223372036854775807) :
    Calls Tryz.prog 9 #[.string text, gv, .int .i64 fuse] w (IdxPost w (.bool true)) := by
  obtain ⟨go_, gc, hge, _⟩ := hg.shape
  subst hge
  have H12 := Lib.hid (disks_any (base := w.heap.size) (w := w) 5000 (Nat.le_refl _))
  have HGR := Lib.hid hg; clear hg
  have HG := Lib.hid hG; clear hG
  obtain ⟨s, hs⟩ : ∃ s, s = text.extract 0 (min (text.size : Int) 4000).toNat := ⟨_, rfl⟩
  have hsz : s.size ≤ 4000 := by rw [hs]; simp; omega
  have hm0 : (0 : Int) ≤ min (text.size : Int) 4000 := by omega
  have hm1 : min (text.size : Int) 4000 ≤ (text.size : Int) := by omega
  have hsl : ∀ W, (Instr.slice 9 (.string text) none (some (.int .i64 (min (text.size : Int) 4000))) none).run Tryz.prog W = .ok (.string s) W := fun W => by
    rw [run_slice_string_to_if (P := Tryz.prog) W 9 text .i64 _ Tryz.underlying9, if_pos ⟨hm0, hm1⟩, hs]
  have hcv := fun W => Lib.run_convert_string_bytes (P := Tryz.prog) W 9 61 5 s Tryz.underlying9 Tryz.underlying61 Tryz.underlying5
  have HLN : Hid (s.data.toList.length = s.size) := Lib.hid (by simp)
  obtain ⟨D1, hD1⟩ : ∃ D1, D1 = { newD 5000 with bytes := s.data.toList } := ⟨_, rfl⟩
  have HAPP : Hid (appendF (newD 5000) s.data.toList = (0, D1)) := Lib.hid (by rw [hD1]; exact app_new (by rw [HLN.out]; omega))
  obtain ⟨D2, hD2⟩ : ∃ D2, fuseF D1 fuse = D2 := ⟨_, rfl⟩
  have HDB : Hid (D2.bytes.length ≤ 4000) := Lib.hid (by rw [← hD2, fuse_bytes, hD1]; show s.data.toList.length ≤ 4000; rw [HLN.out]; exact hsz)
  obtain ⟨er, DR, SR, SQ, lr, hp, hq, hok⟩ := openF_take D2 g
  have HD2 := Lib.hid hD2; have HSZ := Lib.hid hsz; clear hs hD1 hD2 hsz hm0 hm1
  by_cases h0 : er = 0
  · subst h0
    obtain ⟨rfl, hin⟩ := hok rfl
    have HIN := Lib.hid hin; have HP := Lib.hid hp; have HQ := Lib.hid hq; clear hin hp hq hok
    go_enter Tryz.func9, Tryz.ntmps9
    go_upto_region 13 with (first | (go_at_call 15; refine Calls.mono (same_any TW8.out.pair) ?_; rintro e w9 ⟨rfl, hk9⟩; have HK9 := Lib.hid hk9; clear hk9) | (go_at_call 34; have hh := ropen_any (HG.out.keep TW7.out.keep) TW7.out.pair.b (HGR.out.keep TW7.out.keep (fun _ _ h => h)) hgl (by have := HDB.out; omega); rw [HQ.out] at hh; (try dsimp only at hh); refine Calls.mono hh ?_; clear hh; rintro e w8 ⟨u8, hd8, hf8, hk8, _, hok8⟩; obtain ⟨hb, vl, vc, vt, vn, ln, rfl, hblk8, hrows8, hge8⟩ := hok8 rfl; have TW8 := Lib.hid (TW7.out.b hk8 hd8 hf8); have HR8 := Lib.hid hrows8; have HB8 := Lib.hid hblk8; have HH8 := Lib.hid (house_past (B := w6.heap.size) HH7.out hk8 TW6.out.pair.b.blk.lt (fun k e => (ownsRow_lt TW6.out.pair.b.own k e).2) HX7.out.2.2.2.1 HX7.out.2.2.2.2 HX7.out.2.2.1 (by rw [HX7.out.1]; exact TW7.out.pair.dx) (by rw [HX7.out.1]; exact TW7.out.pair.ud) (by rw [HX7.out.2.1]; exact TW7.out.pair.vx) (by rw [HX7.out.2.1]; exact TW7.out.pair.ne)); clear hd8 hf8 hk8 hok8 hblk8 hrows8 hge8) | (go_at_call 24; have hh := open_any (F := runF) (I := Inv) (g := g.take 10) (HG.out.keep TW6.out.keep) TW6.out.pair.a (ownsRow_rd HO6.out (icells_one _)) (by rw [List.length_take]; omega) (fun k e => (ownsRow_lt HO6.out k e).2) TW6.out.keep.size (fun e => inv_S0 (baysB_8 e)) (sys_all (by have := HDB.out; omega)); rw [HP.out] at hh; (try dsimp only at hh); refine Calls.mono hh ?_; clear hh; rintro e w7 ⟨v7, hd7, hf7, hk7, _, hok7⟩; obtain ⟨H, rfl, hHd, hHv, hh7, hfp7, hbb7, hvl7⟩ := hok7 rfl; have TW7 := Lib.hid (TW6.out.a hk7 hd7 hf7); have HH7 := Lib.hid hh7; have HX7 := Lib.hid (And.intro hHd (And.intro hHv (And.intro hfp7 (And.intro hbb7 hvl7)))); clear hd7 hf7 hk7 hok7 hHd hHv hh7 hfp7 hbb7 hvl7) | (go_at_call 25; have hh := graph_any (HGR.out.keep TW5.out.keep (fun _ _ h => h)) (Nat.le_of_lt hgl); refine Calls.mono hh ?_; clear hh; rintro e w6 ⟨gv6, rfl, ho6, hk6⟩; have HO6 := Lib.hid ho6; have TW6 := Lib.hid (TW5.out.idle hk6); clear ho6 hk6) | (go_at_call 33; have hh := rfuse_any fuse hf TW4.out.pair.b; rw [HD2.out] at hh; refine Calls.mono hh ?_; clear hh; rintro e w5 ⟨rfl, ⟨u2, hd3, hf3⟩, hk3⟩; have TW5 := Lib.hid (TW4.out.b hk3 hd3 hf3); clear hd3 hf3 hk3) | (go_at_call 18; have hh := fuse_any fuse hf TW3.out.pair.a; rw [HD2.out] at hh; refine Calls.mono hh ?_; clear hh; rintro e w4 ⟨rfl, ⟨v2, hd3, hf3⟩, hk3⟩; have TW4 := Lib.hid (TW3.out.a hk3 hd3 hf3); clear hd3 hf3 hk3) | (go_at_call 32; have hh := rappend_any TW2.out.pair.b HCC.out (fun e => by have e2 : w1.heap.size = x := Option.some.inj e; have := TW1.out.pair.b.blk.lt; omega) (fun g e => by have e2 : w1.heap.size = g := Option.some.inj e; have := HLT.out; omega) (by rw [HLN.out]; have := HSZ.out; omega) TW2.out.keep.size; rw [HAPP.out] at hh; (try dsimp only at hh); refine Calls.mono hh ?_; clear hh; rintro e w3 ⟨rfl, ⟨u1, hd2, hf2⟩, hk2⟩; have TW3 := Lib.hid (TW2.out.b hk2 hd2 hf2); clear hd2 hf2 hk2) | (go_at_call 31; have tw0 := TW1.out.idle (convKeep w1 5 s); have hcc := convCell w1 s (by have := HSZ.out; omega); have hnd : w1.heap.size ≠ d := (fun e => by have := TW1.out.pair.a.blk.lt; omega); have hh := append_any tw0.pair.a hcc (fun e => hnd (Option.some.inj e)) tw0.keep.size; unfold AppendPost at hh; rw [HAPP.out] at hh; (try dsimp only at hh); refine Calls.mono hh ?_; clear hh; rintro e w2 ⟨rfl, ⟨v1, hd1, hf1⟩, hk1⟩; have TW2 := Lib.hid (tw0.a hk1 hd1 hf1); have HCC := Lib.hid (hcc.keep hk1 (fun b e e2 => e2.elim (fun e2 => hnd ((Option.some.inj e).trans e2)) (fun e2 => by cases e2))); have HLT : Hid (w1.heap.size < w2.heap.size) := Lib.hid (by have h1 := Lib.bytesWorld_size w1 5 s; have h2 := hk1.size; omega); clear tw0 hcc hnd hd1 hf1 hk1) | (go_at_call 12; refine H12.out.mono ?_; rintro e w1 ⟨hk1, hd1, _⟩; obtain ⟨d, x, rfl, hd, hx, hdd, hxx, hne⟩ := hd1 (by omega); have TW1 : Hid (Twin w w1 d x (newD 5000) (newD 5000) (.slice none 0 0) (.slice none 0 0)) := Lib.hid ⟨⟨hd, hx, fun k e => by cases e⟩, (fun k hk => hk.elim (fun e => e.elim (fun e => e ▸ hdd) (fun e => by cases e)) (fun e => e.elim (fun e => e ▸ hxx) (fun e => by cases e))), hk1⟩; clear hk1 hd1 hd hx hdd hxx hne))
    have HK0 := Lib.hid (TW8.out.keep.trans HK9.out (fun _ _ h => h))
    obtain ⟨ro, rc, hln, _⟩ := ownsRow_shape HR8.out.lr
    have HB9 := HB8.out.keep HK9.out (fun h => h)
    rw [hln] at HB9
    have HR9 := HR8.out.keep HK9.out (fun _ h => h.elim)
    rw [hln] at HR9
    have HH9 := Lib.hid (HH8.out.idle HK9.out)
    have HB9 := Lib.hid HB9; have HR9 := Lib.hid HR9
    have HSQ : Hid (∀ W, Keep (fun _ => False) w9 W → W.cell? ⟨hb, 6, none⟩ = some (.slice ro lr.length rc)) := Lib.hid fun W hk => by
      have h := (HB9.out.keep hk (fun h => h)).cell 6
      simpa using h
    clear hln
    have HWZ : Hid (Keep (fun _ => False) w9 w9.drew) := Lib.hid (Keep.refl _ _).drew
    go_cut [6] from 73 to 93 (fun s6 wx => s6 = .bool true ∧ Keep (fun _ => False) w9 wx)
    case first =>
      rename_i Jq Kq hJq hKq
      refine region_letters fun Q1 hQ1 => ?_
      have HQ1 := Lib.hid hQ1; clear hQ1
      refine wp_region_noPanic ?_
      refine wp_region_held_drew (S := (fun W => W.cell? ⟨hb, 6, none⟩ = some (.slice ro lr.length rc))) (by kernel_rfl) (HSQ.out _ HWZ.out) (fun hHeld => ?_)
      refine wpAnyH_letter fun ac0 HQA0 => ?_
      have HS : Hid (ac0.tmps.size = 94) := Lib.hid (by rw [HQA0.out]; kernel_rfl)
      have e11 : ac0.tmps[11]?.getD undef = .pointer (some ⟨H.h, 0, none⟩) := by rw [HQA0.out]; kernel_rfl
      have e13 : ac0.tmps[13]?.getD undef = .pointer (some ⟨hb, 0, none⟩) := by rw [HQA0.out]; kernel_rfl
      refine wpAnyH_take (i := 0) (oi := _) (v := ?_) rfl (by kernel_rfl) (by kernel_rfl) (by kernel_rfl) (fun _ _ _ h => h) (Or.inl ⟨by rfl, ?_⟩) hHeld ?_
      rotate_left
      · (intro w hSw; obtain q0 := hSw; go_simp) <;> with_reducible rfl
      refine wpAnyH_letter fun ac1 HQA1 => ?_; replace e11 := po HQA1 e11; replace e13 := po HQA1 e13; have e73 := put_at HQA1 HS.out (by decide); replace HS := Lib.hid (put_sz HQA1 HS.out)
      refine wpAnyH_take (i := 1) (oi := _) (v := ?_) rfl (by kernel_rfl) (by kernel_rfl) (by kernel_rfl) (fun _ _ _ h => h) (Or.inl ⟨by rfl, ?_⟩) hHeld ?_
      rotate_left
      · (intro w hSw; obtain q0 := hSw; go_simp) <;> with_reducible rfl
      refine wpAnyH_letter fun ac2 HQA2 => ?_; replace e11 := po HQA2 e11; replace e13 := po HQA2 e13; replace e73 := po HQA2 e73; have e74 := put_at HQA2 HS.out (by decide); replace HS := Lib.hid (put_sz HQA2 HS.out)
      refine wpAnyH_take (i := 2) (oi := _) (v := ?_) rfl (by kernel_rfl) (by kernel_rfl) (by kernel_rfl) (fun _ _ _ h => h) (Or.inl ⟨by rfl, ?_⟩) hHeld ?_
      rotate_left
      · (intro w hSw; obtain q0 := hSw; go_simp) <;> with_reducible rfl
      refine wpAnyH_letter fun ac3 HQA3 => ?_; replace e11 := po HQA3 e11; replace e13 := po HQA3 e13; replace e73 := po HQA3 e73; replace e74 := po HQA3 e74; have e75 := put_at HQA3 HS.out (by decide); replace HS := Lib.hid (put_sz HQA3 HS.out)
      replace e75 : ac3.tmps[75]?.getD undef = .bool false := e75
      refine wpAnyH_take (i := 3) (oi := _) (v := ?_) rfl (by kernel_rfl) (by kernel_rfl) (by kernel_rfl) (fun _ _ _ h => h) (Or.inl ⟨want_of (b' := false) (b := false) rfl rfl rfl e75, ?_⟩) hHeld ?_
      rotate_left
      · (intro w hSw; obtain q0 := hSw; go_simp) <;> with_reducible rfl
      refine wpAnyH_letter fun ac4 HQA4 => ?_; replace e11 := po HQA4 e11; replace e13 := po HQA4 e13; replace e73 := po HQA4 e73; replace e74 := po HQA4 e74; replace e75 := po HQA4 e75; have e76 := put_at HQA4 HS.out (by decide); replace HS := Lib.hid (put_sz HQA4 HS.out)
      refine wpAnyH_take (i := 5) (oi := _) (v := ?_) rfl (by kernel_rfl) (by kernel_rfl) (by kernel_rfl) (fun _ _ _ h => h) (Or.inl ⟨want_of (b' := false) (b := false) rfl rfl rfl e75, ?_⟩) hHeld ?_
      rotate_left
      · (intro w hSw; obtain q0 := hSw; go_simp) <;> with_reducible rfl
      refine wpAnyH_letter fun ac5 HQA5 => ?_; replace e11 := po HQA5 e11; replace e13 := po HQA5 e13; replace e73 := po HQA5 e73; replace e74 := po HQA5 e74; replace e75 := po HQA5 e75; replace e76 := po HQA5 e76; have e78 := put_at HQA5 HS.out (by decide); replace HS := Lib.hid (put_sz HQA5 HS.out); refine wpAnyH_ready (rs := [4]) (by kernel_rfl) (by simp) ?_; refine AllReadyH.cons (o := _) rfl (fun K hK => ?_) AllReadyH.nil
      rw [if_pos (by exact want_of (b' := false) (b := false) rfl rfl rfl e75)]
      go_simp
      refine Calls.mono (state_any (HG.out.keep (HK0.out.trans HWZ.out (fun _ _ h => h))) (HH9.out.idle HWZ.out) HIN.out.1 (by have := HIN.out.2; have := HDB.out; omega)) ?_
      rintro e wq ⟨rfl, hk⟩
      have HWZ := Lib.hid (HWZ.out.trans hk (fun _ _ h => h))
      clear hk
      (try dsimp only)
      refine hK.out _ _ ?_ (fun hHeld => ?_)
      · exact HSQ.out _ HWZ.out
      clear hK K; refine wpAnyH_letter fun ac6 HQA6 => ?_; replace e11 := po HQA6 e11; replace e13 := po HQA6 e13; replace e73 := po HQA6 e73; replace e74 := po HQA6 e74; replace e75 := po HQA6 e75; replace e76 := po HQA6 e76; replace e78 := po HQA6 e78; have e77 := put_at HQA6 HS.out (by decide); replace HS := Lib.hid (put_sz HQA6 HS.out); refine wpAnyH_ready (rs := [6]) (by kernel_rfl) (by simp) ?_; refine AllReadyH.cons (o := _) rfl (fun K hK => ?_) AllReadyH.nil
      rw [if_pos (by exact want_of (b' := false) (b := false) rfl rfl rfl e75)]
      go_simp
      refine Calls.mono (rstate_any (HG.out.keep (HK0.out.trans HWZ.out (fun _ _ h => h))) (HB9.out.keep HWZ.out (fun h => h)) (HR9.out.keep HWZ.out (fun _ h => h.elim)) HIN.out.1 (by have := HIN.out.2; have := HDB.out; omega)) ?_
      rintro e wq ⟨rfl, hk⟩
      have HWZ := Lib.hid (HWZ.out.trans hk (fun _ _ h => h))
      clear hk
      (try dsimp only)
      refine hK.out _ _ ?_ (fun hHeld => ?_)
      · exact HSQ.out _ HWZ.out
      clear hK K; refine wpAnyH_letter fun ac7 HQA7 => ?_; replace e11 := po HQA7 e11; replace e13 := po HQA7 e13; replace e73 := po HQA7 e73; replace e74 := po HQA7 e74; replace e75 := po HQA7 e75; replace e76 := po HQA7 e76; replace e78 := po HQA7 e78; replace e77 := po HQA7 e77; have e79 := put_at HQA7 HS.out (by decide); replace HS := Lib.hid (put_sz HQA7 HS.out)
      refine wpAnyH_take (i := 7) (oi := _) (v := ?_) rfl (by kernel_rfl) (by kernel_rfl) (by kernel_rfl) (fun _ _ _ h => h) (Or.inl ⟨want_of (b' := false) (b := false) rfl rfl rfl e75, ?_⟩) hHeld ?_
      rotate_left
      · (intro w hSw; obtain q0 := hSw; go_simp) <;> with_reducible rfl
      refine wpAnyH_letter fun ac8 HQA8 => ?_; replace e11 := po HQA8 e11; replace e13 := po HQA8 e13; replace e73 := po HQA8 e73; replace e74 := po HQA8 e74; replace e75 := po HQA8 e75; replace e76 := po HQA8 e76; replace e78 := po HQA8 e78; replace e77 := po HQA8 e77; replace e79 := po HQA8 e79; have e80 := put_at HQA8 HS.out (by decide); replace HS := Lib.hid (put_sz HQA8 HS.out)
      refine wpAnyH_take (i := 8) (oi := _) (v := ?_) rfl (by kernel_rfl) (by kernel_rfl) (by kernel_rfl) (fun _ _ _ h => h) (Or.inl ⟨want_of (b' := false) (b := false) rfl rfl rfl e75, ?_⟩) hHeld ?_
      rotate_left
      · (intro w hSw; obtain q0 := hSw; go_simp) <;> with_reducible rfl
      refine wpAnyH_letter fun ac9 HQA9 => ?_; replace e11 := po HQA9 e11; replace e13 := po HQA9 e13; replace e73 := po HQA9 e73; replace e74 := po HQA9 e74; replace e75 := po HQA9 e75; replace e76 := po HQA9 e76; replace e78 := po HQA9 e78; replace e77 := po HQA9 e77; replace e79 := po HQA9 e79; replace e80 := po HQA9 e80; have e81 := put_at HQA9 HS.out (by decide); replace HS := Lib.hid (put_sz HQA9 HS.out)
      replace e81 : ac9.tmps[81]?.getD undef = .bool true := e81.trans (by simp)
      refine wpAnyH_take (i := 9) (oi := _) (v := ?_) rfl (by kernel_rfl) (by kernel_rfl) (by kernel_rfl) (fun _ _ _ h => h) (Or.inl ⟨want_of (b' := true) (b := true) rfl rfl rfl e81, ?_⟩) hHeld ?_
      rotate_left
      · (intro w hSw; obtain q0 := hSw; go_simp) <;> with_reducible rfl
      refine wpAnyH_letter fun ac10 HQA10 => ?_; replace e11 := po HQA10 e11; replace e13 := po HQA10 e13; replace e73 := po HQA10 e73; replace e74 := po HQA10 e74; replace e75 := po HQA10 e75; replace e76 := po HQA10 e76; replace e78 := po HQA10 e78; replace e77 := po HQA10 e77; replace e79 := po HQA10 e79; replace e80 := po HQA10 e80; replace e81 := po HQA10 e81; have e82 := put_at HQA10 HS.out (by decide); replace HS := Lib.hid (put_sz HQA10 HS.out)
      refine wpAnyH_take (i := 11) (oi := _) (v := ?_) rfl (by kernel_rfl) (by kernel_rfl) (by kernel_rfl) (fun _ _ _ h => h) (Or.inl ⟨want_of (b' := true) (b := true) rfl rfl rfl e81, ?_⟩) hHeld ?_
      rotate_left
      · (intro w hSw; obtain q0 := hSw; go_simp) <;> with_reducible rfl
      refine wpAnyH_letter fun ac11 HQA11 => ?_; replace e11 := po HQA11 e11; replace e13 := po HQA11 e13; replace e73 := po HQA11 e73; replace e74 := po HQA11 e74; replace e75 := po HQA11 e75; replace e76 := po HQA11 e76; replace e78 := po HQA11 e78; replace e77 := po HQA11 e77; replace e79 := po HQA11 e79; replace e80 := po HQA11 e80; replace e81 := po HQA11 e81; replace e82 := po HQA11 e82; have e84 := put_at HQA11 HS.out (by decide); replace HS := Lib.hid (put_sz HQA11 HS.out)
      refine wpAnyH_take (i := 12) (oi := _) (v := ?_) rfl (by kernel_rfl) (by kernel_rfl) (by kernel_rfl) (fun _ _ _ h => h) (Or.inl ⟨want_of (b' := true) (b := true) rfl rfl rfl e81, ?_⟩) hHeld ?_
      rotate_left
      · (intro w hSw; obtain q0 := hSw; go_simp) <;> with_reducible rfl
      refine wpAnyH_letter fun ac12 HQA12 => ?_; replace e11 := po HQA12 e11; replace e13 := po HQA12 e13; replace e73 := po HQA12 e73; replace e74 := po HQA12 e74; replace e75 := po HQA12 e75; replace e76 := po HQA12 e76; replace e78 := po HQA12 e78; replace e77 := po HQA12 e77; replace e79 := po HQA12 e79; replace e80 := po HQA12 e80; replace e81 := po HQA12 e81; replace e82 := po HQA12 e82; replace e84 := po HQA12 e84; have e85 := put_at HQA12 HS.out (by decide); replace HS := Lib.hid (put_sz HQA12 HS.out)
      refine wpAnyH_take (i := 13) (oi := _) (v := ?_) rfl (by kernel_rfl) (by kernel_rfl) (by kernel_rfl) (fun _ _ _ h => h) (Or.inl ⟨want_of (b' := true) (b := true) rfl rfl rfl e81, ?_⟩) hHeld ?_
      rotate_left
      · (intro w hSw; obtain q0 := hSw; go_simp) <;> with_reducible rfl
      refine wpAnyH_letter fun ac13 HQA13 => ?_; replace e11 := po HQA13 e11; replace e13 := po HQA13 e13; replace e73 := po HQA13 e73; replace e74 := po HQA13 e74; replace e75 := po HQA13 e75; replace e76 := po HQA13 e76; replace e78 := po HQA13 e78; replace e77 := po HQA13 e77; replace e79 := po HQA13 e79; replace e80 := po HQA13 e80; replace e81 := po HQA13 e81; replace e82 := po HQA13 e82; replace e84 := po HQA13 e84; replace e85 := po HQA13 e85; have e86 := put_at HQA13 HS.out (by decide); replace HS := Lib.hid (put_sz HQA13 HS.out)
      refine wpAnyH_take (i := 14) (oi := _) (v := ?_) rfl (by kernel_rfl) (by kernel_rfl) (by kernel_rfl) (fun _ _ _ h => h) (Or.inl ⟨want_of (b' := true) (b := true) rfl rfl rfl e81, ?_⟩) hHeld ?_
      rotate_left
      · (intro w hSw; obtain q0 := hSw; go_simp) <;> with_reducible rfl
      refine wpAnyH_letter fun ac14 HQA14 => ?_; replace e11 := po HQA14 e11; replace e13 := po HQA14 e13; replace e73 := po HQA14 e73; replace e74 := po HQA14 e74; replace e75 := po HQA14 e75; replace e76 := po HQA14 e76; replace e78 := po HQA14 e78; replace e77 := po HQA14 e77; replace e79 := po HQA14 e79; replace e80 := po HQA14 e80; replace e81 := po HQA14 e81; replace e82 := po HQA14 e82; replace e84 := po HQA14 e84; replace e85 := po HQA14 e85; replace e86 := po HQA14 e86; have e87 := put_at HQA14 HS.out (by decide); replace HS := Lib.hid (put_sz HQA14 HS.out); refine wpAnyH_ready (rs := [10]) (by kernel_rfl) (by simp) ?_; refine AllReadyH.cons (o := _) rfl (fun K hK => ?_) AllReadyH.nil
      rw [if_pos (by exact want_of (b' := true) (b := true) rfl rfl rfl e81)]
      go_simp
      refine Calls.mono (journal_any (HH9.out.idle HWZ.out) (by have := HIN.out.2; have := HDB.out; omega)) ?_
      rintro e wq ⟨v83, rfl, ho83, hk⟩
      have HWZ := Lib.hid (HWZ.out.trans hk (fun _ _ h => h))
      have HO83 := Lib.hid ho83; clear ho83 hk
      (try dsimp only)
      refine hK.out _ _ ?_ (fun hHeld => ?_)
      · exact HSQ.out _ HWZ.out
      clear hK K; refine wpAnyH_letter fun ac15 HQA15 => ?_; replace e11 := po HQA15 e11; replace e13 := po HQA15 e13; replace e73 := po HQA15 e73; replace e74 := po HQA15 e74; replace e75 := po HQA15 e75; replace e76 := po HQA15 e76; replace e78 := po HQA15 e78; replace e77 := po HQA15 e77; replace e79 := po HQA15 e79; replace e80 := po HQA15 e80; replace e81 := po HQA15 e81; replace e82 := po HQA15 e82; replace e84 := po HQA15 e84; replace e85 := po HQA15 e85; replace e86 := po HQA15 e86; replace e87 := po HQA15 e87; have e83 := put_at HQA15 HS.out (by decide); replace HS := Lib.hid (put_sz HQA15 HS.out); refine wpAnyH_ready (rs := [15]) (by kernel_rfl) (by simp) ?_; refine AllReadyH.cons (o := _) rfl (fun K hK => ?_) AllReadyH.nil
      rw [if_pos (by exact want_of (b' := true) (b := true) rfl rfl rfl e81)]
      go_simp
      refine Calls.mono (eqS_any (ownsRow_rd HO83.out (strCells_one _)) ((ownsRow_rd HR9.out.lr (strCells_one _)).keep HWZ.out (fun _ _ h => h)) (by have := HIN.out.2; have := HDB.out; omega)) ?_
      rintro e wq2 ⟨rfl, nq, rfl⟩
      have HWZ := Lib.hid (HWZ.out.drewN nq)
      rw [eqL_self]
      (try dsimp only)
      refine hK.out _ _ ?_ (fun hHeld => ?_)
      · exact HSQ.out _ HWZ.out
      clear hK K; refine wpAnyH_letter fun ac16 HQA16 => ?_; replace e11 := po HQA16 e11; replace e13 := po HQA16 e13; replace e73 := po HQA16 e73; replace e74 := po HQA16 e74; replace e75 := po HQA16 e75; replace e76 := po HQA16 e76; replace e78 := po HQA16 e78; replace e77 := po HQA16 e77; replace e79 := po HQA16 e79; replace e80 := po HQA16 e80; replace e81 := po HQA16 e81; replace e82 := po HQA16 e82; replace e84 := po HQA16 e84; replace e85 := po HQA16 e85; replace e86 := po HQA16 e86; replace e87 := po HQA16 e87; replace e83 := po HQA16 e83; have e88 := put_at HQA16 HS.out (by decide); replace HS := Lib.hid (put_sz HQA16 HS.out)
      refine wpAnyH_take (i := 16) (oi := _) (v := ?_) rfl (by kernel_rfl) (by kernel_rfl) (by kernel_rfl) (fun _ _ _ h => h) (Or.inl ⟨want_of (b' := false) (b := false) rfl rfl rfl e75, ?_⟩) hHeld ?_
      rotate_left
      · (intro w hSw; obtain q0 := hSw; go_simp) <;> with_reducible rfl
      refine wpAnyH_letter fun ac17 HQA17 => ?_; replace e11 := po HQA17 e11; replace e13 := po HQA17 e13; replace e73 := po HQA17 e73; replace e74 := po HQA17 e74; replace e75 := po HQA17 e75; replace e76 := po HQA17 e76; replace e78 := po HQA17 e78; replace e77 := po HQA17 e77; replace e79 := po HQA17 e79; replace e80 := po HQA17 e80; replace e81 := po HQA17 e81; replace e82 := po HQA17 e82; replace e84 := po HQA17 e84; replace e85 := po HQA17 e85; replace e86 := po HQA17 e86; replace e87 := po HQA17 e87; replace e83 := po HQA17 e83; replace e88 := po HQA17 e88; have e89 := put_at HQA17 HS.out (by decide); replace HS := Lib.hid (put_sz HQA17 HS.out)
      refine wpAnyH_take (i := 17) (oi := _) (v := ?_) rfl (by kernel_rfl) (by kernel_rfl) (by kernel_rfl) (fun _ _ _ h => h) (Or.inl ⟨by rfl, ?_⟩) hHeld ?_
      rotate_left
      · (intro w hSw; obtain q0 := hSw; go_simp) <;> with_reducible rfl
      refine wpAnyH_letter fun ac18 HQA18 => ?_; replace e11 := po HQA18 e11; replace e13 := po HQA18 e13; replace e73 := po HQA18 e73; replace e74 := po HQA18 e74; replace e75 := po HQA18 e75; replace e76 := po HQA18 e76; replace e78 := po HQA18 e78; replace e77 := po HQA18 e77; replace e79 := po HQA18 e79; replace e80 := po HQA18 e80; replace e81 := po HQA18 e81; replace e82 := po HQA18 e82; replace e84 := po HQA18 e84; replace e85 := po HQA18 e85; replace e86 := po HQA18 e86; replace e87 := po HQA18 e87; replace e83 := po HQA18 e83; replace e88 := po HQA18 e88; replace e89 := po HQA18 e89; have e90 := put_at HQA18 HS.out (by decide); replace HS := Lib.hid (put_sz HQA18 HS.out)
      refine wpAnyH_take (i := 18) (oi := _) (v := ?_) rfl (by kernel_rfl) (by kernel_rfl) (by kernel_rfl) (fun _ _ _ h => h) (Or.inl ⟨by rfl, ?_⟩) hHeld ?_
      rotate_left
      · (intro w hSw; obtain q0 := hSw; go_simp) <;> with_reducible rfl
      refine wpAnyH_letter fun ac19 HQA19 => ?_; replace e11 := po HQA19 e11; replace e13 := po HQA19 e13; replace e73 := po HQA19 e73; replace e74 := po HQA19 e74; replace e75 := po HQA19 e75; replace e76 := po HQA19 e76; replace e78 := po HQA19 e78; replace e77 := po HQA19 e77; replace e79 := po HQA19 e79; replace e80 := po HQA19 e80; replace e81 := po HQA19 e81; replace e82 := po HQA19 e82; replace e84 := po HQA19 e84; replace e85 := po HQA19 e85; replace e86 := po HQA19 e86; replace e87 := po HQA19 e87; replace e83 := po HQA19 e83; replace e88 := po HQA19 e88; replace e89 := po HQA19 e89; replace e90 := po HQA19 e90; have e91 := put_at HQA19 HS.out (by decide); replace HS := Lib.hid (put_sz HQA19 HS.out)
      replace e91 : ac19.tmps[91]?.getD undef = .bool true := e91
      refine wpAnyH_ready (rs := [19]) (by kernel_rfl) (by simp) ?_; refine AllReadyH.cons (o := _) rfl (fun K hK => ?_) AllReadyH.nil
      rw [if_pos (by exact want_of (b' := true) (b := true) rfl rfl rfl e91)]
      go_simp
      refine Calls.mono (awake_any (HG.out.keep (HK0.out.trans HWZ.out (fun _ _ h => h)))) ?_
      rintro e wq ⟨rfl, hk⟩
      have HWZ := Lib.hid (HWZ.out.trans hk (fun _ _ h => h))
      clear hk
      (try dsimp only)
      refine hK.out _ _ ?_ (fun hHeld => ?_)
      · exact HSQ.out _ HWZ.out
      clear hK K; refine wpAnyH_letter fun ac20 HQA20 => ?_; replace e11 := po HQA20 e11; replace e13 := po HQA20 e13; replace e73 := po HQA20 e73; replace e74 := po HQA20 e74; replace e75 := po HQA20 e75; replace e76 := po HQA20 e76; replace e78 := po HQA20 e78; replace e77 := po HQA20 e77; replace e79 := po HQA20 e79; replace e80 := po HQA20 e80; replace e81 := po HQA20 e81; replace e82 := po HQA20 e82; replace e84 := po HQA20 e84; replace e85 := po HQA20 e85; replace e86 := po HQA20 e86; replace e87 := po HQA20 e87; replace e83 := po HQA20 e83; replace e88 := po HQA20 e88; replace e89 := po HQA20 e89; replace e90 := po HQA20 e90; replace e91 := po HQA20 e91; have e92 := put_at HQA20 HS.out (by decide); replace HS := Lib.hid (put_sz HQA20 HS.out)
      refine wpAnyH_take (i := 20) (oi := _) (v := ?_) rfl (by kernel_rfl) (by kernel_rfl) (by kernel_rfl) (fun _ _ _ h => h) (Or.inl ⟨by rfl, ?_⟩) hHeld ?_
      rotate_left
      · (intro w hSw; obtain q0 := hSw; go_simp) <;> with_reducible rfl
      refine wpAnyH_letter fun ac21 HQA21 => ?_; replace e11 := po HQA21 e11; replace e13 := po HQA21 e13; replace e73 := po HQA21 e73; replace e74 := po HQA21 e74; replace e75 := po HQA21 e75; replace e76 := po HQA21 e76; replace e78 := po HQA21 e78; replace e77 := po HQA21 e77; replace e79 := po HQA21 e79; replace e80 := po HQA21 e80; replace e81 := po HQA21 e81; replace e82 := po HQA21 e82; replace e84 := po HQA21 e84; replace e85 := po HQA21 e85; replace e86 := po HQA21 e86; replace e87 := po HQA21 e87; replace e83 := po HQA21 e83; replace e88 := po HQA21 e88; replace e89 := po HQA21 e89; replace e90 := po HQA21 e90; replace e91 := po HQA21 e91; replace e92 := po HQA21 e92; have e93 := put_at HQA21 HS.out (by decide); replace HS := Lib.hid (put_sz HQA21 HS.out)
      refine wpAnyH_take (i := 21) (oi := _) (v := ?_) rfl (by kernel_rfl) (by kernel_rfl) (by kernel_rfl) (fun _ _ _ h => h) (Or.inl ⟨by rfl, ?_⟩) hHeld ?_
      rotate_left
      · (intro w hSw; obtain q0 := hSw; go_simp) <;> with_reducible rfl
      refine wpAnyH_letter fun ac22 HQA22 => ?_; replace e11 := po HQA22 e11; replace e13 := po HQA22 e13; replace e73 := po HQA22 e73; replace e74 := po HQA22 e74; replace e75 := po HQA22 e75; replace e76 := po HQA22 e76; replace e78 := po HQA22 e78; replace e77 := po HQA22 e77; replace e79 := po HQA22 e79; replace e80 := po HQA22 e80; replace e81 := po HQA22 e81; replace e82 := po HQA22 e82; replace e84 := po HQA22 e84; replace e85 := po HQA22 e85; replace e86 := po HQA22 e86; replace e87 := po HQA22 e87; replace e83 := po HQA22 e83; replace e88 := po HQA22 e88; replace e89 := po HQA22 e89; replace e90 := po HQA22 e90; replace e91 := po HQA22 e91; replace e92 := po HQA22 e92; replace e93 := po HQA22 e93; have e6 := put_at HQA22 HS.out (by decide); replace HS := Lib.hid (put_sz HQA22 HS.out)
      refine wpAnyH_done (by kernel_rfl) ?_ _
      refine NoPanic.normal ?_
      rw [HQ1.out]
      have g0 := uE0 ac0 [6, 73, 74, 75, 76, 77, 78, 79, 80, 81, 82, 83, 84, 85, 86, 87, 88, 89, 90, 91, 92, 93]
      have g1 := uE HQA1 g0 (by rfl); have g2 := uE HQA2 g1 (by rfl); have g3 := uE HQA3 g2 (by rfl); have g4 := uE HQA4 g3 (by rfl); have g5 := uE HQA5 g4 (by rfl); have g6 := uE HQA6 g5 (by rfl); have g7 := uE HQA7 g6 (by rfl); have g8 := uE HQA8 g7 (by rfl); have g9 := uE HQA9 g8 (by rfl); have g10 := uE HQA10 g9 (by rfl); have g11 := uE HQA11 g10 (by rfl); have g12 := uE HQA12 g11 (by rfl); have g13 := uE HQA13 g12 (by rfl); have g14 := uE HQA14 g13 (by rfl); have g15 := uE HQA15 g14 (by rfl); have g16 := uE HQA16 g15 (by rfl); have g17 := uE HQA17 g16 (by rfl); have g18 := uE HQA18 g17 (by rfl); have g19 := uE HQA19 g18 (by rfl); have g20 := uE HQA20 g19 (by rfl); have g21 := uE HQA21 g20 (by rfl); have g22 := uE HQA22 g21 (by rfl)
      obtain ⟨f, hf⟩ := g22
      rw [HQA0.out] at hf
      have v6 := (updL_at (k := 6) (n := 94) (by kernel_rfl) (by rfl)).symm.trans ((congrArg (fun a : Act => a.tmps[6]?.getD undef) hf.symm).trans e6)
      refine hKq _ _ (Met.intro (hJq _ _ ?_))
      refine ⟨f 6, f 73, f 74, f 75, f 76, f 77, f 78, f 79, f 80, f 81, f 82, f 83, f 84, f 85, f 86, f 87, f 88, f 89, f 90, f 91, f 92, f 93, ⟨v6.trans rfl, HWZ.out⟩, hf.trans (by kernel_rfl)⟩
    case rest =>
      obtain ⟨rfl, hk⟩ := hcut
      have HKR := Lib.hid (HK0.out.trans hk (fun _ _ h => h))
      clear hk
      go_wp2_with fail
      go_ret
      exact ⟨rfl, HKR.out⟩
  · have her : (er != er) = false := by simp
    have HER := Lib.hid h0; have HP := Lib.hid hp; have HQ := Lib.hid hq; clear hp hq hok h0
    go_enter Tryz.func9, Tryz.ntmps9
    go_upto_region 13 with (first | (go_at_call 15; refine Calls.mono (same_any TW8.out.pair) ?_; rintro e w9 ⟨rfl, hk9⟩; have HK9 := Lib.hid hk9; clear hk9) | (go_at_call 34; have hh := ropen_any (HG.out.keep TW7.out.keep) TW7.out.pair.b (HGR.out.keep TW7.out.keep (fun _ _ h => h)) hgl (by have := HDB.out; omega); rw [HQ.out] at hh; (try dsimp only at hh); refine Calls.mono hh ?_; clear hh; rintro e w8 ⟨u8, hd8, hf8, hk8, hbad8, _⟩; obtain rfl := hbad8 HER.out; have TW8 := Lib.hid (TW7.out.b hk8 hd8 hf8); clear hd8 hf8 hk8 hbad8) | (go_at_call 24; have hh := open_any (F := runF) (I := Inv) (g := g.take 10) (HG.out.keep TW6.out.keep) TW6.out.pair.a (ownsRow_rd HO6.out (icells_one _)) (by rw [List.length_take]; omega) (fun k e => (ownsRow_lt HO6.out k e).2) TW6.out.keep.size (fun e => inv_S0 (baysB_8 e)) (sys_all (by have := HDB.out; omega)); rw [HP.out] at hh; (try dsimp only at hh); refine Calls.mono hh ?_; clear hh; rintro e w7 ⟨v7, hd7, hf7, hk7, hbad7, _⟩; obtain rfl := hbad7 HER.out; have TW7 := Lib.hid (TW6.out.a hk7 hd7 hf7); clear hd7 hf7 hk7 hbad7) | (go_at_call 25; have hh := graph_any (HGR.out.keep TW5.out.keep (fun _ _ h => h)) (Nat.le_of_lt hgl); refine Calls.mono hh ?_; clear hh; rintro e w6 ⟨gv6, rfl, ho6, hk6⟩; have HO6 := Lib.hid ho6; have TW6 := Lib.hid (TW5.out.idle hk6); clear ho6 hk6) | (go_at_call 33; have hh := rfuse_any fuse hf TW4.out.pair.b; rw [HD2.out] at hh; refine Calls.mono hh ?_; clear hh; rintro e w5 ⟨rfl, ⟨u2, hd3, hf3⟩, hk3⟩; have TW5 := Lib.hid (TW4.out.b hk3 hd3 hf3); clear hd3 hf3 hk3) | (go_at_call 18; have hh := fuse_any fuse hf TW3.out.pair.a; rw [HD2.out] at hh; refine Calls.mono hh ?_; clear hh; rintro e w4 ⟨rfl, ⟨v2, hd3, hf3⟩, hk3⟩; have TW4 := Lib.hid (TW3.out.a hk3 hd3 hf3); clear hd3 hf3 hk3) | (go_at_call 32; have hh := rappend_any TW2.out.pair.b HCC.out (fun e => by have e2 : w1.heap.size = x := Option.some.inj e; have := TW1.out.pair.b.blk.lt; omega) (fun g e => by have e2 : w1.heap.size = g := Option.some.inj e; have := HLT.out; omega) (by rw [HLN.out]; have := HSZ.out; omega) TW2.out.keep.size; rw [HAPP.out] at hh; (try dsimp only at hh); refine Calls.mono hh ?_; clear hh; rintro e w3 ⟨rfl, ⟨u1, hd2, hf2⟩, hk2⟩; have TW3 := Lib.hid (TW2.out.b hk2 hd2 hf2); clear hd2 hf2 hk2) | (go_at_call 31; have tw0 := TW1.out.idle (convKeep w1 5 s); have hcc := convCell w1 s (by have := HSZ.out; omega); have hnd : w1.heap.size ≠ d := (fun e => by have := TW1.out.pair.a.blk.lt; omega); have hh := append_any tw0.pair.a hcc (fun e => hnd (Option.some.inj e)) tw0.keep.size; unfold AppendPost at hh; rw [HAPP.out] at hh; (try dsimp only at hh); refine Calls.mono hh ?_; clear hh; rintro e w2 ⟨rfl, ⟨v1, hd1, hf1⟩, hk1⟩; have TW2 := Lib.hid (tw0.a hk1 hd1 hf1); have HCC := Lib.hid (hcc.keep hk1 (fun b e e2 => e2.elim (fun e2 => hnd ((Option.some.inj e).trans e2)) (fun e2 => by cases e2))); have HLT : Hid (w1.heap.size < w2.heap.size) := Lib.hid (by have h1 := Lib.bytesWorld_size w1 5 s; have h2 := hk1.size; omega); clear tw0 hcc hnd hd1 hf1 hk1) | (go_at_call 12; refine H12.out.mono ?_; rintro e w1 ⟨hk1, hd1, _⟩; obtain ⟨d, x, rfl, hd, hx, hdd, hxx, hne⟩ := hd1 (by omega); have TW1 : Hid (Twin w w1 d x (newD 5000) (newD 5000) (.slice none 0 0) (.slice none 0 0)) := Lib.hid ⟨⟨hd, hx, fun k e => by cases e⟩, (fun k hk => hk.elim (fun e => e.elim (fun e => e ▸ hdd) (fun e => by cases e)) (fun e => e.elim (fun e => e ▸ hxx) (fun e => by cases e))), hk1⟩; clear hk1 hd1 hd hx hdd hxx hne))
    have HK0 := Lib.hid (TW8.out.keep.trans HK9.out (fun _ _ h => h))
    have HWZ : Hid (Keep (fun _ => False) w9 w9.drew) := Lib.hid (Keep.refl _ _).drew
    go_cut [6] from 73 to 93 (fun s6 wx => s6 = .bool true ∧ Keep (fun _ => False) w9 wx)
    case first =>
      rename_i Jq Kq hJq hKq
      refine region_letters fun Q1 hQ1 => ?_
      have HQ1 := Lib.hid hQ1; clear hQ1
      refine wp_region_noPanic ?_
      refine wp_region_held_drew (S := (fun _ => True)) (by kernel_rfl) (trivial) (fun hHeld => ?_)
      refine wpAnyH_letter fun ac0 HQA0 => ?_
      have HS : Hid (ac0.tmps.size = 94) := Lib.hid (by rw [HQA0.out]; kernel_rfl)
      have e11 : ac0.tmps[11]?.getD undef = .pointer none := by rw [HQA0.out]; kernel_rfl
      have e13 : ac0.tmps[13]?.getD undef = .pointer none := by rw [HQA0.out]; kernel_rfl
      refine wpAnyH_take (i := 0) (oi := _) (v := ?_) rfl (by kernel_rfl) (by kernel_rfl) (by kernel_rfl) (fun _ _ _ h => h) (Or.inl ⟨by rfl, ?_⟩) hHeld ?_
      rotate_left
      · (intro w hSw; obtain q0 := hSw; go_simp) <;> with_reducible rfl
      refine wpAnyH_letter fun ac1 HQA1 => ?_; replace e11 := po HQA1 e11; replace e13 := po HQA1 e13; have e73 := put_at HQA1 HS.out (by decide); replace HS := Lib.hid (put_sz HQA1 HS.out)
      refine wpAnyH_take (i := 1) (oi := _) (v := ?_) rfl (by kernel_rfl) (by kernel_rfl) (by kernel_rfl) (fun _ _ _ h => h) (Or.inl ⟨by rfl, ?_⟩) hHeld ?_
      rotate_left
      · (intro w hSw; obtain q0 := hSw; go_simp) <;> with_reducible rfl
      refine wpAnyH_letter fun ac2 HQA2 => ?_; replace e11 := po HQA2 e11; replace e13 := po HQA2 e13; replace e73 := po HQA2 e73; have e74 := put_at HQA2 HS.out (by decide); replace HS := Lib.hid (put_sz HQA2 HS.out)
      refine wpAnyH_take (i := 2) (oi := _) (v := ?_) rfl (by kernel_rfl) (by kernel_rfl) (by kernel_rfl) (fun _ _ _ h => h) (Or.inl ⟨by rfl, ?_⟩) hHeld ?_
      rotate_left
      · (intro w hSw; obtain q0 := hSw; go_simp) <;> with_reducible rfl
      refine wpAnyH_letter fun ac3 HQA3 => ?_; replace e11 := po HQA3 e11; replace e13 := po HQA3 e13; replace e73 := po HQA3 e73; replace e74 := po HQA3 e74; have e75 := put_at HQA3 HS.out (by decide); replace HS := Lib.hid (put_sz HQA3 HS.out)
      replace e75 : ac3.tmps[75]?.getD undef = .bool true := e75
      refine wpAnyH_take (i := 3) (oi := _) (v := undef) rfl (by kernel_rfl) (by kernel_rfl) (by kernel_rfl) (fun _ _ _ h => h) (Or.inr ⟨want_of (b' := true) (b := false) rfl rfl rfl e75, rfl⟩) hHeld ?_
      refine wpAnyH_letter fun ac4 HQA4 => ?_; replace e11 := po HQA4 e11; replace e13 := po HQA4 e13; replace e73 := po HQA4 e73; replace e74 := po HQA4 e74; replace e75 := po HQA4 e75; have e76 := put_at HQA4 HS.out (by decide); replace HS := Lib.hid (put_sz HQA4 HS.out)
      refine wpAnyH_take (i := 4) (oi := _) (v := undef) rfl (by kernel_rfl) (by kernel_rfl) (by kernel_rfl) (fun _ _ _ h => h) (Or.inr ⟨want_of (b' := true) (b := false) rfl rfl rfl e75, rfl⟩) hHeld ?_
      refine wpAnyH_letter fun ac5 HQA5 => ?_; replace e11 := po HQA5 e11; replace e13 := po HQA5 e13; replace e73 := po HQA5 e73; replace e74 := po HQA5 e74; replace e75 := po HQA5 e75; replace e76 := po HQA5 e76; have e77 := put_at HQA5 HS.out (by decide); replace HS := Lib.hid (put_sz HQA5 HS.out)
      refine wpAnyH_take (i := 5) (oi := _) (v := undef) rfl (by kernel_rfl) (by kernel_rfl) (by kernel_rfl) (fun _ _ _ h => h) (Or.inr ⟨want_of (b' := true) (b := false) rfl rfl rfl e75, rfl⟩) hHeld ?_
      refine wpAnyH_letter fun ac6 HQA6 => ?_; replace e11 := po HQA6 e11; replace e13 := po HQA6 e13; replace e73 := po HQA6 e73; replace e74 := po HQA6 e74; replace e75 := po HQA6 e75; replace e76 := po HQA6 e76; replace e77 := po HQA6 e77; have e78 := put_at HQA6 HS.out (by decide); replace HS := Lib.hid (put_sz HQA6 HS.out)
      refine wpAnyH_take (i := 6) (oi := _) (v := undef) rfl (by kernel_rfl) (by kernel_rfl) (by kernel_rfl) (fun _ _ _ h => h) (Or.inr ⟨want_of (b' := true) (b := false) rfl rfl rfl e75, rfl⟩) hHeld ?_
      refine wpAnyH_letter fun ac7 HQA7 => ?_; replace e11 := po HQA7 e11; replace e13 := po HQA7 e13; replace e73 := po HQA7 e73; replace e74 := po HQA7 e74; replace e75 := po HQA7 e75; replace e76 := po HQA7 e76; replace e77 := po HQA7 e77; replace e78 := po HQA7 e78; have e79 := put_at HQA7 HS.out (by decide); replace HS := Lib.hid (put_sz HQA7 HS.out)
      refine wpAnyH_take (i := 7) (oi := _) (v := undef) rfl (by kernel_rfl) (by kernel_rfl) (by kernel_rfl) (fun _ _ _ h => h) (Or.inr ⟨want_of (b' := true) (b := false) rfl rfl rfl e75, rfl⟩) hHeld ?_
      refine wpAnyH_letter fun ac8 HQA8 => ?_; replace e11 := po HQA8 e11; replace e13 := po HQA8 e13; replace e73 := po HQA8 e73; replace e74 := po HQA8 e74; replace e75 := po HQA8 e75; replace e76 := po HQA8 e76; replace e77 := po HQA8 e77; replace e78 := po HQA8 e78; replace e79 := po HQA8 e79; have e80 := put_at HQA8 HS.out (by decide); replace HS := Lib.hid (put_sz HQA8 HS.out)
      refine wpAnyH_take (i := 8) (oi := _) (v := undef) rfl (by kernel_rfl) (by kernel_rfl) (by kernel_rfl) (fun _ _ _ h => h) (Or.inr ⟨want_of (b' := true) (b := false) rfl rfl rfl e75, rfl⟩) hHeld ?_
      refine wpAnyH_letter fun ac9 HQA9 => ?_; replace e11 := po HQA9 e11; replace e13 := po HQA9 e13; replace e73 := po HQA9 e73; replace e74 := po HQA9 e74; replace e75 := po HQA9 e75; replace e76 := po HQA9 e76; replace e77 := po HQA9 e77; replace e78 := po HQA9 e78; replace e79 := po HQA9 e79; replace e80 := po HQA9 e80; have e81 := put_at HQA9 HS.out (by decide); replace HS := Lib.hid (put_sz HQA9 HS.out)
      refine wpAnyH_take (i := 9) (oi := _) (v := undef) rfl (by kernel_rfl) (by kernel_rfl) (by kernel_rfl) (fun _ _ _ h => h) (Or.inr ⟨want_undef rfl rfl rfl e81, rfl⟩) hHeld ?_
      refine wpAnyH_letter fun ac10 HQA10 => ?_; replace e11 := po HQA10 e11; replace e13 := po HQA10 e13; replace e73 := po HQA10 e73; replace e74 := po HQA10 e74; replace e75 := po HQA10 e75; replace e76 := po HQA10 e76; replace e77 := po HQA10 e77; replace e78 := po HQA10 e78; replace e79 := po HQA10 e79; replace e80 := po HQA10 e80; replace e81 := po HQA10 e81; have e82 := put_at HQA10 HS.out (by decide); replace HS := Lib.hid (put_sz HQA10 HS.out)
      refine wpAnyH_take (i := 10) (oi := _) (v := undef) rfl (by kernel_rfl) (by kernel_rfl) (by kernel_rfl) (fun _ _ _ h => h) (Or.inr ⟨want_undef rfl rfl rfl e81, rfl⟩) hHeld ?_
      refine wpAnyH_letter fun ac11 HQA11 => ?_; replace e11 := po HQA11 e11; replace e13 := po HQA11 e13; replace e73 := po HQA11 e73; replace e74 := po HQA11 e74; replace e75 := po HQA11 e75; replace e76 := po HQA11 e76; replace e77 := po HQA11 e77; replace e78 := po HQA11 e78; replace e79 := po HQA11 e79; replace e80 := po HQA11 e80; replace e81 := po HQA11 e81; replace e82 := po HQA11 e82; have e83 := put_at HQA11 HS.out (by decide); replace HS := Lib.hid (put_sz HQA11 HS.out)
      refine wpAnyH_take (i := 11) (oi := _) (v := undef) rfl (by kernel_rfl) (by kernel_rfl) (by kernel_rfl) (fun _ _ _ h => h) (Or.inr ⟨want_undef rfl rfl rfl e81, rfl⟩) hHeld ?_
      refine wpAnyH_letter fun ac12 HQA12 => ?_; replace e11 := po HQA12 e11; replace e13 := po HQA12 e13; replace e73 := po HQA12 e73; replace e74 := po HQA12 e74; replace e75 := po HQA12 e75; replace e76 := po HQA12 e76; replace e77 := po HQA12 e77; replace e78 := po HQA12 e78; replace e79 := po HQA12 e79; replace e80 := po HQA12 e80; replace e81 := po HQA12 e81; replace e82 := po HQA12 e82; replace e83 := po HQA12 e83; have e84 := put_at HQA12 HS.out (by decide); replace HS := Lib.hid (put_sz HQA12 HS.out)
      refine wpAnyH_take (i := 12) (oi := _) (v := undef) rfl (by kernel_rfl) (by kernel_rfl) (by kernel_rfl) (fun _ _ _ h => h) (Or.inr ⟨want_undef rfl rfl rfl e81, rfl⟩) hHeld ?_
      refine wpAnyH_letter fun ac13 HQA13 => ?_; replace e11 := po HQA13 e11; replace e13 := po HQA13 e13; replace e73 := po HQA13 e73; replace e74 := po HQA13 e74; replace e75 := po HQA13 e75; replace e76 := po HQA13 e76; replace e77 := po HQA13 e77; replace e78 := po HQA13 e78; replace e79 := po HQA13 e79; replace e80 := po HQA13 e80; replace e81 := po HQA13 e81; replace e82 := po HQA13 e82; replace e83 := po HQA13 e83; replace e84 := po HQA13 e84; have e85 := put_at HQA13 HS.out (by decide); replace HS := Lib.hid (put_sz HQA13 HS.out)
      refine wpAnyH_take (i := 13) (oi := _) (v := undef) rfl (by kernel_rfl) (by kernel_rfl) (by kernel_rfl) (fun _ _ _ h => h) (Or.inr ⟨want_undef rfl rfl rfl e81, rfl⟩) hHeld ?_
      refine wpAnyH_letter fun ac14 HQA14 => ?_; replace e11 := po HQA14 e11; replace e13 := po HQA14 e13; replace e73 := po HQA14 e73; replace e74 := po HQA14 e74; replace e75 := po HQA14 e75; replace e76 := po HQA14 e76; replace e77 := po HQA14 e77; replace e78 := po HQA14 e78; replace e79 := po HQA14 e79; replace e80 := po HQA14 e80; replace e81 := po HQA14 e81; replace e82 := po HQA14 e82; replace e83 := po HQA14 e83; replace e84 := po HQA14 e84; replace e85 := po HQA14 e85; have e86 := put_at HQA14 HS.out (by decide); replace HS := Lib.hid (put_sz HQA14 HS.out)
      refine wpAnyH_take (i := 14) (oi := _) (v := undef) rfl (by kernel_rfl) (by kernel_rfl) (by kernel_rfl) (fun _ _ _ h => h) (Or.inr ⟨want_undef rfl rfl rfl e81, rfl⟩) hHeld ?_
      refine wpAnyH_letter fun ac15 HQA15 => ?_; replace e11 := po HQA15 e11; replace e13 := po HQA15 e13; replace e73 := po HQA15 e73; replace e74 := po HQA15 e74; replace e75 := po HQA15 e75; replace e76 := po HQA15 e76; replace e77 := po HQA15 e77; replace e78 := po HQA15 e78; replace e79 := po HQA15 e79; replace e80 := po HQA15 e80; replace e81 := po HQA15 e81; replace e82 := po HQA15 e82; replace e83 := po HQA15 e83; replace e84 := po HQA15 e84; replace e85 := po HQA15 e85; replace e86 := po HQA15 e86; have e87 := put_at HQA15 HS.out (by decide); replace HS := Lib.hid (put_sz HQA15 HS.out)
      refine wpAnyH_take (i := 15) (oi := _) (v := undef) rfl (by kernel_rfl) (by kernel_rfl) (by kernel_rfl) (fun _ _ _ h => h) (Or.inr ⟨want_undef rfl rfl rfl e81, rfl⟩) hHeld ?_
      refine wpAnyH_letter fun ac16 HQA16 => ?_; replace e11 := po HQA16 e11; replace e13 := po HQA16 e13; replace e73 := po HQA16 e73; replace e74 := po HQA16 e74; replace e75 := po HQA16 e75; replace e76 := po HQA16 e76; replace e77 := po HQA16 e77; replace e78 := po HQA16 e78; replace e79 := po HQA16 e79; replace e80 := po HQA16 e80; replace e81 := po HQA16 e81; replace e82 := po HQA16 e82; replace e83 := po HQA16 e83; replace e84 := po HQA16 e84; replace e85 := po HQA16 e85; replace e86 := po HQA16 e86; replace e87 := po HQA16 e87; have e88 := put_at HQA16 HS.out (by decide); replace HS := Lib.hid (put_sz HQA16 HS.out)
      refine wpAnyH_take (i := 16) (oi := _) (v := undef) rfl (by kernel_rfl) (by kernel_rfl) (by kernel_rfl) (fun _ _ _ h => h) (Or.inr ⟨want_of (b' := true) (b := false) rfl rfl rfl e75, rfl⟩) hHeld ?_
      refine wpAnyH_letter fun ac17 HQA17 => ?_; replace e11 := po HQA17 e11; replace e13 := po HQA17 e13; replace e73 := po HQA17 e73; replace e74 := po HQA17 e74; replace e75 := po HQA17 e75; replace e76 := po HQA17 e76; replace e77 := po HQA17 e77; replace e78 := po HQA17 e78; replace e79 := po HQA17 e79; replace e80 := po HQA17 e80; replace e81 := po HQA17 e81; replace e82 := po HQA17 e82; replace e83 := po HQA17 e83; replace e84 := po HQA17 e84; replace e85 := po HQA17 e85; replace e86 := po HQA17 e86; replace e87 := po HQA17 e87; replace e88 := po HQA17 e88; have e89 := put_at HQA17 HS.out (by decide); replace HS := Lib.hid (put_sz HQA17 HS.out)
      refine wpAnyH_take (i := 17) (oi := _) (v := ?_) rfl (by kernel_rfl) (by kernel_rfl) (by kernel_rfl) (fun _ _ _ h => h) (Or.inl ⟨by rfl, ?_⟩) hHeld ?_
      rotate_left
      · (intro w hSw; obtain q0 := hSw; go_simp) <;> with_reducible rfl
      refine wpAnyH_letter fun ac18 HQA18 => ?_; replace e11 := po HQA18 e11; replace e13 := po HQA18 e13; replace e73 := po HQA18 e73; replace e74 := po HQA18 e74; replace e75 := po HQA18 e75; replace e76 := po HQA18 e76; replace e77 := po HQA18 e77; replace e78 := po HQA18 e78; replace e79 := po HQA18 e79; replace e80 := po HQA18 e80; replace e81 := po HQA18 e81; replace e82 := po HQA18 e82; replace e83 := po HQA18 e83; replace e84 := po HQA18 e84; replace e85 := po HQA18 e85; replace e86 := po HQA18 e86; replace e87 := po HQA18 e87; replace e88 := po HQA18 e88; replace e89 := po HQA18 e89; have e90 := put_at HQA18 HS.out (by decide); replace HS := Lib.hid (put_sz HQA18 HS.out)
      refine wpAnyH_take (i := 18) (oi := _) (v := ?_) rfl (by kernel_rfl) (by kernel_rfl) (by kernel_rfl) (fun _ _ _ h => h) (Or.inl ⟨by rfl, ?_⟩) hHeld ?_
      rotate_left
      · (intro w hSw; obtain q0 := hSw; go_simp) <;> with_reducible rfl
      refine wpAnyH_letter fun ac19 HQA19 => ?_; replace e11 := po HQA19 e11; replace e13 := po HQA19 e13; replace e73 := po HQA19 e73; replace e74 := po HQA19 e74; replace e75 := po HQA19 e75; replace e76 := po HQA19 e76; replace e77 := po HQA19 e77; replace e78 := po HQA19 e78; replace e79 := po HQA19 e79; replace e80 := po HQA19 e80; replace e81 := po HQA19 e81; replace e82 := po HQA19 e82; replace e83 := po HQA19 e83; replace e84 := po HQA19 e84; replace e85 := po HQA19 e85; replace e86 := po HQA19 e86; replace e87 := po HQA19 e87; replace e88 := po HQA19 e88; replace e89 := po HQA19 e89; replace e90 := po HQA19 e90; have e91 := put_at HQA19 HS.out (by decide); replace HS := Lib.hid (put_sz HQA19 HS.out)
      replace e91 : ac19.tmps[91]?.getD undef = .bool true := e91
      refine wpAnyH_ready (rs := [19]) (by kernel_rfl) (by simp) ?_; refine AllReadyH.cons (o := _) rfl (fun K hK => ?_) AllReadyH.nil
      rw [if_pos (by exact want_of (b' := true) (b := true) rfl rfl rfl e91)]
      go_simp
      refine Calls.mono (awake_any (HG.out.keep (HK0.out.trans HWZ.out (fun _ _ h => h)))) ?_
      rintro e wq ⟨rfl, hk⟩
      have HWZ := Lib.hid (HWZ.out.trans hk (fun _ _ h => h))
      clear hk
      (try dsimp only)
      refine hK.out _ _ ?_ (fun hHeld => ?_)
      · trivial
      clear hK K; refine wpAnyH_letter fun ac20 HQA20 => ?_; replace e11 := po HQA20 e11; replace e13 := po HQA20 e13; replace e73 := po HQA20 e73; replace e74 := po HQA20 e74; replace e75 := po HQA20 e75; replace e76 := po HQA20 e76; replace e77 := po HQA20 e77; replace e78 := po HQA20 e78; replace e79 := po HQA20 e79; replace e80 := po HQA20 e80; replace e81 := po HQA20 e81; replace e82 := po HQA20 e82; replace e83 := po HQA20 e83; replace e84 := po HQA20 e84; replace e85 := po HQA20 e85; replace e86 := po HQA20 e86; replace e87 := po HQA20 e87; replace e88 := po HQA20 e88; replace e89 := po HQA20 e89; replace e90 := po HQA20 e90; replace e91 := po HQA20 e91; have e92 := put_at HQA20 HS.out (by decide); replace HS := Lib.hid (put_sz HQA20 HS.out)
      refine wpAnyH_take (i := 20) (oi := _) (v := ?_) rfl (by kernel_rfl) (by kernel_rfl) (by kernel_rfl) (fun _ _ _ h => h) (Or.inl ⟨by rfl, ?_⟩) hHeld ?_
      rotate_left
      · (intro w hSw; obtain q0 := hSw; go_simp) <;> with_reducible rfl
      refine wpAnyH_letter fun ac21 HQA21 => ?_; replace e11 := po HQA21 e11; replace e13 := po HQA21 e13; replace e73 := po HQA21 e73; replace e74 := po HQA21 e74; replace e75 := po HQA21 e75; replace e76 := po HQA21 e76; replace e77 := po HQA21 e77; replace e78 := po HQA21 e78; replace e79 := po HQA21 e79; replace e80 := po HQA21 e80; replace e81 := po HQA21 e81; replace e82 := po HQA21 e82; replace e83 := po HQA21 e83; replace e84 := po HQA21 e84; replace e85 := po HQA21 e85; replace e86 := po HQA21 e86; replace e87 := po HQA21 e87; replace e88 := po HQA21 e88; replace e89 := po HQA21 e89; replace e90 := po HQA21 e90; replace e91 := po HQA21 e91; replace e92 := po HQA21 e92; have e93 := put_at HQA21 HS.out (by decide); replace HS := Lib.hid (put_sz HQA21 HS.out)
      refine wpAnyH_take (i := 21) (oi := _) (v := ?_) rfl (by kernel_rfl) (by kernel_rfl) (by kernel_rfl) (fun _ _ _ h => h) (Or.inl ⟨by rfl, ?_⟩) hHeld ?_
      rotate_left
      · (intro w hSw; obtain q0 := hSw; go_simp) <;> with_reducible rfl
      refine wpAnyH_letter fun ac22 HQA22 => ?_; replace e11 := po HQA22 e11; replace e13 := po HQA22 e13; replace e73 := po HQA22 e73; replace e74 := po HQA22 e74; replace e75 := po HQA22 e75; replace e76 := po HQA22 e76; replace e77 := po HQA22 e77; replace e78 := po HQA22 e78; replace e79 := po HQA22 e79; replace e80 := po HQA22 e80; replace e81 := po HQA22 e81; replace e82 := po HQA22 e82; replace e83 := po HQA22 e83; replace e84 := po HQA22 e84; replace e85 := po HQA22 e85; replace e86 := po HQA22 e86; replace e87 := po HQA22 e87; replace e88 := po HQA22 e88; replace e89 := po HQA22 e89; replace e90 := po HQA22 e90; replace e91 := po HQA22 e91; replace e92 := po HQA22 e92; replace e93 := po HQA22 e93; have e6 := put_at HQA22 HS.out (by decide); replace HS := Lib.hid (put_sz HQA22 HS.out)
      refine wpAnyH_done (by kernel_rfl) ?_ _
      refine NoPanic.normal ?_
      rw [HQ1.out]
      have g0 := uE0 ac0 [6, 73, 74, 75, 76, 77, 78, 79, 80, 81, 82, 83, 84, 85, 86, 87, 88, 89, 90, 91, 92, 93]
      have g1 := uE HQA1 g0 (by rfl); have g2 := uE HQA2 g1 (by rfl); have g3 := uE HQA3 g2 (by rfl); have g4 := uE HQA4 g3 (by rfl); have g5 := uE HQA5 g4 (by rfl); have g6 := uE HQA6 g5 (by rfl); have g7 := uE HQA7 g6 (by rfl); have g8 := uE HQA8 g7 (by rfl); have g9 := uE HQA9 g8 (by rfl); have g10 := uE HQA10 g9 (by rfl); have g11 := uE HQA11 g10 (by rfl); have g12 := uE HQA12 g11 (by rfl); have g13 := uE HQA13 g12 (by rfl); have g14 := uE HQA14 g13 (by rfl); have g15 := uE HQA15 g14 (by rfl); have g16 := uE HQA16 g15 (by rfl); have g17 := uE HQA17 g16 (by rfl); have g18 := uE HQA18 g17 (by rfl); have g19 := uE HQA19 g18 (by rfl); have g20 := uE HQA20 g19 (by rfl); have g21 := uE HQA21 g20 (by rfl); have g22 := uE HQA22 g21 (by rfl)
      obtain ⟨f, hf⟩ := g22
      rw [HQA0.out] at hf
      have v6 := (updL_at (k := 6) (n := 94) (by kernel_rfl) (by rfl)).symm.trans ((congrArg (fun a : Act => a.tmps[6]?.getD undef) hf.symm).trans e6)
      refine hKq _ _ (Met.intro (hJq _ _ ?_))
      refine ⟨f 6, f 73, f 74, f 75, f 76, f 77, f 78, f 79, f 80, f 81, f 82, f 83, f 84, f 85, f 86, f 87, f 88, f 89, f 90, f 91, f 92, f 93, ⟨v6.trans rfl, HWZ.out⟩, hf.trans (by kernel_rfl)⟩
    case rest =>
      obtain ⟨rfl, hk⟩ := hcut
      have HKR := Lib.hid (HK0.out.trans hk (fun _ _ h => h))
      clear hk
      go_wp2_with fail
      go_ret
      exact ⟨rfl, HKR.out⟩
end Go.Proofs.YthdkamnclbfehaaGreatDoor
