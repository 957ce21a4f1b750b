/- house.Open. -/
import Derived.Test.YthdkamnclbfehaaGreatDoorHouse
namespace Go.Proofs.YthdkamnclbfehaaGreatDoor
set_option linter.unusedSimpArgs false
set_option linter.unusedVariables false
set_option linter.unnecessarySimpa false
open Go.RowKit

/-- What holds at the head of Open's loop. -/
def OpenRel (F : Nat → St → FA → Res) (I : Nat → St → Prop) (w : World) (D : Dsk) (g : List Int) (bd hb : Nat) (bv : Value) (i : Value) (wr : World) : Prop :=
  ∃ (rest : List UInt8) (S : St) (ls : List ByteArray) (at_ fuel : Nat) (V : StV) (lo : Option Addr) (lc : Nat),
    i = .int .i64 at_ ∧ at_ ≤ D.bytes.length ∧ rest = D.bytes.drop at_ ∧ rest.length < fuel ∧ openLoop F fuel rest S ls at_ = openLoop F (D.bytes.length + 1) D.bytes (S0 g) [] 0 ∧ I ls.length S ∧ ls.length ≤ at_ ∧
    Blk wr hb #[.pointer (some ⟨bd, 0, none⟩), .pointer (some ⟨V.b, 0, none⟩), .slice lo ls.length lc, .bool false] 106 ∧ StAt wr V S ∧
    (∀ k, V.fp k → w.heap.size ≤ k ∧ k ≠ hb ∧ (Value.slice lo ls.length lc).ownBlock ≠ some k) ∧
    wr.ownsRow w.heap.size 9 1 (.slice lo ls.length lc) ls.length (strCells ls) ∧ wr.ownsRow w.heap.size 5 1 bv D.bytes.length (bcells D.bytes) ∧ Keep (fun _ => False) w wr

set_option maxHeartbeats 6000000 in
set_option maxRecDepth 100000 in
theorem open_any {base bd : Nat} {w : World} {D : Dsk} {v gv : Value} {g : List Int} {F : Nat → St → FA → Res} {I : Nat → St → Prop} (hG : Glob w) (hd : DiskAt base w bd D v) (hg : Rd w 1 gv g.length (icells g)) (hgl : g.length ≤ 1000000)
    (hglt : ∀ k, gv.ownBlock = some k → k < w.heap.size) (hb : base ≤ w.heap.size) (hI : baysB g = true → I 0 (S0 g)) (hsys : Sys F I D.bytes.length D.bytes.length) :
    Calls Tryz.prog 24 #[.pointer (some ⟨bd, 0, none⟩), gv] w (OpenPost base w bd v (openF F D g)) := by
  obtain ⟨go, gc, hve, _⟩ := hg.shape
  subst hve
  have hbays := bays_any hg (by omega) hG.tab (by have := hG.size; omega)
  have HD := Lib.hid hd; clear hd
  have HG := Lib.hid hG; clear hG
  have HGV := Lib.hid hg; clear hg
  have HGL := Lib.hid hglt; clear hglt
  cases hbay : baysB g with
  | false =>
    have HF := Lib.hid (show openF F D g = ⟨2, D, S0 g, []⟩ by unfold openF; rw [hbay]; rfl)
    rw [hbay] at hbays
    have HB := Lib.hid hbays; clear hbays hbay
    go_enter Tryz.func24, Tryz.ntmps24
    go_wp2_with (first
      | (go_at_call 51; refine (none_any HD.out).mono ?_; rintro e w' ⟨rfl, rfl⟩)
      | (go_at_call 54; refine HB.out.mono ?_; rintro e w1 ⟨rfl, hk1⟩; have HK1 := Lib.hid hk1; clear hk1))
    go_ret2
    refine ⟨v, ?_, .inl rfl, HK1.out.mono (fun _ _ h => h.elim), fun _ => by rw [HF.out]; rfl, fun e => by rw [HF.out] at e; cases e⟩
    rw [HF.out]
    exact HD.out.keep HK1.out (fun h => h) (fun _ _ h => h)
  | true =>
    replace hI := hI hbay
    rw [hbay] at hbays
    have HB := Lib.hid hbays; clear hbays
    cases hoff : D.off with
    | true =>
      have HF := Lib.hid (show openF F D g = ⟨10, D, S0 g, []⟩ by unfold openF; rw [hbay, hoff]; rfl)
      have HOFF := Lib.hid hoff; clear hoff hbay
      go_enter Tryz.func24, Tryz.ntmps24
      go_wp2_with (first
        | (go_at_call 51; refine (none_any HD.out).mono ?_; rintro e w' ⟨rfl, rfl⟩)
        | (go_at_call 54; refine HB.out.mono ?_; rintro e w1 ⟨rfl, hk1⟩; have HK1 := Lib.hid hk1; clear hk1)
        | (go_at_call 29; have hh := read_any (HD.out.keep HK1.out (fun h => h) (fun _ _ h => h)); refine Calls.mono hh ?_; clear hh; rintro e w2 ⟨v', rfl, ho2, hk2⟩; rw [HOFF.out]; simp only [if_true]; have HK2 := Lib.hid hk2; clear hk2))
      go_ret2
      refine ⟨v, ?_, .inl rfl, (HK1.out.trans HK2.out (fun _ _ h => h)).mono (fun _ _ h => h.elim), fun _ => by rw [HF.out]; rfl, fun e => by rw [HF.out] at e; cases e⟩
      rw [HF.out]
      exact HD.out.keep (HK1.out.trans HK2.out (fun _ _ h => h)) (fun h => h) (fun _ _ h => h)
    | false =>
      have HF := Lib.hid (show openF F D g = openEnd D (openLoop F (D.bytes.length + 1) D.bytes (S0 g) [] 0) by unfold openF; rw [hbay, hoff]; rfl)
      have HOFF := Lib.hid hoff; clear hoff hbay
      go_enter Tryz.func24, Tryz.ntmps24
      go_wp2_with (first
        | (go_at_call 51; refine (none_any HD.out).mono ?_; rintro e w' ⟨rfl, rfl⟩)
        | (go_at_call 54; refine HB.out.mono ?_; rintro e w1 ⟨rfl, hk1⟩; have HK1 := Lib.hid hk1; clear hk1)
        | (go_at_call 29; have hh := read_any (HD.out.keep HK1.out (fun h => h) (fun _ _ h => h)); refine Calls.mono hh ?_; clear hh; rintro e w2 ⟨v', rfl, ho2, hk2⟩; rw [HOFF.out] at ho2; rw [HOFF.out]; simp only [Bool.false_eq_true, if_false] at ho2; simp only [Bool.false_eq_true, if_false]; obtain ⟨bo, bc, rfl, hbc⟩ := ownsRow_shape ho2; have HO2 := Lib.hid ho2; clear ho2; have HK2 := Lib.hid hk2; clear hk2)
        | (go_at_call 55; have hh := clone55 ((HGV.out.keep HK1.out (fun _ _ h => h)).keep HK2.out (fun _ _ h => h)) (by omega); refine Calls.mono hh ?_; clear hh; rintro e w3 ⟨gv', rfl, ho3, hk3⟩; obtain ⟨go', gc', rfl, hgc⟩ := ownsRow_shape ho3; have HO3 := Lib.hid ho3; clear ho3; have HK3 := Lib.hid hk3; clear hk3))
      have hz2 := HK1.out.size
      have hz3 := HK2.out.size
      have hz4 := HK3.out.size
      have hn3 : Blk ((w3.alloc (.cells #[.slice go' g.length gc', .slice none 0 0, .slice none 0 0, .slice none 0 0, .slice none 0 0] 113)).alloc (.cells #[.pointer (some ⟨bd, 0, none⟩), .pointer (some ⟨w3.heap.size, 0, none⟩), .slice none 0 0, .bool false] 106)) w3.heap.size (StV.cells ⟨w3.heap.size, .slice go' g.length gc', .slice none 0 0, .slice none 0 0, .slice none 0 0, .slice none 0 0⟩) 113 := (Blk.new _ _ _).alloc _
      have hn4 : Blk ((w3.alloc (.cells #[.slice go' g.length gc', .slice none 0 0, .slice none 0 0, .slice none 0 0, .slice none 0 0] 113)).alloc (.cells #[.pointer (some ⟨bd, 0, none⟩), .pointer (some ⟨w3.heap.size, 0, none⟩), .slice none 0 0, .bool false] 106)) (w3.heap.size + 1) #[.pointer (some ⟨bd, 0, none⟩), .pointer (some ⟨w3.heap.size, 0, none⟩), .slice none 0 0, .bool false] 106 := by
        have := Blk.new (w3.alloc (.cells #[.slice go' g.length gc', .slice none 0 0, .slice none 0 0, .slice none 0 0, .slice none 0 0] 113)) #[.pointer (some ⟨bd, 0, none⟩), .pointer (some ⟨w3.heap.size, 0, none⟩), .slice none 0 0, .bool false] 106
        rwa [World.size_alloc] at this
      have hk34 : Keep (fun _ => False) w3 ((w3.alloc (.cells #[.slice go' g.length gc', .slice none 0 0, .slice none 0 0, .slice none 0 0, .slice none 0 0] 113)).alloc (.cells #[.pointer (some ⟨bd, 0, none⟩), .pointer (some ⟨w3.heap.size, 0, none⟩), .slice none 0 0, .bool false] 106)) := ((Keep.refl _ _).alloc _).alloc _
      obtain ⟨w4, hw4⟩ : ∃ w4, w4 = ((w3.alloc (.cells #[.slice go' g.length gc', .slice none 0 0, .slice none 0 0, .slice none 0 0, .slice none 0 0] 113)).alloc (.cells #[.pointer (some ⟨bd, 0, none⟩), .pointer (some ⟨w3.heap.size, 0, none⟩), .slice none 0 0, .bool false] 106)) := ⟨_, rfl⟩
      rw [← hw4] at hn3 hn4 hk34
      rw [← hw4]
      clear hw4
      have hk04 : Keep (fun _ => False) w w4 := ((HK1.out.trans HK2.out (fun _ _ h => h)).trans HK3.out (fun _ _ h => h)).trans hk34 (fun _ _ h => h)
      have hst0 : StAt w4 ⟨w3.heap.size, .slice go' g.length gc', .slice none 0 0, .slice none 0 0, .slice none 0 0, .slice none 0 0⟩ (S0 g) := by
        refine ⟨hn3, ownsRow_rd (ownsRow_keep HO3.out hk34 (fun _ _ h => h)) (icells_one _), Rd.nil _ _, Rd.nil _ _, Rd.nil _ _, Rd.nil _ _, fun k hk => ?_⟩
        have h5 := hn3.lt
        rcases hk with e | e | e | e | e | e
        · rw [e]; exact h5
        · have := (ownsRow_lt HO3.out k e).2; omega
        · cases e
        · cases e
        · cases e
        · cases e
      have hfp0 : ∀ k, StV.fp ⟨w3.heap.size, .slice go' g.length gc', .slice none 0 0, .slice none 0 0, .slice none 0 0, .slice none 0 0⟩ k → w.heap.size ≤ k ∧ k ≠ w3.heap.size + 1 := fun k hk => by
        rcases hk with e | e | e | e | e | e
        · exact ⟨by rw [e]; show w.heap.size ≤ w3.heap.size; omega, by rw [e]; show w3.heap.size ≠ w3.heap.size + 1; omega⟩
        · have h6 := ownsRow_lt HO3.out k e
          exact ⟨by omega, by omega⟩
        · cases e
        · cases e
        · cases e
        · cases e
      have HREL : Hid (OpenRel F I w D g bd (w3.heap.size + 1) (.slice bo D.bytes.length bc) (.int .i64 0) w4) := Lib.hid
        ⟨D.bytes, S0 g, [], 0, D.bytes.length + 1, _, none, 0, rfl, Nat.zero_le _, rfl, by omega, rfl, hI, Nat.le_refl _, hn4, hst0, fun k hk => ⟨(hfp0 k hk).1, (hfp0 k hk).2, fun h => by cases h⟩, World.ownsRow_nil _ _ _ _, ownsRow_base (ownsRow_keep (ownsRow_keep HO2.out HK3.out (fun _ _ h => h)) hk34 (fun _ _ h => h)) hz2, hk04⟩
      clear hst0 hfp0 hn3 hn4 hk34 hk04
      have HSYS := Lib.hid hsys; clear hsys hI
      go_loopw [9] (OpenRel F I w D g bd (w3.heap.size + 1) (.slice bo D.bytes.length bc)) (fun i _ => D.bytes.length - (intOf i).toNat)
      · exact HREL.out
      case round =>
        obtain ⟨rest, S, ls, at_, fuel, V, lo, lc, rfl, hat, hrest, hfuel, hloop, hinv, hls, hblk, hst, hsep, hown, hby, hkeep⟩ := hrel
        have HLOOP := Lib.hid hloop; clear hloop
        have HINV := Lib.hid hinv; clear hinv
        have HBLK := Lib.hid hblk; clear hblk
        have HST := Lib.hid hst; clear hst
        have HSEP := Lib.hid hsep; clear hsep
        have HOWN := Lib.hid hown; clear hown
        have HBY := Lib.hid hby; clear hby
        have HKEEP := Lib.hid hkeep; clear hkeep
        subst hrest
        have hlat : (at_ : Int) ≤ (D.bytes.length : Int) := by omega
        have hdb := HD.out.ok.size1
        have hdf := HD.out.ok.fits
        obtain ⟨rest, hrest⟩ : ∃ rest, D.bytes.drop at_ = rest := ⟨_, rfl⟩
        obtain ⟨so, hso⟩ : ∃ so, (if bc = at_ then bo else bo.map (fun x => x.add at_)) = so := ⟨_, rfl⟩
        have hrl : rest.length = D.bytes.length - at_ := by rw [← hrest, List.length_drop]
        have hsl : ∀ W, (Instr.slice 61 (.slice bo D.bytes.length bc) (some (.int .i64 (at_ : Int))) none none).run Tryz.prog W = .ok (.slice so rest.length (bc - at_)) W := fun W => by
          rw [run_slice_l W 61 bo D.bytes.length bc (by kernel_rfl) .i64 (at_ : Int) (by omega) hlat]
          have h1 : (sizeOf (Tryz.prog.elem 61)).run Tryz.prog W = .ok 1 W := by kernel_rfl
          rw [h1]
          simp only [Result.andThen_ok, sliced, Int.toNat_natCast, Nat.mul_one, hso, hrl]
        have hrd : Rd wr 1 (.slice so rest.length (bc - at_)) rest.length (bcells rest) := by
          have := (ownsRow_rd HBY.out (bcells_one _)).drop1 at_ hat
          rwa [hso, hrest] at this
        rw [hrest] at hfuel HLOOP
        have HRD := Lib.hid hrd
        have hso2 : ∀ b, (Value.slice so (cutPre rest).length (bc - at_)).ownBlock = some b → (Value.slice bo D.bytes.length bc).ownBlock = some b := fun b e => by
          rw [← hso] at e
          split at e
          · cases bo <;> exact e
          · cases bo with
            | none => exact e
            | some x => obtain ⟨xb, xo, xs⟩ := x; simp only [Option.map_some, Addr.add] at e; split at e <;> exact e
        have HREST := Lib.hid hrest; clear hrest hso
        have hpl := cutPre_length rest
        have hcv : Hid (∀ W, Keep (fun k => ¬ (Value.slice bo D.bytes.length bc).ownBlock = some k) wr W → (convert 61 9 (.slice so (cutPre rest).length (bc - at_))).run Tryz.prog W = .ok (.string (bs (cutPre rest))) W) := Lib.hid fun W hk =>
          convRd ((cutPre_rd hrd).keep hk (fun b e h => h (hso2 b e)))
        clear hrd
        have HSA : Hid (∀ W, Keep (fun _ => False) wr W → W.cell? ⟨w3.heap.size + 1, 1, none⟩ = some (.pointer (some ⟨V.b, 0, none⟩)) ∧ (convert 61 9 (.slice so (cutPre rest).length (bc - at_))).run Tryz.prog W = .ok (.string (bs (cutPre rest))) W) := Lib.hid fun W hk =>
          ⟨(HBLK.out.keep hk (fun h => h)).cell 1, hcv.out W (hk.mono (fun _ _ h => h.elim))⟩
        have HKR : Hid (Keep (fun _ => False) wr wr) := Lib.hid (Keep.refl _ _)
        have hrn : rest.length ≤ D.bytes.length := by omega
        have HRL := Lib.hid hrl; clear hrl
        have hlsn : ls.length ≤ D.bytes.length := by omega
        obtain ⟨ok, hok⟩ : ∃ ok, (cutNL rest).isSome = ok := ⟨_, rfl⟩
        obtain ⟨R, hR⟩ : ∃ R, doF F S (bs (cutPre rest)) = R := ⟨_, rfl⟩
        obtain ⟨re, rs, ro⟩ := R
        have HOK := Lib.hid hok; clear hok
        have HRR := Lib.hid hR; clear hR
        cases ok with
        | false =>
          have HL := Lib.hid (show openF F D g = openEnd D (S, ls, at_) by rw [HF.out, ← HLOOP.out]; rw [openLoop_none hfuel HOK.out])
          have HF := HL
          have hbw : w.heap.size ≤ w3.heap.size + 1 := by omega
          by_cases hend : at_ < D.bytes.length
          · have hlt : ((at_ : Int) < (D.bytes.length : Int)) = True := eq_true (by omega)
            obtain ⟨C, hC⟩ : ∃ C, cutF D (at_ : Int) = C := ⟨_, rfl⟩
            obtain ⟨ce, D1⟩ := C
            have HC := Lib.hid hC
            by_cases hce : ce = 0
            · subst hce
              obtain ⟨Y, hY⟩ : ∃ Y, syncF D1 = Y := ⟨_, rfl⟩
              obtain ⟨se, D2⟩ := Y
              have HY := Lib.hid hY
              have HL2 := Lib.hid (show openEnd D (S, ls, at_) = ⟨se, D2, S, ls⟩ by unfold openEnd; rw [if_pos hend]; simp only [hC, if_true, hY])
              clear hC hY
              by_cases hse : se = 0
              · subst hse
                go_wp2_with (first
                  | (go_at_call 56; have hh := bcut_any (w := wr.alloc (.cells #[.int .u8 10] 5)) (b2 := wr.heap.size) ((HG.out.keep HKEEP.out).keep ((Keep.refl _ _).alloc _)) rfl (HRD.out.keep ((Keep.refl (fun _ => False) _).alloc _) (fun _ _ h => h)) (by rw [World.cell?_alloc_new]; rfl) (by omega); refine Calls.mono hh ?_; clear hh; rintro e w' ⟨v2, rfl, q, rfl⟩; rw [HOK.out]))
                go_region_held3 (fun W => W.cell? ⟨w3.heap.size + 1, 1, none⟩ = some (.pointer (some ⟨V.b, 0, none⟩)) ∧ (convert 61 9 (.slice so (cutPre rest).length (bc - at_))).run Tryz.prog W = .ok (.string (bs (cutPre rest))) W)
                  ((refine HSA.out _ ?_; repeat (first | exact HKR.out | apply Keep.drew | apply Keep.drewN | apply Keep.alloc)))
                  ((go_at_call 53; have kk := ((((Keep.refl (fun _ => False) wr).alloc (.cells #[.int .u8 10] 5)).drewN q).drew); have hh := do_any (F := F) (line := bs (cutPre rest)) ((HG.out.keep HKEEP.out).keep kk) (HST.out.keep kk (fun _ _ h => h)) (HSYS.out.small _ _ hlsn HINV.out) (by simp [bs, ByteArray.size]; omega) (HSYS.out.run _ _ _ hlsn HINV.out (by simp [bs, ByteArray.size]; omega)); rw [HRR.out] at hh; refine Calls.mono hh ?_; clear hh; rintro e W3 ⟨V', rfl, hst3, hvb3, hVV, hfp3, hk3⟩; have HKR := Lib.hid (kk.trans hk3 (fun _ _ h => h)); have hB3 := HBLK.out.keep HKR.out (fun h => h); have c1 := hB3.cell 1; have f1 := hB3.free 1; simp at c1; have HB3 := Lib.hid hB3; have HST3 := Lib.hid hst3; have HVV := Lib.hid hVV; have HFP := Lib.hid hfp3; clear hst3 hvb3 hVV hfp3 hk3 kk hB3; dsimp only))
                go_wp2_with (first
                  | (go_at_call 46; have hh := cut_any (at_ : Int) (HD.out.keep (HKEEP.out.trans HKR.out (fun _ _ h => h)) (fun h => h) (fun _ _ h => h)); rw [HC.out] at hh; dsimp only at hh; refine Calls.mono hh ?_; clear hh; rintro e W4 ⟨rfl, ⟨v1, hd1, hf1⟩, hk4⟩; have HD1 := Lib.hid hd1; have HF1 := Lib.hid hf1; have HK4 := Lib.hid hk4; clear hd1 hf1 hk4)
                  | (go_at_call 48; have hh := sync_any HD1.out; rw [HY.out] at hh; dsimp only at hh; refine Calls.mono hh ?_; clear hh; rintro e W5 ⟨rfl, ⟨v2, hd2, hf2⟩, hk5⟩; have HD2 := Lib.hid hd2; have HF2 := Lib.hid hf2; have HK5 := Lib.hid hk5; clear hd2 hf2 hk5))
                go_ret2
                rw [HF.out, HL2.out]
                exact open_fin HD.out hb HB3.out (HST.out.keep HKR.out (fun _ _ h => h)) HSEP.out (ownsRow_keep HOWN.out HKR.out (fun _ _ h => h)) hbw (HKEEP.out.trans HKR.out (fun _ _ h => h)) (HK4.out.trans HK5.out (fun k hk e => e.elim .inl (fun e => HF1.out.elim (fun h => .inr (h ▸ e)) (fun ⟨g, h1, h2⟩ => by have h3 : g = k := Option.some.inj (h1.symm.trans e); omega)))) HD2.out (HF2.out.elim (fun h => HF1.out.elim (fun h' => .inl (h.trans h')) (fun ⟨g, h1, h2⟩ => .inr ⟨g, h.trans h1, h2⟩)) (fun ⟨g, h1, h2⟩ => .inr ⟨g, h1, Nat.le_trans HK4.out.size h2⟩))
              · have hse2 : (se != 0) = true := by simpa using hse
                have hne := hse
                go_wp2_with (first
                  | (go_at_call 56; have hh := bcut_any (w := wr.alloc (.cells #[.int .u8 10] 5)) (b2 := wr.heap.size) ((HG.out.keep HKEEP.out).keep ((Keep.refl _ _).alloc _)) rfl (HRD.out.keep ((Keep.refl (fun _ => False) _).alloc _) (fun _ _ h => h)) (by rw [World.cell?_alloc_new]; rfl) (by omega); refine Calls.mono hh ?_; clear hh; rintro e w' ⟨v2, rfl, q, rfl⟩; rw [HOK.out]))
                go_region_held3 (fun W => W.cell? ⟨w3.heap.size + 1, 1, none⟩ = some (.pointer (some ⟨V.b, 0, none⟩)) ∧ (convert 61 9 (.slice so (cutPre rest).length (bc - at_))).run Tryz.prog W = .ok (.string (bs (cutPre rest))) W)
                  ((refine HSA.out _ ?_; repeat (first | exact HKR.out | apply Keep.drew | apply Keep.drewN | apply Keep.alloc)))
                  ((go_at_call 53; have kk := ((((Keep.refl (fun _ => False) wr).alloc (.cells #[.int .u8 10] 5)).drewN q).drew); have hh := do_any (F := F) (line := bs (cutPre rest)) ((HG.out.keep HKEEP.out).keep kk) (HST.out.keep kk (fun _ _ h => h)) (HSYS.out.small _ _ hlsn HINV.out) (by simp [bs, ByteArray.size]; omega) (HSYS.out.run _ _ _ hlsn HINV.out (by simp [bs, ByteArray.size]; omega)); rw [HRR.out] at hh; refine Calls.mono hh ?_; clear hh; rintro e W3 ⟨V', rfl, hst3, hvb3, hVV, hfp3, hk3⟩; have HKR := Lib.hid (kk.trans hk3 (fun _ _ h => h)); have hB3 := HBLK.out.keep HKR.out (fun h => h); have c1 := hB3.cell 1; have f1 := hB3.free 1; simp at c1; have HB3 := Lib.hid hB3; have HST3 := Lib.hid hst3; have HVV := Lib.hid hVV; have HFP := Lib.hid hfp3; clear hst3 hvb3 hVV hfp3 hk3 kk hB3; dsimp only))
                go_wp2_with (first
                  | (go_at_call 46; have hh := cut_any (at_ : Int) (HD.out.keep (HKEEP.out.trans HKR.out (fun _ _ h => h)) (fun h => h) (fun _ _ h => h)); rw [HC.out] at hh; dsimp only at hh; refine Calls.mono hh ?_; clear hh; rintro e W4 ⟨rfl, ⟨v1, hd1, hf1⟩, hk4⟩; have HD1 := Lib.hid hd1; have HF1 := Lib.hid hf1; have HK4 := Lib.hid hk4; clear hd1 hf1 hk4)
                  | (go_at_call 48; have hh := sync_any HD1.out; rw [HY.out] at hh; dsimp only at hh; refine Calls.mono hh ?_; clear hh; rintro e W5 ⟨rfl, ⟨v2, hd2, hf2⟩, hk5⟩; have HD2 := Lib.hid hd2; have HF2 := Lib.hid hf2; have HK5 := Lib.hid hk5; clear hd2 hf2 hk5))
                go_ret2
                rw [HF.out, HL2.out]
                exact open_err hne (HKEEP.out.trans HKR.out (fun _ _ h => h)) (HK4.out.trans HK5.out (fun k hk e => e.elim .inl (fun e => HF1.out.elim (fun h => .inr (h ▸ e)) (fun ⟨g, h1, h2⟩ => by have h3 : g = k := Option.some.inj (h1.symm.trans e); omega)))) HD2.out (HF2.out.elim (fun h => HF1.out.elim (fun h' => .inl (h.trans h')) (fun ⟨g, h1, h2⟩ => .inr ⟨g, h.trans h1, h2⟩)) (fun ⟨g, h1, h2⟩ => .inr ⟨g, h1, Nat.le_trans HK4.out.size h2⟩))
            · have hce2 : (ce != 0) = true := by simpa using hce
              have hne := hce
              have HL2 := Lib.hid (show openEnd D (S, ls, at_) = ⟨ce, D1, S, ls⟩ by unfold openEnd; rw [if_pos hend]; simp only [hC, if_neg hce])
              clear hC
              go_wp2_with (first
                | (go_at_call 56; have hh := bcut_any (w := wr.alloc (.cells #[.int .u8 10] 5)) (b2 := wr.heap.size) ((HG.out.keep HKEEP.out).keep ((Keep.refl _ _).alloc _)) rfl (HRD.out.keep ((Keep.refl (fun _ => False) _).alloc _) (fun _ _ h => h)) (by rw [World.cell?_alloc_new]; rfl) (by omega); refine Calls.mono hh ?_; clear hh; rintro e w' ⟨v2, rfl, q, rfl⟩; rw [HOK.out]))
              go_region_held3 (fun W => W.cell? ⟨w3.heap.size + 1, 1, none⟩ = some (.pointer (some ⟨V.b, 0, none⟩)) ∧ (convert 61 9 (.slice so (cutPre rest).length (bc - at_))).run Tryz.prog W = .ok (.string (bs (cutPre rest))) W)
                ((refine HSA.out _ ?_; repeat (first | exact HKR.out | apply Keep.drew | apply Keep.drewN | apply Keep.alloc)))
                ((go_at_call 53; have kk := ((((Keep.refl (fun _ => False) wr).alloc (.cells #[.int .u8 10] 5)).drewN q).drew); have hh := do_any (F := F) (line := bs (cutPre rest)) ((HG.out.keep HKEEP.out).keep kk) (HST.out.keep kk (fun _ _ h => h)) (HSYS.out.small _ _ hlsn HINV.out) (by simp [bs, ByteArray.size]; omega) (HSYS.out.run _ _ _ hlsn HINV.out (by simp [bs, ByteArray.size]; omega)); rw [HRR.out] at hh; refine Calls.mono hh ?_; clear hh; rintro e W3 ⟨V', rfl, hst3, hvb3, hVV, hfp3, hk3⟩; have HKR := Lib.hid (kk.trans hk3 (fun _ _ h => h)); have hB3 := HBLK.out.keep HKR.out (fun h => h); have c1 := hB3.cell 1; have f1 := hB3.free 1; simp at c1; have HB3 := Lib.hid hB3; have HST3 := Lib.hid hst3; have HVV := Lib.hid hVV; have HFP := Lib.hid hfp3; clear hst3 hvb3 hVV hfp3 hk3 kk hB3; dsimp only))
              go_wp2_with (first
                | (go_at_call 46; have hh := cut_any (at_ : Int) (HD.out.keep (HKEEP.out.trans HKR.out (fun _ _ h => h)) (fun h => h) (fun _ _ h => h)); rw [HC.out] at hh; dsimp only at hh; refine Calls.mono hh ?_; clear hh; rintro e W4 ⟨rfl, ⟨v1, hd1, hf1⟩, hk4⟩; have HD1 := Lib.hid hd1; have HF1 := Lib.hid hf1; have HK4 := Lib.hid hk4; clear hd1 hf1 hk4))
              go_ret2
              rw [HF.out, HL2.out]
              exact open_err hne (HKEEP.out.trans HKR.out (fun _ _ h => h)) HK4.out HD1.out HF1.out
          · have hlt : ((at_ : Int) < (D.bytes.length : Int)) = False := eq_false (by omega)
            obtain ⟨Y, hY⟩ : ∃ Y, syncF D = Y := ⟨_, rfl⟩
            obtain ⟨se, D2⟩ := Y
            have HY := Lib.hid hY
            have HL2 := Lib.hid (show openEnd D (S, ls, at_) = ⟨se, D2, S, ls⟩ by unfold openEnd; rw [if_neg hend]; simp only [hY])
            clear hY
            by_cases hse : se = 0
            · subst hse
              go_wp2_with (first
                | (go_at_call 56; have hh := bcut_any (w := wr.alloc (.cells #[.int .u8 10] 5)) (b2 := wr.heap.size) ((HG.out.keep HKEEP.out).keep ((Keep.refl _ _).alloc _)) rfl (HRD.out.keep ((Keep.refl (fun _ => False) _).alloc _) (fun _ _ h => h)) (by rw [World.cell?_alloc_new]; rfl) (by omega); refine Calls.mono hh ?_; clear hh; rintro e w' ⟨v2, rfl, q, rfl⟩; rw [HOK.out]))
              go_region_held3 (fun W => W.cell? ⟨w3.heap.size + 1, 1, none⟩ = some (.pointer (some ⟨V.b, 0, none⟩)) ∧ (convert 61 9 (.slice so (cutPre rest).length (bc - at_))).run Tryz.prog W = .ok (.string (bs (cutPre rest))) W)
                ((refine HSA.out _ ?_; repeat (first | exact HKR.out | apply Keep.drew | apply Keep.drewN | apply Keep.alloc)))
                ((go_at_call 53; have kk := ((((Keep.refl (fun _ => False) wr).alloc (.cells #[.int .u8 10] 5)).drewN q).drew); have hh := do_any (F := F) (line := bs (cutPre rest)) ((HG.out.keep HKEEP.out).keep kk) (HST.out.keep kk (fun _ _ h => h)) (HSYS.out.small _ _ hlsn HINV.out) (by simp [bs, ByteArray.size]; omega) (HSYS.out.run _ _ _ hlsn HINV.out (by simp [bs, ByteArray.size]; omega)); rw [HRR.out] at hh; refine Calls.mono hh ?_; clear hh; rintro e W3 ⟨V', rfl, hst3, hvb3, hVV, hfp3, hk3⟩; have HKR := Lib.hid (kk.trans hk3 (fun _ _ h => h)); have hB3 := HBLK.out.keep HKR.out (fun h => h); have c1 := hB3.cell 1; have f1 := hB3.free 1; simp at c1; have HB3 := Lib.hid hB3; have HST3 := Lib.hid hst3; have HVV := Lib.hid hVV; have HFP := Lib.hid hfp3; clear hst3 hvb3 hVV hfp3 hk3 kk hB3; dsimp only))
              go_wp2_with (first
                | (go_at_call 48; have hh := sync_any (HD.out.keep (HKEEP.out.trans HKR.out (fun _ _ h => h)) (fun h => h) (fun _ _ h => h)); rw [HY.out] at hh; dsimp only at hh; refine Calls.mono hh ?_; clear hh; rintro e W5 ⟨rfl, ⟨v2, hd2, hf2⟩, hk5⟩; have HD2 := Lib.hid hd2; have HF2 := Lib.hid hf2; have HK5 := Lib.hid hk5; clear hd2 hf2 hk5))
              go_ret2
              rw [HF.out, HL2.out]
              exact open_fin HD.out hb HB3.out (HST.out.keep HKR.out (fun _ _ h => h)) HSEP.out (ownsRow_keep HOWN.out HKR.out (fun _ _ h => h)) hbw (HKEEP.out.trans HKR.out (fun _ _ h => h)) HK5.out HD2.out HF2.out
            · have hse2 : (se != 0) = true := by simpa using hse
              have hne := hse
              go_wp2_with (first
                | (go_at_call 56; have hh := bcut_any (w := wr.alloc (.cells #[.int .u8 10] 5)) (b2 := wr.heap.size) ((HG.out.keep HKEEP.out).keep ((Keep.refl _ _).alloc _)) rfl (HRD.out.keep ((Keep.refl (fun _ => False) _).alloc _) (fun _ _ h => h)) (by rw [World.cell?_alloc_new]; rfl) (by omega); refine Calls.mono hh ?_; clear hh; rintro e w' ⟨v2, rfl, q, rfl⟩; rw [HOK.out]))
              go_region_held3 (fun W => W.cell? ⟨w3.heap.size + 1, 1, none⟩ = some (.pointer (some ⟨V.b, 0, none⟩)) ∧ (convert 61 9 (.slice so (cutPre rest).length (bc - at_))).run Tryz.prog W = .ok (.string (bs (cutPre rest))) W)
                ((refine HSA.out _ ?_; repeat (first | exact HKR.out | apply Keep.drew | apply Keep.drewN | apply Keep.alloc)))
                ((go_at_call 53; have kk := ((((Keep.refl (fun _ => False) wr).alloc (.cells #[.int .u8 10] 5)).drewN q).drew); have hh := do_any (F := F) (line := bs (cutPre rest)) ((HG.out.keep HKEEP.out).keep kk) (HST.out.keep kk (fun _ _ h => h)) (HSYS.out.small _ _ hlsn HINV.out) (by simp [bs, ByteArray.size]; omega) (HSYS.out.run _ _ _ hlsn HINV.out (by simp [bs, ByteArray.size]; omega)); rw [HRR.out] at hh; refine Calls.mono hh ?_; clear hh; rintro e W3 ⟨V', rfl, hst3, hvb3, hVV, hfp3, hk3⟩; have HKR := Lib.hid (kk.trans hk3 (fun _ _ h => h)); have hB3 := HBLK.out.keep HKR.out (fun h => h); have c1 := hB3.cell 1; have f1 := hB3.free 1; simp at c1; have HB3 := Lib.hid hB3; have HST3 := Lib.hid hst3; have HVV := Lib.hid hVV; have HFP := Lib.hid hfp3; clear hst3 hvb3 hVV hfp3 hk3 kk hB3; dsimp only))
              go_wp2_with (first
                | (go_at_call 48; have hh := sync_any (HD.out.keep (HKEEP.out.trans HKR.out (fun _ _ h => h)) (fun h => h) (fun _ _ h => h)); rw [HY.out] at hh; dsimp only at hh; refine Calls.mono hh ?_; clear hh; rintro e W5 ⟨rfl, ⟨v2, hd2, hf2⟩, hk5⟩; have HD2 := Lib.hid hd2; have HF2 := Lib.hid hf2; have HK5 := Lib.hid hk5; clear hd2 hf2 hk5))
              go_ret2
              rw [HF.out, HL2.out]
              exact open_err hne (HKEEP.out.trans HKR.out (fun _ _ h => h)) HK5.out HD2.out HF2.out
        | true =>
          by_cases hz : re = 0
          · subst hz
            go_wp2_with (first
              | (go_at_call 56; have hh := bcut_any (w := wr.alloc (.cells #[.int .u8 10] 5)) (b2 := wr.heap.size) ((HG.out.keep HKEEP.out).keep ((Keep.refl _ _).alloc _)) rfl (HRD.out.keep ((Keep.refl (fun _ => False) _).alloc _) (fun _ _ h => h)) (by rw [World.cell?_alloc_new]; rfl) (by omega); refine Calls.mono hh ?_; clear hh; rintro e w' ⟨v2, rfl, q, rfl⟩; rw [HOK.out]))
            go_region_held3 (fun W => W.cell? ⟨w3.heap.size + 1, 1, none⟩ = some (.pointer (some ⟨V.b, 0, none⟩)) ∧ (convert 61 9 (.slice so (cutPre rest).length (bc - at_))).run Tryz.prog W = .ok (.string (bs (cutPre rest))) W)
              ((refine HSA.out _ ?_; repeat (first | exact HKR.out | apply Keep.drew | apply Keep.drewN | apply Keep.alloc)))
              ((go_at_call 53; have kk := ((((Keep.refl (fun _ => False) wr).alloc (.cells #[.int .u8 10] 5)).drewN q).drew); have hh := do_any (F := F) (line := bs (cutPre rest)) ((HG.out.keep HKEEP.out).keep kk) (HST.out.keep kk (fun _ _ h => h)) (HSYS.out.small _ _ hlsn HINV.out) (by simp [bs, ByteArray.size]; omega) (HSYS.out.run _ _ _ hlsn HINV.out (by simp [bs, ByteArray.size]; omega)); rw [HRR.out] at hh; refine Calls.mono hh ?_; clear hh; rintro e W3 ⟨V', rfl, hst3, hvb3, hVV, hfp3, hk3⟩; have HKR := Lib.hid (kk.trans hk3 (fun _ _ h => h)); have hB3 := HBLK.out.keep HKR.out (fun h => h); have c1 := hB3.cell 1; have f1 := hB3.free 1; simp at c1; have HB3 := Lib.hid hB3; have HST3 := Lib.hid hst3; have HVV := Lib.hid hVV; have HFP := Lib.hid hfp3; clear hst3 hvb3 hVV hfp3 hk3 kk hB3; dsimp only))
            go_wp2
            have hk34 : Keep (fun k => k = w3.heap.size + 1) W3 (W3.setCell ⟨w3.heap.size + 1, 1, none⟩ (.pointer (some ⟨V'.b, 0, none⟩))) := (Keep.refl _ _).setCell _ _ (fun _ => rfl)
            have hb4 := HB3.out.set 1 (.pointer (some ⟨V'.b, 0, none⟩))
            obtain ⟨W4, hW4⟩ : ∃ W4, W4 = W3.setCell ⟨w3.heap.size + 1, 1, none⟩ (.pointer (some ⟨V'.b, 0, none⟩)) := ⟨_, rfl⟩
            rw [← hW4] at hk34 hb4
            rw [← hW4]
            clear hW4 c1 f1
            have c2 := hb4.cell 2
            have f2 := hb4.free 2
            simp at c2
            have hlt4 : w3.heap.size + 1 < W4.heap.size := hb4.lt
            have hne4 : w3.heap.size + 1 ≠ W4.heap.size := by omega
            have hbyne := ownsRow_blk HBY.out HBLK.out (by decide)
            have hbyvl := ownsRow_types HBY.out HOWN.out (by decide)
            have HSC : Hid (∀ W, Keep (fun k => k = w3.heap.size + 1 ∨ (Value.slice lo ls.length lc).ownBlock = some k) W4 W → (convert 61 9 (.slice so (cutPre rest).length (bc - at_))).run Tryz.prog W = .ok (.string (bs (cutPre rest))) W) := Lib.hid fun W hk =>
              hcv.out W (((HKR.out.mono (fun _ _ h => h.elim)).trans hk34 (fun k _ e h => hbyne (e ▸ h))).trans hk (fun k _ e h => e.elim (fun e => hbyne (e ▸ h)) (fun e => hbyvl k h e)))
            clear hbyne hbyvl
            obtain ⟨w5, hw5⟩ : ∃ w5, w5 = W4.alloc (.cells #[.string (bs (cutPre rest))] 9) := ⟨_, rfl⟩
            have hk45 : Keep (fun _ => False) W4 w5 := by rw [hw5]; exact (Keep.refl _ _).alloc _
            have HSRC : Hid (Src Tryz.prog 1 44 (.slice (some ⟨W4.heap.size, 0, none⟩) 1 1) 1 [.string (bs (cutPre rest))] w5.drew) := Lib.hid (by
              have := Rd.new W4 1 1 [.string (bs (cutPre rest))] 9 rfl (by simp [Value.oneCell']) (by unfold maxLen; omega)
              rw [hw5]; exact this.drew.src Tryz.underlying44)
            have hol4 : W4.ownsRow w.heap.size 9 1 (.slice lo ls.length lc) ls.length (strCells ls) := ownsRow_keep (ownsRow_keep HOWN.out HKR.out (fun _ _ h => h)) hk34 (fun k e e' => ownsRow_blk HOWN.out HBLK.out (by decide) (e' ▸ e))
            have HOL : Hid (w5.drew.ownsRow w.heap.size 9 1 (.slice lo ls.length lc) ls.length (strCells ls)) := Lib.hid (ownsRow_keep hol4 hk45.drew (fun _ _ h => h))
            have HBN : Hid ((Value.slice lo ls.length lc).ownBlock ≠ some (w3.heap.size + 1)) := Lib.hid (ownsRow_blk HOWN.out HBLK.out (by decide))
            have hb5 := hb4.keep hk45.drew (fun h => h)
            have HKR4 : Hid (Keep (fun k => k = w3.heap.size + 1 ∨ (Value.slice lo ls.length lc).ownBlock = some k) W4 W4) := Lib.hid (Keep.refl _ _)
            have HB5 := Lib.hid hb5; clear hb5
            have HK45 := Lib.hid hk45; clear hk45
            have HK34 := Lib.hid hk34; clear hk34
            have hwb : w.heap.size ≤ w5.drew.heap.size := Nat.le_trans HKEEP.out.size (Nat.le_trans HKR.out.size (Nat.le_trans HK34.out.size HK45.out.size))
            have HWB := Lib.hid hwb; clear hwb
            have HW5 := Lib.hid hw5; clear hw5 hb4 hol4
            refine wp_region_noPanic ?_
            refine wp_region_held_drew (S := fun W => (convert 61 9 (.slice so (cutPre rest).length (bc - at_))).run Tryz.prog W = .ok (.string (bs (cutPre rest))) W) (by kernel_rfl) (HSC.out _ HKR4.out.drew) (fun hHeld => ?_)
            refine wpAnyH_take (i := 0) (oi := _) (v := ?_) rfl (by kernel_rfl) (by kernel_rfl) (by kernel_rfl) (fun _ _ _ h => h) (Or.inl ⟨by rfl, ?_⟩) (by assumption) ?_
            rotate_left
            · (intro w hSw; (try dsimp only at hSw); go_simp) <;> with_reducible rfl
            (try simp only [List.getElem_toArray, List.getElem_cons_zero, List.getElem_cons_succ, Act.put, List.setIfInBounds_toArray, List.set_cons_zero, List.set_cons_succ])
            refine wpAnyH_take (i := 1) (oi := _) (v := ?_) rfl (by kernel_rfl) (by kernel_rfl) (by kernel_rfl) (fun _ _ _ h => h) (Or.inl ⟨by rfl, ?_⟩) (by assumption) ?_
            rotate_left
            · (intro w hSw; (try dsimp only at hSw); go_simp) <;> with_reducible rfl
            (try simp only [List.getElem_toArray, List.getElem_cons_zero, List.getElem_cons_succ, Act.put, List.setIfInBounds_toArray, List.set_cons_zero, List.set_cons_succ])
            refine wpAnyH_take (i := 2) (oi := _) (v := ?_) rfl (by kernel_rfl) (by kernel_rfl) (by kernel_rfl) (fun _ _ _ h => h) (Or.inl ⟨by rfl, ?_⟩) (by assumption) ?_
            rotate_left
            · (intro w hSw; (try dsimp only at hSw); go_simp) <;> with_reducible rfl
            (try simp only [List.getElem_toArray, List.getElem_cons_zero, List.getElem_cons_succ, Act.put, List.setIfInBounds_toArray, List.set_cons_zero, List.set_cons_succ])
            refine wpAnyH_take (i := 3) (oi := _) (v := ?_) rfl (by kernel_rfl) (by kernel_rfl) (by kernel_rfl) (fun _ _ _ h => h) (Or.inl ⟨by rfl, ?_⟩) (by assumption) ?_
            rotate_left
            · (intro w hSw; (try dsimp only at hSw); go_simp) <;> with_reducible rfl
            (try simp only [List.getElem_toArray, List.getElem_cons_zero, List.getElem_cons_succ, Act.put, List.setIfInBounds_toArray, List.set_cons_zero, List.set_cons_succ])
            refine wpAnyH_take (i := 5) (oi := _) (v := ?_) rfl (by kernel_rfl) (by kernel_rfl) (by kernel_rfl) (fun _ _ _ h => h) (Or.inl ⟨by rfl, ?_⟩) (by assumption) ?_
            rotate_left
            · (intro w hSw; (try dsimp only at hSw); go_simp) <;> with_reducible rfl
            (try simp only [List.getElem_toArray, List.getElem_cons_zero, List.getElem_cons_succ, Act.put, List.setIfInBounds_toArray, List.set_cons_zero, List.set_cons_succ])
            refine wpAnyH_take (i := 6) (oi := _) (v := ?_) rfl (by kernel_rfl) (by kernel_rfl) (by kernel_rfl) (fun _ _ _ h => h) (Or.inl ⟨by rfl, ?_⟩) (by assumption) ?_
            rotate_left
            · (intro w hSw; (try dsimp only at hSw); go_simp) <;> with_reducible rfl
            (try simp only [List.getElem_toArray, List.getElem_cons_zero, List.getElem_cons_succ, Act.put, List.setIfInBounds_toArray, List.set_cons_zero, List.set_cons_succ])
            refine wpAnyH_ready (rs := [4, 7]) (by kernel_rfl) (by simp) ?_
            refine AllReadyH.cons (o := _) rfl (fun K hK => ?_) (AllReadyH.cons (o := _) rfl (fun K hK => ?_) AllReadyH.nil)
            · go_simp
              refine hK.out _ _ ?_ (fun hHeld => ?_)
              · ((try dsimp only); refine HSC.out _ ?_; repeat (first | exact HKR4.out | apply Keep.drew | apply Keep.alloc | refine Keep.setCell ?_ _ _ (fun _ => .inl rfl)))
              clear hK K
              (try simp only [List.getElem_toArray, List.getElem_cons_zero, List.getElem_cons_succ, Act.put, List.setIfInBounds_toArray, List.set_cons_zero, List.set_cons_succ])
              refine wpAnyH_ready (rs := [7]) (by kernel_rfl) (by simp) ?_
              refine AllReadyH.cons (o := _) rfl (fun K hK => ?_) AllReadyH.nil
              go_simp
              refine hK.out _ _ ?_ (fun hHeld => ?_)
              · ((try dsimp only); refine HSC.out _ ?_; repeat (first | exact HKR4.out | apply Keep.drew | apply Keep.alloc | refine Keep.setCell ?_ _ _ (fun _ => .inl rfl)))
              clear hK K
              (try simp only [List.getElem_toArray, List.getElem_cons_zero, List.getElem_cons_succ, Act.put, List.setIfInBounds_toArray, List.set_cons_zero, List.set_cons_succ])
              refine wpAnyH_ready (rs := [8]) (by kernel_rfl) (by simp) ?_
              refine AllReadyH.cons (o := _) rfl (fun K hK => ?_) AllReadyH.nil
              rw [if_pos (by rfl)]
              rw [← HW5.out]
              refine oper_app (w := w5.drew) (.tmp 74) (.tmp 77) 44 44 rfl 9 (.string ⟨#[]⟩) 1 16 Tryz.underlying44 info9 rfl HOL.out rfl HSRC.out rfl (by unfold maxLen; omega) (by omega) HWB.out (fun v' w7 happ => ?_)
              obtain ⟨ao7, cap7, rfl, _⟩ := ownsRow_shape happ.own
              have HKR4 := Lib.hid ((HK45.out.drew.mono (fun _ _ h => h.elim)).trans happ.keep (fun _ _ h => .inr h) : Keep (fun k => k = w3.heap.size + 1 ∨ (Value.slice lo ls.length lc).ownBlock = some k) W4 w7)
              have hb7 := HB5.out.keep happ.keep HBN.out
              have c2 := hb7.cell 2
              have f2 := hb7.free 2
              simp at c2
              have HB7 := Lib.hid hb7
              have HA := Lib.hid happ
              clear happ hb7
              refine hK.out _ _ ?_ (fun hHeld => ?_)
              · ((try dsimp only); refine HSC.out _ ?_; repeat (first | exact HKR4.out | apply Keep.drew | apply Keep.alloc | refine Keep.setCell ?_ _ _ (fun _ => .inl rfl)))
              clear hK K
              (try simp only [List.getElem_toArray, List.getElem_cons_zero, List.getElem_cons_succ, Act.put, List.setIfInBounds_toArray, List.set_cons_zero, List.set_cons_succ])
              refine wpAnyH_take (i := 9) (oi := _) (v := ?_) rfl (by kernel_rfl) (by kernel_rfl) (by kernel_rfl) (fun _ _ _ h => h) (Or.inl ⟨by rfl, ?_⟩) (by assumption) ?_
              rotate_left
              · (intro w hSw; (try dsimp only at hSw); go_simp) <;> with_reducible rfl
              (try simp only [List.getElem_toArray, List.getElem_cons_zero, List.getElem_cons_succ, Act.put, List.setIfInBounds_toArray, List.set_cons_zero, List.set_cons_succ])
              refine wpAnyH_take (i := 10) (oi := _) (v := ?_) rfl (by kernel_rfl) (by kernel_rfl) (by kernel_rfl) (fun _ _ _ h => h) (Or.inl ⟨by rfl, ?_⟩) (by assumption) ?_
              rotate_left
              · (intro w hSw; (try dsimp only at hSw); go_simp) <;> with_reducible rfl
              (try simp only [List.getElem_toArray, List.getElem_cons_zero, List.getElem_cons_succ, Act.put, List.setIfInBounds_toArray, List.set_cons_zero, List.set_cons_succ])
              refine wpAnyH_ready (rs := [11]) (by kernel_rfl) (by simp) ?_
              refine AllReadyH.cons (o := _) rfl (fun K hK => ?_) AllReadyH.nil
              go_simp
              refine hK.out _ _ ?_ (fun hHeld => ?_)
              · ((try dsimp only); refine HSC.out _ ?_; repeat (first | exact HKR4.out | apply Keep.drew | apply Keep.alloc | refine Keep.setCell ?_ _ _ (fun _ => .inl rfl)))
              clear hK K
              (try simp only [List.getElem_toArray, List.getElem_cons_zero, List.getElem_cons_succ, Act.put, List.setIfInBounds_toArray, List.set_cons_zero, List.set_cons_succ])
              refine wpAnyH_done (by kernel_rfl) ?_ _
              refine NoPanic.normal ?_
              go_wp2
              go_roundw
              case rel =>
                have hct := (cutNL_true HOK.out).2
                have hnx := HSYS.out.next _ _ _ hlsn HINV.out (show (bs (cutPre rest)).size ≤ D.bytes.length by simp [bs, ByteArray.size]; omega) (show (doF F S (bs (cutPre rest))).err = 0 by rw [HRR.out])
                rw [HRR.out] at hnx
                have hrl := HRL.out
                have hk38 : Keep (fun k => k = w3.heap.size + 1 ∨ (Value.slice lo ls.length lc).ownBlock = some k) W3 (w7.setCell ⟨w3.heap.size + 1, 2, none⟩ (.slice ao7 (ls.length + 1) cap7)) :=
                  ((HK34.out.mono (fun _ _ h => .inl h)).trans HKR4.out (fun _ _ h => h)).setCell _ _ (fun _ => .inl rfl)
                have hk08 : Keep (fun k => k = w3.heap.size + 1 ∨ (Value.slice lo ls.length lc).ownBlock = some k) wr (w7.setCell ⟨w3.heap.size + 1, 2, none⟩ (.slice ao7 (ls.length + 1) cap7)) := (HKR.out.mono (fun _ _ h => h.elim)).trans hk38 (fun _ _ h => h)
                have hvne : (Value.slice ao7 (ls.length + 1) cap7).ownBlock ≠ some (w3.heap.size + 1) := fun e => ownsRow_blk HA.out.own HB7.out (by decide) e
                have hwr := HKEEP.out.size
                have hW3 := HKR.out.size
                have hsep3 : ∀ k, V'.fp k → w.heap.size ≤ k ∧ k ≠ w3.heap.size + 1 ∧ (Value.slice lo ls.length lc).ownBlock ≠ some k := fun k hk => by
                  rcases HFP.out k hk with e | e
                  · exact HSEP.out k e
                  · have e2 : (wr.alloc (.cells #[.int .u8 10] 5)).heap.size ≤ k := e
                    rw [World.size_alloc] at e2
                    refine ⟨by omega, fun h => by have := HBLK.out.lt; omega, fun h => by have := (ownsRow_lt HOWN.out k h).2; omega⟩
                refine ⟨rest.drop ((cutPre rest).length + 1), rs, ls ++ [bs (cutPre rest)], at_ + ((cutPre rest).length + 1), fuel - 1, V', ao7, cap7, by go_num, by omega, ?_, ?_, ?_, ?_, ?_, ?_, ?_, ?_, ?_, ?_, ?_⟩
                · rw [← HREST.out, List.drop_drop]
                · rw [List.length_drop]; omega
                · rw [← HLOOP.out]; exact (openLoop_step hfuel HOK.out HRR.out).symm
                · rw [List.length_append]; exact hnx
                · rw [List.length_append]; simp; omega
                · have := HB7.out.set 2 (.slice ao7 (ls.length + 1) cap7)
                  rw [List.length_append]
                  simpa using this
                · exact HST3.out.keep hk38 (fun i hi e => e.elim (fun e => (hsep3 i hi).2.1 e) (fun e => (hsep3 i hi).2.2 e))
                · intro k hk
                  refine ⟨(hsep3 k hk).1, (hsep3 k hk).2.1, fun e => ?_⟩
                  rw [List.length_append] at e
                  rcases HA.out.fresh with h1 | ⟨q1, h1, h2⟩
                  · exact (hsep3 k hk).2.2 (h1 ▸ e)
                  · have h3 : q1 = k := Option.some.inj (h1.symm.trans e)
                    have h4 := HST3.out.lt k hk
                    have h5 := HK34.out.size
                    have h6 := HK45.out.size
                    have h7 : w5.heap.size ≤ q1 := h2
                    omega
                · have := ownsRow_setCell HA.out.own ⟨w3.heap.size + 1, 2, none⟩ (.slice ao7 (ls.length + 1) cap7) hvne
                  simpa [strCells] using this
                · exact ownsRow_keep HBY.out hk08 (fun k e e' => e'.elim (fun e' => ownsRow_blk HBY.out HBLK.out (by decide) (e' ▸ e)) (fun e' => ownsRow_types HBY.out HOWN.out (by decide) k e e'))
                · exact HKEEP.out.trans hk08 (fun k hk e => e.elim (fun e => by have := HB.out; omega) (fun e => by have := (ownsRow_lt HOWN.out k e).1; omega))
              case measure =>
                have hct := (cutNL_true HOK.out).2
                have hrl := HRL.out
                simp [intOf]; omega
            · go_simp
              refine hK.out _ _ ?_ (fun hHeld => ?_)
              · ((try dsimp only); refine HSC.out _ ?_; repeat (first | exact HKR4.out | apply Keep.drew | apply Keep.alloc | refine Keep.setCell ?_ _ _ (fun _ => .inl rfl)))
              clear hK K
              (try simp only [List.getElem_toArray, List.getElem_cons_zero, List.getElem_cons_succ, Act.put, List.setIfInBounds_toArray, List.set_cons_zero, List.set_cons_succ])
              refine wpAnyH_ready (rs := [4]) (by kernel_rfl) (by simp) ?_
              refine AllReadyH.cons (o := _) rfl (fun K hK => ?_) AllReadyH.nil
              go_simp
              refine hK.out _ _ ?_ (fun hHeld => ?_)
              · ((try dsimp only); refine HSC.out _ ?_; repeat (first | exact HKR4.out | apply Keep.drew | apply Keep.alloc | refine Keep.setCell ?_ _ _ (fun _ => .inl rfl)))
              clear hK K
              (try simp only [List.getElem_toArray, List.getElem_cons_zero, List.getElem_cons_succ, Act.put, List.setIfInBounds_toArray, List.set_cons_zero, List.set_cons_succ])
              refine wpAnyH_ready (rs := [8]) (by kernel_rfl) (by simp) ?_
              refine AllReadyH.cons (o := _) rfl (fun K hK => ?_) AllReadyH.nil
              rw [if_pos (by rfl)]
              rw [← HW5.out]
              refine oper_app (w := w5.drew) (.tmp 74) (.tmp 77) 44 44 rfl 9 (.string ⟨#[]⟩) 1 16 Tryz.underlying44 info9 rfl HOL.out rfl HSRC.out rfl (by unfold maxLen; omega) (by omega) HWB.out (fun v' w7 happ => ?_)
              obtain ⟨ao7, cap7, rfl, _⟩ := ownsRow_shape happ.own
              have HKR4 := Lib.hid ((HK45.out.drew.mono (fun _ _ h => h.elim)).trans happ.keep (fun _ _ h => .inr h) : Keep (fun k => k = w3.heap.size + 1 ∨ (Value.slice lo ls.length lc).ownBlock = some k) W4 w7)
              have hb7 := HB5.out.keep happ.keep HBN.out
              have c2 := hb7.cell 2
              have f2 := hb7.free 2
              simp at c2
              have HB7 := Lib.hid hb7
              have HA := Lib.hid happ
              clear happ hb7
              refine hK.out _ _ ?_ (fun hHeld => ?_)
              · ((try dsimp only); refine HSC.out _ ?_; repeat (first | exact HKR4.out | apply Keep.drew | apply Keep.alloc | refine Keep.setCell ?_ _ _ (fun _ => .inl rfl)))
              clear hK K
              (try simp only [List.getElem_toArray, List.getElem_cons_zero, List.getElem_cons_succ, Act.put, List.setIfInBounds_toArray, List.set_cons_zero, List.set_cons_succ])
              refine wpAnyH_take (i := 9) (oi := _) (v := ?_) rfl (by kernel_rfl) (by kernel_rfl) (by kernel_rfl) (fun _ _ _ h => h) (Or.inl ⟨by rfl, ?_⟩) (by assumption) ?_
              rotate_left
              · (intro w hSw; (try dsimp only at hSw); go_simp) <;> with_reducible rfl
              (try simp only [List.getElem_toArray, List.getElem_cons_zero, List.getElem_cons_succ, Act.put, List.setIfInBounds_toArray, List.set_cons_zero, List.set_cons_succ])
              refine wpAnyH_take (i := 10) (oi := _) (v := ?_) rfl (by kernel_rfl) (by kernel_rfl) (by kernel_rfl) (fun _ _ _ h => h) (Or.inl ⟨by rfl, ?_⟩) (by assumption) ?_
              rotate_left
              · (intro w hSw; (try dsimp only at hSw); go_simp) <;> with_reducible rfl
              (try simp only [List.getElem_toArray, List.getElem_cons_zero, List.getElem_cons_succ, Act.put, List.setIfInBounds_toArray, List.set_cons_zero, List.set_cons_succ])
              refine wpAnyH_ready (rs := [11]) (by kernel_rfl) (by simp) ?_
              refine AllReadyH.cons (o := _) rfl (fun K hK => ?_) AllReadyH.nil
              go_simp
              refine hK.out _ _ ?_ (fun hHeld => ?_)
              · ((try dsimp only); refine HSC.out _ ?_; repeat (first | exact HKR4.out | apply Keep.drew | apply Keep.alloc | refine Keep.setCell ?_ _ _ (fun _ => .inl rfl)))
              clear hK K
              (try simp only [List.getElem_toArray, List.getElem_cons_zero, List.getElem_cons_succ, Act.put, List.setIfInBounds_toArray, List.set_cons_zero, List.set_cons_succ])
              refine wpAnyH_done (by kernel_rfl) ?_ _
              refine NoPanic.normal ?_
              go_wp2
              go_roundw
              case rel =>
                have hct := (cutNL_true HOK.out).2
                have hnx := HSYS.out.next _ _ _ hlsn HINV.out (show (bs (cutPre rest)).size ≤ D.bytes.length by simp [bs, ByteArray.size]; omega) (show (doF F S (bs (cutPre rest))).err = 0 by rw [HRR.out])
                rw [HRR.out] at hnx
                have hrl := HRL.out
                have hk38 : Keep (fun k => k = w3.heap.size + 1 ∨ (Value.slice lo ls.length lc).ownBlock = some k) W3 (w7.setCell ⟨w3.heap.size + 1, 2, none⟩ (.slice ao7 (ls.length + 1) cap7)) :=
                  ((HK34.out.mono (fun _ _ h => .inl h)).trans HKR4.out (fun _ _ h => h)).setCell _ _ (fun _ => .inl rfl)
                have hk08 : Keep (fun k => k = w3.heap.size + 1 ∨ (Value.slice lo ls.length lc).ownBlock = some k) wr (w7.setCell ⟨w3.heap.size + 1, 2, none⟩ (.slice ao7 (ls.length + 1) cap7)) := (HKR.out.mono (fun _ _ h => h.elim)).trans hk38 (fun _ _ h => h)
                have hvne : (Value.slice ao7 (ls.length + 1) cap7).ownBlock ≠ some (w3.heap.size + 1) := fun e => ownsRow_blk HA.out.own HB7.out (by decide) e
                have hwr := HKEEP.out.size
                have hW3 := HKR.out.size
                have hsep3 : ∀ k, V'.fp k → w.heap.size ≤ k ∧ k ≠ w3.heap.size + 1 ∧ (Value.slice lo ls.length lc).ownBlock ≠ some k := fun k hk => by
                  rcases HFP.out k hk with e | e
                  · exact HSEP.out k e
                  · have e2 : (wr.alloc (.cells #[.int .u8 10] 5)).heap.size ≤ k := e
                    rw [World.size_alloc] at e2
                    refine ⟨by omega, fun h => by have := HBLK.out.lt; omega, fun h => by have := (ownsRow_lt HOWN.out k h).2; omega⟩
                refine ⟨rest.drop ((cutPre rest).length + 1), rs, ls ++ [bs (cutPre rest)], at_ + ((cutPre rest).length + 1), fuel - 1, V', ao7, cap7, by go_num, by omega, ?_, ?_, ?_, ?_, ?_, ?_, ?_, ?_, ?_, ?_, ?_⟩
                · rw [← HREST.out, List.drop_drop]
                · rw [List.length_drop]; omega
                · rw [← HLOOP.out]; exact (openLoop_step hfuel HOK.out HRR.out).symm
                · rw [List.length_append]; exact hnx
                · rw [List.length_append]; simp; omega
                · have := HB7.out.set 2 (.slice ao7 (ls.length + 1) cap7)
                  rw [List.length_append]
                  simpa using this
                · exact HST3.out.keep hk38 (fun i hi e => e.elim (fun e => (hsep3 i hi).2.1 e) (fun e => (hsep3 i hi).2.2 e))
                · intro k hk
                  refine ⟨(hsep3 k hk).1, (hsep3 k hk).2.1, fun e => ?_⟩
                  rw [List.length_append] at e
                  rcases HA.out.fresh with h1 | ⟨q1, h1, h2⟩
                  · exact (hsep3 k hk).2.2 (h1 ▸ e)
                  · have h3 : q1 = k := Option.some.inj (h1.symm.trans e)
                    have h4 := HST3.out.lt k hk
                    have h5 := HK34.out.size
                    have h6 := HK45.out.size
                    have h7 : w5.heap.size ≤ q1 := h2
                    omega
                · have := ownsRow_setCell HA.out.own ⟨w3.heap.size + 1, 2, none⟩ (.slice ao7 (ls.length + 1) cap7) hvne
                  simpa [strCells] using this
                · exact ownsRow_keep HBY.out hk08 (fun k e e' => e'.elim (fun e' => ownsRow_blk HBY.out HBLK.out (by decide) (e' ▸ e)) (fun e' => ownsRow_types HBY.out HOWN.out (by decide) k e e'))
                · exact HKEEP.out.trans hk08 (fun k hk e => e.elim (fun e => by have := HB.out; omega) (fun e => by have := (ownsRow_lt HOWN.out k e).1; omega))
              case measure =>
                have hct := (cutNL_true HOK.out).2
                have hrl := HRL.out
                simp [intOf]; omega
          · have hre : (re != 0) = true := by simpa using hz
            have HL := Lib.hid (show openF F D g = openEnd D (S, ls, at_) by rw [HF.out, ← HLOOP.out]; rw [openLoop_err hfuel HOK.out HRR.out hz])
            have HF := HL
            have hbw : w.heap.size ≤ w3.heap.size + 1 := by omega
            by_cases hend : at_ < D.bytes.length
            · have hlt : ((at_ : Int) < (D.bytes.length : Int)) = True := eq_true (by omega)
              obtain ⟨C, hC⟩ : ∃ C, cutF D (at_ : Int) = C := ⟨_, rfl⟩
              obtain ⟨ce, D1⟩ := C
              have HC := Lib.hid hC
              by_cases hce : ce = 0
              · subst hce
                obtain ⟨Y, hY⟩ : ∃ Y, syncF D1 = Y := ⟨_, rfl⟩
                obtain ⟨se, D2⟩ := Y
                have HY := Lib.hid hY
                have HL2 := Lib.hid (show openEnd D (S, ls, at_) = ⟨se, D2, S, ls⟩ by unfold openEnd; rw [if_pos hend]; simp only [hC, if_true, hY])
                clear hC hY
                by_cases hse : se = 0
                · subst hse
                  go_wp2_with (first
                    | (go_at_call 56; have hh := bcut_any (w := wr.alloc (.cells #[.int .u8 10] 5)) (b2 := wr.heap.size) ((HG.out.keep HKEEP.out).keep ((Keep.refl _ _).alloc _)) rfl (HRD.out.keep ((Keep.refl (fun _ => False) _).alloc _) (fun _ _ h => h)) (by rw [World.cell?_alloc_new]; rfl) (by omega); refine Calls.mono hh ?_; clear hh; rintro e w' ⟨v2, rfl, q, rfl⟩; rw [HOK.out]))
                  go_region_held3 (fun W => W.cell? ⟨w3.heap.size + 1, 1, none⟩ = some (.pointer (some ⟨V.b, 0, none⟩)) ∧ (convert 61 9 (.slice so (cutPre rest).length (bc - at_))).run Tryz.prog W = .ok (.string (bs (cutPre rest))) W)
                    ((refine HSA.out _ ?_; repeat (first | exact HKR.out | apply Keep.drew | apply Keep.drewN | apply Keep.alloc)))
                    ((go_at_call 53; have kk := ((((Keep.refl (fun _ => False) wr).alloc (.cells #[.int .u8 10] 5)).drewN q).drew); have hh := do_any (F := F) (line := bs (cutPre rest)) ((HG.out.keep HKEEP.out).keep kk) (HST.out.keep kk (fun _ _ h => h)) (HSYS.out.small _ _ hlsn HINV.out) (by simp [bs, ByteArray.size]; omega) (HSYS.out.run _ _ _ hlsn HINV.out (by simp [bs, ByteArray.size]; omega)); rw [HRR.out] at hh; refine Calls.mono hh ?_; clear hh; rintro e W3 ⟨V', rfl, hst3, hvb3, hVV, hfp3, hk3⟩; have HKR := Lib.hid (kk.trans hk3 (fun _ _ h => h)); have hB3 := HBLK.out.keep HKR.out (fun h => h); have c1 := hB3.cell 1; have f1 := hB3.free 1; simp at c1; have HB3 := Lib.hid hB3; have HST3 := Lib.hid hst3; have HVV := Lib.hid hVV; have HFP := Lib.hid hfp3; clear hst3 hvb3 hVV hfp3 hk3 kk hB3; dsimp only))
                  go_wp2_with (first
                    | (go_at_call 46; have hh := cut_any (at_ : Int) (HD.out.keep (HKEEP.out.trans HKR.out (fun _ _ h => h)) (fun h => h) (fun _ _ h => h)); rw [HC.out] at hh; dsimp only at hh; refine Calls.mono hh ?_; clear hh; rintro e W4 ⟨rfl, ⟨v1, hd1, hf1⟩, hk4⟩; have HD1 := Lib.hid hd1; have HF1 := Lib.hid hf1; have HK4 := Lib.hid hk4; clear hd1 hf1 hk4)
                    | (go_at_call 48; have hh := sync_any HD1.out; rw [HY.out] at hh; dsimp only at hh; refine Calls.mono hh ?_; clear hh; rintro e W5 ⟨rfl, ⟨v2, hd2, hf2⟩, hk5⟩; have HD2 := Lib.hid hd2; have HF2 := Lib.hid hf2; have HK5 := Lib.hid hk5; clear hd2 hf2 hk5))
                  go_ret2
                  rw [HF.out, HL2.out]
                  exact open_fin HD.out hb HB3.out (HST.out.keep HKR.out (fun _ _ h => h)) HSEP.out (ownsRow_keep HOWN.out HKR.out (fun _ _ h => h)) hbw (HKEEP.out.trans HKR.out (fun _ _ h => h)) (HK4.out.trans HK5.out (fun k hk e => e.elim .inl (fun e => HF1.out.elim (fun h => .inr (h ▸ e)) (fun ⟨g, h1, h2⟩ => by have h3 : g = k := Option.some.inj (h1.symm.trans e); omega)))) HD2.out (HF2.out.elim (fun h => HF1.out.elim (fun h' => .inl (h.trans h')) (fun ⟨g, h1, h2⟩ => .inr ⟨g, h.trans h1, h2⟩)) (fun ⟨g, h1, h2⟩ => .inr ⟨g, h1, Nat.le_trans HK4.out.size h2⟩))
                · have hse2 : (se != 0) = true := by simpa using hse
                  have hne := hse
                  go_wp2_with (first
                    | (go_at_call 56; have hh := bcut_any (w := wr.alloc (.cells #[.int .u8 10] 5)) (b2 := wr.heap.size) ((HG.out.keep HKEEP.out).keep ((Keep.refl _ _).alloc _)) rfl (HRD.out.keep ((Keep.refl (fun _ => False) _).alloc _) (fun _ _ h => h)) (by rw [World.cell?_alloc_new]; rfl) (by omega); refine Calls.mono hh ?_; clear hh; rintro e w' ⟨v2, rfl, q, rfl⟩; rw [HOK.out]))
                  go_region_held3 (fun W => W.cell? ⟨w3.heap.size + 1, 1, none⟩ = some (.pointer (some ⟨V.b, 0, none⟩)) ∧ (convert 61 9 (.slice so (cutPre rest).length (bc - at_))).run Tryz.prog W = .ok (.string (bs (cutPre rest))) W)
                    ((refine HSA.out _ ?_; repeat (first | exact HKR.out | apply Keep.drew | apply Keep.drewN | apply Keep.alloc)))
                    ((go_at_call 53; have kk := ((((Keep.refl (fun _ => False) wr).alloc (.cells #[.int .u8 10] 5)).drewN q).drew); have hh := do_any (F := F) (line := bs (cutPre rest)) ((HG.out.keep HKEEP.out).keep kk) (HST.out.keep kk (fun _ _ h => h)) (HSYS.out.small _ _ hlsn HINV.out) (by simp [bs, ByteArray.size]; omega) (HSYS.out.run _ _ _ hlsn HINV.out (by simp [bs, ByteArray.size]; omega)); rw [HRR.out] at hh; refine Calls.mono hh ?_; clear hh; rintro e W3 ⟨V', rfl, hst3, hvb3, hVV, hfp3, hk3⟩; have HKR := Lib.hid (kk.trans hk3 (fun _ _ h => h)); have hB3 := HBLK.out.keep HKR.out (fun h => h); have c1 := hB3.cell 1; have f1 := hB3.free 1; simp at c1; have HB3 := Lib.hid hB3; have HST3 := Lib.hid hst3; have HVV := Lib.hid hVV; have HFP := Lib.hid hfp3; clear hst3 hvb3 hVV hfp3 hk3 kk hB3; dsimp only))
                  go_wp2_with (first
                    | (go_at_call 46; have hh := cut_any (at_ : Int) (HD.out.keep (HKEEP.out.trans HKR.out (fun _ _ h => h)) (fun h => h) (fun _ _ h => h)); rw [HC.out] at hh; dsimp only at hh; refine Calls.mono hh ?_; clear hh; rintro e W4 ⟨rfl, ⟨v1, hd1, hf1⟩, hk4⟩; have HD1 := Lib.hid hd1; have HF1 := Lib.hid hf1; have HK4 := Lib.hid hk4; clear hd1 hf1 hk4)
                    | (go_at_call 48; have hh := sync_any HD1.out; rw [HY.out] at hh; dsimp only at hh; refine Calls.mono hh ?_; clear hh; rintro e W5 ⟨rfl, ⟨v2, hd2, hf2⟩, hk5⟩; have HD2 := Lib.hid hd2; have HF2 := Lib.hid hf2; have HK5 := Lib.hid hk5; clear hd2 hf2 hk5))
                  go_ret2
                  rw [HF.out, HL2.out]
                  exact open_err hne (HKEEP.out.trans HKR.out (fun _ _ h => h)) (HK4.out.trans HK5.out (fun k hk e => e.elim .inl (fun e => HF1.out.elim (fun h => .inr (h ▸ e)) (fun ⟨g, h1, h2⟩ => by have h3 : g = k := Option.some.inj (h1.symm.trans e); omega)))) HD2.out (HF2.out.elim (fun h => HF1.out.elim (fun h' => .inl (h.trans h')) (fun ⟨g, h1, h2⟩ => .inr ⟨g, h.trans h1, h2⟩)) (fun ⟨g, h1, h2⟩ => .inr ⟨g, h1, Nat.le_trans HK4.out.size h2⟩))
              · have hce2 : (ce != 0) = true := by simpa using hce
                have hne := hce
                have HL2 := Lib.hid (show openEnd D (S, ls, at_) = ⟨ce, D1, S, ls⟩ by unfold openEnd; rw [if_pos hend]; simp only [hC, if_neg hce])
                clear hC
                go_wp2_with (first
                  | (go_at_call 56; have hh := bcut_any (w := wr.alloc (.cells #[.int .u8 10] 5)) (b2 := wr.heap.size) ((HG.out.keep HKEEP.out).keep ((Keep.refl _ _).alloc _)) rfl (HRD.out.keep ((Keep.refl (fun _ => False) _).alloc _) (fun _ _ h => h)) (by rw [World.cell?_alloc_new]; rfl) (by omega); refine Calls.mono hh ?_; clear hh; rintro e w' ⟨v2, rfl, q, rfl⟩; rw [HOK.out]))
                go_region_held3 (fun W => W.cell? ⟨w3.heap.size + 1, 1, none⟩ = some (.pointer (some ⟨V.b, 0, none⟩)) ∧ (convert 61 9 (.slice so (cutPre rest).length (bc - at_))).run Tryz.prog W = .ok (.string (bs (cutPre rest))) W)
                  ((refine HSA.out _ ?_; repeat (first | exact HKR.out | apply Keep.drew | apply Keep.drewN | apply Keep.alloc)))
                  ((go_at_call 53; have kk := ((((Keep.refl (fun _ => False) wr).alloc (.cells #[.int .u8 10] 5)).drewN q).drew); have hh := do_any (F := F) (line := bs (cutPre rest)) ((HG.out.keep HKEEP.out).keep kk) (HST.out.keep kk (fun _ _ h => h)) (HSYS.out.small _ _ hlsn HINV.out) (by simp [bs, ByteArray.size]; omega) (HSYS.out.run _ _ _ hlsn HINV.out (by simp [bs, ByteArray.size]; omega)); rw [HRR.out] at hh; refine Calls.mono hh ?_; clear hh; rintro e W3 ⟨V', rfl, hst3, hvb3, hVV, hfp3, hk3⟩; have HKR := Lib.hid (kk.trans hk3 (fun _ _ h => h)); have hB3 := HBLK.out.keep HKR.out (fun h => h); have c1 := hB3.cell 1; have f1 := hB3.free 1; simp at c1; have HB3 := Lib.hid hB3; have HST3 := Lib.hid hst3; have HVV := Lib.hid hVV; have HFP := Lib.hid hfp3; clear hst3 hvb3 hVV hfp3 hk3 kk hB3; dsimp only))
                go_wp2_with (first
                  | (go_at_call 46; have hh := cut_any (at_ : Int) (HD.out.keep (HKEEP.out.trans HKR.out (fun _ _ h => h)) (fun h => h) (fun _ _ h => h)); rw [HC.out] at hh; dsimp only at hh; refine Calls.mono hh ?_; clear hh; rintro e W4 ⟨rfl, ⟨v1, hd1, hf1⟩, hk4⟩; have HD1 := Lib.hid hd1; have HF1 := Lib.hid hf1; have HK4 := Lib.hid hk4; clear hd1 hf1 hk4))
                go_ret2
                rw [HF.out, HL2.out]
                exact open_err hne (HKEEP.out.trans HKR.out (fun _ _ h => h)) HK4.out HD1.out HF1.out
            · have hlt : ((at_ : Int) < (D.bytes.length : Int)) = False := eq_false (by omega)
              obtain ⟨Y, hY⟩ : ∃ Y, syncF D = Y := ⟨_, rfl⟩
              obtain ⟨se, D2⟩ := Y
              have HY := Lib.hid hY
              have HL2 := Lib.hid (show openEnd D (S, ls, at_) = ⟨se, D2, S, ls⟩ by unfold openEnd; rw [if_neg hend]; simp only [hY])
              clear hY
              by_cases hse : se = 0
              · subst hse
                go_wp2_with (first
                  | (go_at_call 56; have hh := bcut_any (w := wr.alloc (.cells #[.int .u8 10] 5)) (b2 := wr.heap.size) ((HG.out.keep HKEEP.out).keep ((Keep.refl _ _).alloc _)) rfl (HRD.out.keep ((Keep.refl (fun _ => False) _).alloc _) (fun _ _ h => h)) (by rw [World.cell?_alloc_new]; rfl) (by omega); refine Calls.mono hh ?_; clear hh; rintro e w' ⟨v2, rfl, q, rfl⟩; rw [HOK.out]))
                go_region_held3 (fun W => W.cell? ⟨w3.heap.size + 1, 1, none⟩ = some (.pointer (some ⟨V.b, 0, none⟩)) ∧ (convert 61 9 (.slice so (cutPre rest).length (bc - at_))).run Tryz.prog W = .ok (.string (bs (cutPre rest))) W)
                  ((refine HSA.out _ ?_; repeat (first | exact HKR.out | apply Keep.drew | apply Keep.drewN | apply Keep.alloc)))
                  ((go_at_call 53; have kk := ((((Keep.refl (fun _ => False) wr).alloc (.cells #[.int .u8 10] 5)).drewN q).drew); have hh := do_any (F := F) (line := bs (cutPre rest)) ((HG.out.keep HKEEP.out).keep kk) (HST.out.keep kk (fun _ _ h => h)) (HSYS.out.small _ _ hlsn HINV.out) (by simp [bs, ByteArray.size]; omega) (HSYS.out.run _ _ _ hlsn HINV.out (by simp [bs, ByteArray.size]; omega)); rw [HRR.out] at hh; refine Calls.mono hh ?_; clear hh; rintro e W3 ⟨V', rfl, hst3, hvb3, hVV, hfp3, hk3⟩; have HKR := Lib.hid (kk.trans hk3 (fun _ _ h => h)); have hB3 := HBLK.out.keep HKR.out (fun h => h); have c1 := hB3.cell 1; have f1 := hB3.free 1; simp at c1; have HB3 := Lib.hid hB3; have HST3 := Lib.hid hst3; have HVV := Lib.hid hVV; have HFP := Lib.hid hfp3; clear hst3 hvb3 hVV hfp3 hk3 kk hB3; dsimp only))
                go_wp2_with (first
                  | (go_at_call 48; have hh := sync_any (HD.out.keep (HKEEP.out.trans HKR.out (fun _ _ h => h)) (fun h => h) (fun _ _ h => h)); rw [HY.out] at hh; dsimp only at hh; refine Calls.mono hh ?_; clear hh; rintro e W5 ⟨rfl, ⟨v2, hd2, hf2⟩, hk5⟩; have HD2 := Lib.hid hd2; have HF2 := Lib.hid hf2; have HK5 := Lib.hid hk5; clear hd2 hf2 hk5))
                go_ret2
                rw [HF.out, HL2.out]
                exact open_fin HD.out hb HB3.out (HST.out.keep HKR.out (fun _ _ h => h)) HSEP.out (ownsRow_keep HOWN.out HKR.out (fun _ _ h => h)) hbw (HKEEP.out.trans HKR.out (fun _ _ h => h)) HK5.out HD2.out HF2.out
              · have hse2 : (se != 0) = true := by simpa using hse
                have hne := hse
                go_wp2_with (first
                  | (go_at_call 56; have hh := bcut_any (w := wr.alloc (.cells #[.int .u8 10] 5)) (b2 := wr.heap.size) ((HG.out.keep HKEEP.out).keep ((Keep.refl _ _).alloc _)) rfl (HRD.out.keep ((Keep.refl (fun _ => False) _).alloc _) (fun _ _ h => h)) (by rw [World.cell?_alloc_new]; rfl) (by omega); refine Calls.mono hh ?_; clear hh; rintro e w' ⟨v2, rfl, q, rfl⟩; rw [HOK.out]))
                go_region_held3 (fun W => W.cell? ⟨w3.heap.size + 1, 1, none⟩ = some (.pointer (some ⟨V.b, 0, none⟩)) ∧ (convert 61 9 (.slice so (cutPre rest).length (bc - at_))).run Tryz.prog W = .ok (.string (bs (cutPre rest))) W)
                  ((refine HSA.out _ ?_; repeat (first | exact HKR.out | apply Keep.drew | apply Keep.drewN | apply Keep.alloc)))
                  ((go_at_call 53; have kk := ((((Keep.refl (fun _ => False) wr).alloc (.cells #[.int .u8 10] 5)).drewN q).drew); have hh := do_any (F := F) (line := bs (cutPre rest)) ((HG.out.keep HKEEP.out).keep kk) (HST.out.keep kk (fun _ _ h => h)) (HSYS.out.small _ _ hlsn HINV.out) (by simp [bs, ByteArray.size]; omega) (HSYS.out.run _ _ _ hlsn HINV.out (by simp [bs, ByteArray.size]; omega)); rw [HRR.out] at hh; refine Calls.mono hh ?_; clear hh; rintro e W3 ⟨V', rfl, hst3, hvb3, hVV, hfp3, hk3⟩; have HKR := Lib.hid (kk.trans hk3 (fun _ _ h => h)); have hB3 := HBLK.out.keep HKR.out (fun h => h); have c1 := hB3.cell 1; have f1 := hB3.free 1; simp at c1; have HB3 := Lib.hid hB3; have HST3 := Lib.hid hst3; have HVV := Lib.hid hVV; have HFP := Lib.hid hfp3; clear hst3 hvb3 hVV hfp3 hk3 kk hB3; dsimp only))
                go_wp2_with (first
                  | (go_at_call 48; have hh := sync_any (HD.out.keep (HKEEP.out.trans HKR.out (fun _ _ h => h)) (fun h => h) (fun _ _ h => h)); rw [HY.out] at hh; dsimp only at hh; refine Calls.mono hh ?_; clear hh; rintro e W5 ⟨rfl, ⟨v2, hd2, hf2⟩, hk5⟩; have HD2 := Lib.hid hd2; have HF2 := Lib.hid hf2; have HK5 := Lib.hid hk5; clear hd2 hf2 hk5))
                go_ret2
                rw [HF.out, HL2.out]
                exact open_err hne (HKEEP.out.trans HKR.out (fun _ _ h => h)) HK5.out HD2.out HF2.out
end Go.Proofs.YthdkamnclbfehaaGreatDoor
