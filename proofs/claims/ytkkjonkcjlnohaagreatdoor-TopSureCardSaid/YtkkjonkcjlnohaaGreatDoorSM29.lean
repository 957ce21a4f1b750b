/- match.values.fits at one atom of two terms. -/
import Derived.Test.YtkkjonkcjlnohaaGreatDoorSM25
import Derived.Test.YtkkjonkcjlnohaaGreatDoorSM28
import Derived.Laws.ResultCell
import Derived.Laws.Rows

/- match.values.fits at one atom of two terms. -/
namespace Go.Proofs.YtkkjonkcjlnohaaGreatDoor
set_option linter.unusedSimpArgs false
set_option linter.unusedVariables false
set_option linter.unnecessarySimpa false
open Go.RowKit

theorem results_cell_row2 {P : Program} {fn : Func} {p u : Tmp} {ty : TypeId} (h : fn.results = #[.cell p ty, .tmp u]) (tmps : Array Value) (w : World) (g : Nat) (t : TypeId) (cs : Array Value) (d : TypeDesc)
    (hp : tmps[p]?.getD undef = .pointer (some ⟨g, 0, none⟩)) (hg : Blk w g cs t)
    (hu : P.underlying ty = some d) (hd : (match d with | .struct _ | .array _ _ => true | _ => false) = true) (hi : (P.info? ty).map (·.size) = some cs.size) :
    (results fn tmps).run P w = .ok (.tuple #[.agg cs, tmps[u]?.getD undef]) w := by
  rw [results_cell_tmp h]
  have hp' : tmps.getD p undef = .pointer (some ⟨g, 0, none⟩) := by simpa using hp
  rw [hp']
  simp [asAddr, run_loadVar_row w g t ty cs (0, 0) d hg hu hd hi]
def zc (x : Int) : Array Value := #[.int .i64 x, .int .i64 0, .int .i64 0, .int .i64 0, .int .i64 0, .int .i64 0, .int .i64 0, .int .i64 0]
theorem size255 (x : Int) : (Tryz.prog.info? 255).map (·.size) = some (zc x).size := by
  have h : (Tryz.prog.info? 255).map (·.size) = some 8 := by kernel_rfl
  rw [h]; rfl
def ofV (x t : Int) : Int := if t = 0 then x else -t
theorem of_any {w : World} {x t : Int} (ht : -9 ≤ t ∧ t ≤ 0) : Calls Tryz.prog 268 #[.agg (zc x), .int .i64 t] w (IdxPost w (.int .i64 (ofV x t))) := by
  unfold zc
  by_cases h0 : t = 0
  · subst h0
    go_enter Tryz.func268, Tryz.ntmps268
    go_wp2
    go_ret
    exact ⟨rfl, (Keep.refl _ _).alloc _⟩
  · have h1 : (t < 0) = True := eq_true (by omega)
    have h2 := IntWalk.i64_in (-t) ⟨by omega, by omega⟩
    have HE := Lib.hid (show ofV x t = -t by unfold ofV; rw [if_neg h0])
    clear h0 ht
    go_enter Tryz.func268, Tryz.ntmps268
    go_wp2
    go_ret
    exact ⟨by rw [HE.out]; rfl, (Keep.refl _ _).alloc _⟩
/-- What the first variable is behind a fit. -/
def fitX (t0 : Int) (f : Fct) : Int := if t0 = 0 then f.1 else 0
def FitPost (w : World) (t0 t1 : Int) (f : Fct) (e : Ending) (w' : World) : Prop :=
  Keep (fun _ => False) w w' ∧ ((fit t0 t1 f = true ∧ e = .returned (.tuple #[.agg (zc (fitX t0 f)), .bool true])) ∨ (fit t0 t1 f = false ∧ ∃ x, e = .returned (.tuple #[.agg (zc x), .bool false])))
structure FB (w : World) (x : Int) (av fv : Value) (wr : World) : Prop where
  b0 : Blk wr w.heap.size (zc x) 255
  b1 : Blk wr (w.heap.size + 1) #[.int .i64 0, av] 46
  b2 : Blk wr (w.heap.size + 2) #[.int .i64 0, fv] 38
  b3 : Blk wr (w.heap.size + 3) (zc 0) 255
  k : Keep (fun _ => False) w wr
theorem FB.keep {w : World} {x : Int} {av fv : Value} {wr w' : World} (h : FB w x av fv wr) (k : Keep (fun _ => False) wr w') : FB w x av fv w' :=
  ⟨h.b0.keep k (fun h => h), h.b1.keep k (fun h => h), h.b2.keep k (fun h => h), h.b3.keep k (fun h => h), h.k.trans k (fun _ _ h => h)⟩
def FC (h : Nat) (x : Int) (b o : Nat) (ac : Nat) (g q : Nat) (fc : Nat) (t0 t1 f0 f1 : Int) (W : World) : Prop :=
  W.cell? ⟨h, 0, none⟩ = some (.int .i64 x) ∧ W.cell? ⟨h, 1, none⟩ = some (.int .i64 0) ∧ W.cell? ⟨h, 2, none⟩ = some (.int .i64 0) ∧ W.cell? ⟨h, 3, none⟩ = some (.int .i64 0) ∧ W.cell? ⟨h, 4, none⟩ = some (.int .i64 0) ∧ W.cell? ⟨h, 5, none⟩ = some (.int .i64 0) ∧ W.cell? ⟨h, 6, none⟩ = some (.int .i64 0) ∧ W.cell? ⟨h, 7, none⟩ = some (.int .i64 0) ∧
  W.cell? ⟨h + 1, 1, none⟩ = some (.slice (some ⟨b, o, none⟩) 2 ac) ∧ W.cell? ⟨h + 2, 1, none⟩ = some (.slice (some ⟨g, q, none⟩) 2 fc) ∧ W.cell? ⟨b, o, none⟩ = some (.int .i64 t0) ∧ W.cell? ⟨b, o + 1, none⟩ = some (.int .i64 t1) ∧ W.cell? ⟨g, q, none⟩ = some (.int .i64 f0) ∧ W.cell? ⟨g, q + 1, none⟩ = some (.int .i64 f1) ∧ W.frozen? ⟨h, 0, none⟩ = false ∧ W.frozen? ⟨h + 1 + 1 + 1, 0, none⟩ = false ∧ W.frozen? ⟨h + 1 + 1 + 1, 1, none⟩ = false ∧ W.frozen? ⟨h + 1 + 1 + 1, 2, none⟩ = false ∧ W.frozen? ⟨h + 1 + 1 + 1, 3, none⟩ = false ∧ W.frozen? ⟨h + 1 + 1 + 1, 4, none⟩ = false ∧ W.frozen? ⟨h + 1 + 1 + 1, 5, none⟩ = false ∧ W.frozen? ⟨h + 1 + 1 + 1, 6, none⟩ = false ∧ W.frozen? ⟨h + 1 + 1 + 1, 7, none⟩ = false ∧ W.cell? ⟨h + 1 + 1 + 1, 0, none⟩ = some (.int .i64 0) ∧ W.cell? ⟨h + 1 + 1 + 1, 1, none⟩ = some (.int .i64 0) ∧ W.cell? ⟨h + 1 + 1 + 1, 2, none⟩ = some (.int .i64 0) ∧ W.cell? ⟨h + 1 + 1 + 1, 3, none⟩ = some (.int .i64 0) ∧ W.cell? ⟨h + 1 + 1 + 1, 4, none⟩ = some (.int .i64 0) ∧ W.cell? ⟨h + 1 + 1 + 1, 5, none⟩ = some (.int .i64 0) ∧ W.cell? ⟨h + 1 + 1 + 1, 6, none⟩ = some (.int .i64 0) ∧ W.cell? ⟨h + 1 + 1 + 1, 7, none⟩ = some (.int .i64 0)
def set8 (W : World) (g : Nat) (x : Int) : World :=
  (((((((W.setCell ⟨g, 0, none⟩ (.int .i64 x)).setCell ⟨g, 1, none⟩ (.int .i64 0)).setCell ⟨g, 2, none⟩ (.int .i64 0)).setCell ⟨g, 3, none⟩ (.int .i64 0)).setCell ⟨g, 4, none⟩ (.int .i64 0)).setCell ⟨g, 5, none⟩ (.int .i64 0)).setCell ⟨g, 6, none⟩ (.int .i64 0)).setCell ⟨g, 7, none⟩ (.int .i64 0)
theorem blk8 {W : World} {g : Nat} {x y : Int} (h : Blk W g (zc y) 255) : Blk (set8 W g x) g (zc x) 255 := by
  have h := (((((((h.set 0 (.int .i64 x)).set 1 (.int .i64 0)).set 2 (.int .i64 0)).set 3 (.int .i64 0)).set 4 (.int .i64 0)).set 5 (.int .i64 0)).set 6 (.int .i64 0)).set 7 (.int .i64 0)
  simpa [zc, set8] using h
theorem keep8 (W : World) (g : Nat) (x : Int) : Keep (fun k => k = g) W (set8 W g x) := by
  have k : ∀ (V : World) (a : Nat) (v : Value), Keep (fun k => k = g) W V → Keep (fun k => k = g) W (V.setCell ⟨g, a, none⟩ v) := fun V a v h => h.setCell _ _ (fun _ => rfl)
  unfold set8
  exact k _ _ _ (k _ _ _ (k _ _ _ (k _ _ _ (k _ _ _ (k _ _ _ (k _ _ _ (k _ _ _ (Keep.refl _ _))))))))
def FitRel (w : World) (t0 t1 : Int) (f : Fct) (av fv : Value) (i : Value) (wr : World) : Prop :=
  (i = .int .i64 0 ∧ FB w 0 av fv wr) ∨ (i = .int .i64 1 ∧ FB w (fitX t0 f) av fv wr ∧ (t0 = 0 ∨ f.1 = -t0)) ∨ (i = .int .i64 2 ∧ FB w (fitX t0 f) av fv wr ∧ fit t0 t1 f = true)
set_option maxHeartbeats 4000000 in
set_option maxRecDepth 100000 in
theorem fits_any {w : World} {av fv : Value} {t0 t1 : Int} {hd : List Int} {f : Fct} (ha : Rd w 1 av 2 (icells [t0, t1])) (ht : TOk t0 t1 hd) (hf : Rd w 1 fv 2 (icells (fl f))) (hr : (1 ≤ f.1 ∧ f.1 ≤ 99) ∧ 1 ≤ f.2 ∧ f.2 ≤ 99) :
    Calls Tryz.prog 205 #[.agg (zc 0), .agg #[.int .i64 0, av], .agg #[.int .i64 0, fv]] w (FitPost w t0 t1 f) := by
  obtain ⟨ao, ac, hae, _⟩ := ha.shape
  obtain ⟨fo, fc, hfe, _⟩ := hf.shape
  subst hae hfe
  obtain ⟨b, o, hao, c0⟩ := rd_int ha (k := 0) (by omega)
  subst hao
  obtain ⟨g, q, hfo, d0⟩ := rd_int hf (k := 0) (by omega)
  subst hfo
  have hfc : ∀ x W, FB w x (.slice (some ⟨b, o, none⟩) 2 ac) (.slice (some ⟨g, q, none⟩) 2 fc) W → FC w.heap.size x b o ac g q fc t0 t1 f.1 f.2 W := fun x W h => by
    obtain ⟨b', o', e, a0⟩ := rd_int (ha.keep h.k (fun _ _ h => h)) (k := 0) (by omega)
    cases e
    obtain ⟨b', o', e, a1⟩ := rd_int (ha.keep h.k (fun _ _ h => h)) (k := 1) (by omega)
    cases e
    obtain ⟨b', o', e, f0⟩ := rd_int (hf.keep h.k (fun _ _ h => h)) (k := 0) (by omega)
    cases e
    obtain ⟨b', o', e, f1⟩ := rd_int (hf.keep h.k (fun _ _ h => h)) (k := 1) (by omega)
    cases e
    exact ⟨h.b0.cell 0, h.b0.cell 1, h.b0.cell 2, h.b0.cell 3, h.b0.cell 4, h.b0.cell 5, h.b0.cell 6, h.b0.cell 7, h.b1.cell 1, h.b2.cell 1, a0, a1, f0, f1, h.b0.free 0, h.b3.free 0, h.b3.free 1, h.b3.free 2, h.b3.free 3, h.b3.free 4, h.b3.free 5, h.b3.free 6, h.b3.free 7, h.b3.cell 0, h.b3.cell 1, h.b3.cell 2, h.b3.cell 3, h.b3.cell 4, h.b3.cell 5, h.b3.cell 6, h.b3.cell 7⟩
  have HFC := Lib.hid hfc
  have hta := ht.a; have htb := ht.b
  obtain ⟨f0, f1⟩ := f
  simp only at hr HFC
  have HOF : Hid (∀ (W : World) (x t : Int), (-9 ≤ t ∧ t ≤ 0) → Calls Tryz.prog 268 #[.agg (zc x), .int .i64 t] W (IdxPost W (.int .i64 (ofV x t)))) := Lib.hid (fun W x t h => of_any h)
  have HTA := Lib.hid hta; have HTB := Lib.hid htb; have HR := Lib.hid hr
  clear ha ht hf hr c0 d0 hfc hta htb
  have hst : FB w 0 (.slice (some ⟨b, o, none⟩) 2 ac) (.slice (some ⟨g, q, none⟩) 2 fc) ((((w.alloc (.cells (zc 0) 255)).alloc (.cells #[.int .i64 0, .slice (some ⟨b, o, none⟩) 2 ac] 46)).alloc (.cells #[.int .i64 0, .slice (some ⟨g, q, none⟩) 2 fc] 38)).alloc (.cells (zc 0) 255)) := by
    refine ⟨((((Blk.new w _ _).alloc _).alloc _).alloc _), ?_, ?_, ?_, (((((Keep.refl _ w).alloc _).alloc _).alloc _).alloc _)⟩
    · have h := Blk.new (w.alloc (.cells (zc 0) 255)) #[.int .i64 0, .slice (some ⟨b, o, none⟩) 2 ac] 46
      rw [World.size_alloc] at h
      exact (h.alloc _).alloc _
    · have h := Blk.new ((w.alloc (.cells (zc 0) 255)).alloc (.cells #[.int .i64 0, .slice (some ⟨b, o, none⟩) 2 ac] 46)) #[.int .i64 0, .slice (some ⟨g, q, none⟩) 2 fc] 38
      rw [World.size_alloc, World.size_alloc] at h
      exact h.alloc _
    · have h := Blk.new (((w.alloc (.cells (zc 0) 255)).alloc (.cells #[.int .i64 0, .slice (some ⟨b, o, none⟩) 2 ac] 46)).alloc (.cells #[.int .i64 0, .slice (some ⟨g, q, none⟩) 2 fc] 38)) (zc 0) 255
      rw [World.size_alloc, World.size_alloc, World.size_alloc] at h
      exact h
  have HST := Lib.hid hst; clear hst
  go_enter Tryz.func205, Tryz.ntmps205
  unfold zc
  go_wp2_with fail
  go_loopw [29] (fun i wr => FitRel w t0 t1 (f0, f1) (.slice (some ⟨b, o, none⟩) 2 ac) (.slice (some ⟨g, q, none⟩) 2 fc) i wr) (fun i _ => 2 - (intOf i).toNat)
  case atStart => exact .inl ⟨rfl, HST.out⟩
  case round =>
    rcases hrel with ⟨rfl, hb⟩ | ⟨rfl, hb, hm⟩ | ⟨rfl, hb, hm⟩
    · have HB := Lib.hid hb; clear hb
      obtain ⟨c0, c1, c2, c3, c4, c5, c6, c7, c8, c9, c10, c11, c12, c13, c14, c15, c16, c17, c18, c19, c20, c21, c22, c23, c24, c25, c26, c27, c28, c29, c30⟩ := HFC.out _ _ HB.out
      have HT0 : Hid (-9 ≤ t0 ∧ t0 ≤ 0) := Lib.hid (by have := HTA.out; omega)
      by_cases h0 : t0 = 0
      · subst h0
        have HV : Hid (ofV 0 0 = 0) := Lib.hid rfl
        go_wp2_with (go_at_call 268; refine (HOF.out _ 0 0 (by first | exact HT0.out | exact HT1.out)).mono ?_; rintro e w' ⟨he, hk⟩; rw [HV.out] at he; subst he; have HB2 := Lib.hid (HB.out.keep hk); clear hk; obtain ⟨e0, e1, e2, e3, e4, e5, e6, e7, e8, e9, e10, e11, e12, e13, e14, e15, e16, e17, e18, e19, e20, e21, e22, e23, e24, e25, e26, e27, e28, e29, e30⟩ := HFC.out _ _ HB2.out)
        go_roundw
        case rel =>
          refine .inr (.inl ⟨rfl, ⟨?_, HB2.out.b1.setOther _ _ (by simp), HB2.out.b2.setOther _ _ (by simp), HB2.out.b3.setOther _ _ (by simp), HB2.out.k.setCell _ _ (fun h => by have h' : w.heap.size < w.heap.size := h; omega)⟩, .inl rfl⟩)
          have h := HB2.out.b0.set 0 (.int .i64 f0)
          exact h
        case measure => simp [intOf]
      · have HV : Hid (ofV 0 t0 = -t0) := Lib.hid (by unfold ofV; rw [if_neg h0])
        have hz : (-t0 == 0) = false := by simp; omega
        by_cases hm : f0 = -t0
        · have hn : (-t0 != f0) = false := by simp [hm]
          have HM := Lib.hid hm; have H0 := Lib.hid h0
          clear h0 hm
          go_wp2_with (go_at_call 268; refine (HOF.out _ 0 t0 (by first | exact HT0.out | exact HT1.out)).mono ?_; rintro e w' ⟨he, hk⟩; rw [HV.out] at he; subst he; have HB2 := Lib.hid (HB.out.keep hk); clear hk; obtain ⟨e0, e1, e2, e3, e4, e5, e6, e7, e8, e9, e10, e11, e12, e13, e14, e15, e16, e17, e18, e19, e20, e21, e22, e23, e24, e25, e26, e27, e28, e29, e30⟩ := HFC.out _ _ HB2.out)
          go_roundw
          case rel => exact .inr (.inl ⟨rfl, by rw [show fitX t0 (f0, f1) = 0 by unfold fitX; rw [if_neg H0.out]]; exact HB2.out, .inr HM.out⟩)
          case measure => simp [intOf]
        · have hn : (-t0 != f0) = true := by simp; exact fun e => hm e.symm
          have HF : Hid (fit t0 t1 (f0, f1) = false) := Lib.hid (by unfold fit; simp [h0, hm])
          clear h0 hm
          go_wp2_with (go_at_call 268; refine (HOF.out _ 0 t0 (by first | exact HT0.out | exact HT1.out)).mono ?_; rintro e w' ⟨he, hk⟩; rw [HV.out] at he; subst he; have HB2 := Lib.hid (HB.out.keep hk); clear hk; obtain ⟨e0, e1, e2, e3, e4, e5, e6, e7, e8, e9, e10, e11, e12, e13, e14, e15, e16, e17, e18, e19, e20, e21, e22, e23, e24, e25, e26, e27, e28, e29, e30⟩ := HFC.out _ _ HB2.out)
          (try simp only [Exit.inBlock, Exit.then])
          refine bodyPost_ret (results_cell_row2 rfl _ _ (w.heap.size + 3) 255 (zc 0) _ rfl ?_ Tryz.underlying255 rfl (size255 _)) rfl ?_
          · exact blk8 HB2.out.b3
          · exact ⟨HB2.out.k.trans (keep8 _ _ _) (fun k hk e => by omega), .inr ⟨HF.out, 0, rfl⟩⟩
    · have HB := Lib.hid hb; clear hb
      have HMM := Lib.hid hm; clear hm
      obtain ⟨c0, c1, c2, c3, c4, c5, c6, c7, c8, c9, c10, c11, c12, c13, c14, c15, c16, c17, c18, c19, c20, c21, c22, c23, c24, c25, c26, c27, c28, c29, c30⟩ := HFC.out _ _ HB.out
      have HT1 : Hid (-9 ≤ t1 ∧ t1 ≤ 0) := Lib.hid (by have := HTB.out; omega)
      obtain ⟨x, hx⟩ : ∃ x, fitX t0 (f0, f1) = x := ⟨_, rfl⟩
      have HX := Lib.hid hx
      rw [hx] at HB c0
      clear hx
      have HV : Hid (ofV x t1 = -t1) := Lib.hid (by unfold ofV; rw [if_neg (by have := HTB.out; omega)])
      have hz : (-t1 == 0) = false := by have := HTB.out; simp; omega
      by_cases hm : f1 = -t1
      · have hn : (-t1 != f1) = false := by simp [hm]
        have HF : Hid (fit t0 t1 (f0, f1) = true) := Lib.hid (by
          unfold fit
          rcases HMM.out with e | e
          · simp [e, hm]
          · have e' : f0 = -t0 := e
            simp [e', hm])
        clear hm
        go_wp2_with (go_at_call 268; refine (HOF.out _ x t1 (by first | exact HT0.out | exact HT1.out)).mono ?_; rintro e w' ⟨he, hk⟩; rw [HV.out] at he; subst he; have HB2 := Lib.hid (HB.out.keep hk); clear hk; obtain ⟨e0, e1, e2, e3, e4, e5, e6, e7, e8, e9, e10, e11, e12, e13, e14, e15, e16, e17, e18, e19, e20, e21, e22, e23, e24, e25, e26, e27, e28, e29, e30⟩ := HFC.out _ _ HB2.out)
        go_roundw
        case rel => exact .inr (.inr ⟨rfl, by rw [HX.out]; exact HB2.out, HF.out⟩)
        case measure => simp [intOf]
      · have hn : (-t1 != f1) = true := by simp; exact fun e => hm e.symm
        have HF : Hid (fit t0 t1 (f0, f1) = false) := Lib.hid (by unfold fit; simp [hm])
        clear hm
        go_wp2_with (go_at_call 268; refine (HOF.out _ x t1 (by first | exact HT0.out | exact HT1.out)).mono ?_; rintro e w' ⟨he, hk⟩; rw [HV.out] at he; subst he; have HB2 := Lib.hid (HB.out.keep hk); clear hk; obtain ⟨e0, e1, e2, e3, e4, e5, e6, e7, e8, e9, e10, e11, e12, e13, e14, e15, e16, e17, e18, e19, e20, e21, e22, e23, e24, e25, e26, e27, e28, e29, e30⟩ := HFC.out _ _ HB2.out)
        (try simp only [Exit.inBlock, Exit.then])
        refine bodyPost_ret (results_cell_row2 rfl _ _ (w.heap.size + 3) 255 (zc x) _ rfl ?_ Tryz.underlying255 rfl (size255 _)) rfl ?_
        · exact blk8 HB2.out.b3
        · exact ⟨HB2.out.k.trans (keep8 _ _ _) (fun k hk e => by omega), .inr ⟨HF.out, x, rfl⟩⟩
    · have HB2 := Lib.hid hb; clear hb
      have HMM := Lib.hid hm; clear hm
      obtain ⟨x, hx⟩ : ∃ x, fitX t0 (f0, f1) = x := ⟨_, rfl⟩
      have HX := Lib.hid hx
      rw [hx] at HB2
      obtain ⟨e0, e1, e2, e3, e4, e5, e6, e7, e8, e9, e10, e11, e12, e13, e14, e15, e16, e17, e18, e19, e20, e21, e22, e23, e24, e25, e26, e27, e28, e29, e30⟩ := HFC.out _ _ HB2.out
      clear hx
      go_wp2_with fail
      (try simp only [Exit.inBlock, Exit.then])
      refine bodyPost_ret (results_cell_row2 rfl _ _ (w.heap.size + 3) 255 (zc x) _ rfl ?_ Tryz.underlying255 rfl (size255 _)) rfl ?_
      · exact blk8 HB2.out.b3
      · exact ⟨HB2.out.k.trans (keep8 _ _ _) (fun k hk e => by omega), .inl ⟨HMM.out, by rw [HX.out]; rfl⟩⟩
end Go.Proofs.YtkkjonkcjlnohaaGreatDoor
