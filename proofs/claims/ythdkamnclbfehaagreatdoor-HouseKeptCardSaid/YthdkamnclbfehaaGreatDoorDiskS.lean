/- The disk of the reference, ended: Append, Crash; and the two makers, NewDisk. -/
import Derived.Test.YthdkamnclbfehaaGreatDoorDiskR
import Derived.StillTailTactics
namespace Go.Proofs.YthdkamnclbfehaaGreatDoor
set_option linter.unusedSimpArgs false
set_option linter.unusedVariables false
set_option linter.unnecessarySimpa false
open Go.RowKit

set_option maxHeartbeats 800000 in
theorem rappend_any {base bd : Nat} {D : Dsk} {v x : Value} {w : World} {l : List UInt8} (h : RDiskAt base w bd D v) (hx : Rd w 1 x l.length (bcells l)) (hxd : x.ownBlock ≠ some bd) (hxl : ∀ g, x.ownBlock = some g → g < w.heap.size) (hll : l.length ≤ 140737488355328) (hbase : base ≤ w.heap.size) :
    Calls Tryz.prog 32 #[.pointer (some ⟨bd, 0, none⟩), x] w (RDiskPost base w bd (.int .i64 (appendF D l).1) (appendF D l).2 v) := by
  have hd := h
  have l4 := h.ok.size1
  have l5 := h.ok.fits
  have hb := h.blk
  have h0 := hb.cell 0
  have h1 := hb.cell 1
  simp at h0 h1
  obtain ⟨xo, xc, hxe, hxn, hxm, _⟩ := hx.shape
  subst hxe
  obtain ⟨vo, vc, hve, _⟩ := ownsRow_shape h.own
  subst hve
  unfold maxLen at hxm
  have HD := Lib.hid hd; clear hd
  have HX := Lib.hid hx; clear hx
  have HXD := Lib.hid hxd; clear hxd
  have HXL := Lib.hid hxl; clear hxl
  clear h hb
  have e1 : IntKind.i64.wrap ((D.bytes.length : Int) + l.length) = (D.bytes.length : Int) + l.length := IntWalk.i64_in _ (by omega)
  by_cases hfull : D.size < D.bytes.length + l.length
  · have hF : appendF D l = (9, D) := by simp [appendF, hfull]
    have HF := Lib.hid hF; clear hF
    have hfi : (D.size : Int) < D.bytes.length + l.length := by omega
    go_enter Tryz.func32, Tryz.ntmps32
    go_wp2
    go_quiet (fail)
    go_wp2
    go_ret
    exact ⟨by rw [HF.out]; rfl, ⟨_, by rw [HF.out]; exact HD.out.drewN _, .inl rfl⟩, (Keep.refl _ _).drewN _⟩
  · have hroom : (D.bytes.length : Int) + l.length ≤ D.size := by omega
    by_cases hon : (onF D).1 = true
    · have hF : appendF D l = (0, { (onF D).2 with bytes := D.bytes ++ l }) := by simp [appendF, hfull, hon]
      have HF := Lib.hid hF; clear hF
      have HON := Lib.hid hon; clear hon hfull
      have HE := Lib.hid e1
      go_enter Tryz.func32, Tryz.ntmps32
      go_wp2
      go_quiet (fail)
      clear e1
      go_wp2_with (first | (go_at_call 65; refine (done_any (HD.out.drewN _)).mono ?_; rintro e w1 ⟨he, hd1, hk1⟩; rw [HON.out] at he; subst he; have c1 := hd1.blk.cell 1; simp at c1; have hbd := hd1.blk.lt; have HD1 := Lib.hid hd1; clear hd1; have hw1 : w.heap.size ≤ w1.heap.size := hk1.size; have HK1 := Lib.hid hk1; clear hk1; have HOWN := Lib.hid (show w1.ownsRow base 5 1 (.slice vo D.bytes.length vc) D.bytes.length (bcells D.bytes) by have := HD1.out.own; rwa [(onF_bytes D).1] at this); have HX1 := Lib.hid (HX.out.keep (S := fun k => k = bd) (((Keep.refl _ w).drewN nq).trans HK1.out (fun _ _ h => h)) (fun b hb e => HXD.out (by rw [hb, e]))); have HSRC := Lib.hid (((ownsRow_rd HOWN.out (bcells_one _)).keep ((Keep.refl (fun _ => False) w1).alloc (.cells #[] 5)) (fun _ _ h => h)).src (P := Tryz.prog) Tryz.underlying61); have HNEW := Lib.hid (World.ownsRow_made (base := w1.heap.size) (e := 5) (size := 1) w1 #[] 0 (Nat.le_refl _) (by unfold maxLen; omega) rfl)) | (at_builtin; refine wpList_app (w := w1.alloc (.cells #[] 5)) rfl (.tmp 22) (.tmp 26) 61 61 rfl 5 (.int .u8 0) 1 1 Tryz.underlying61 info5 rfl HNEW.out rfl HSRC.out rfl ?hb1 ?hb2 ?hb3 ?hgo))
      case hb1 => unfold maxLen; omega
      case hb2 => omega
      case hb3 => simp
      case hgo =>
      intro v1 w2 happ
      have k12 : Keep (fun _ => False) w1 w2 := ((Keep.refl (fun _ => False) w1).alloc (.cells #[] 5)).trans happ.keep (fun k hk e => by have e' : w1.heap.size = k := Option.some.inj e; omega)
      have hw2 : w1.heap.size ≤ w2.heap.size := k12.size
      have HX2 := Lib.hid ((HX1.out.keep k12 (fun _ _ h => h)).src (P := Tryz.prog) Tryz.underlying61)
      have HA := Lib.hid happ; clear happ
      have HK2 := Lib.hid k12; clear k12
      go_wp2_with (at_builtin; refine wpList_app (w := w2) rfl (.tmp 27) (.tmp 28) 61 61 rfl 5 (.int .u8 0) 1 1 Tryz.underlying61 info5 rfl HA.out.own rfl HX2.out rfl ?hb1 ?hb2 ?hb3 ?hgo)
      case hb1 => unfold maxLen; omega
      case hb2 => omega
      case hb3 => omega
      case hgo =>
      intro v2 w3 happ
      have hlt : ∀ g, v2.ownBlock = some g → w1.heap.size ≤ g := by
        intro g hg
        exact (happ.own.lt g hg).1
      have k13 : Keep (fun _ => False) w1 w3 := HK2.out.trans happ.keep (fun k hk e => by have := (HA.out.own.lt k e).1; omega)
      obtain ⟨ao, cap, hv', _⟩ := ownsRow_shape happ.own
      have c1' := (k13.cell (p := ⟨bd, 1, none⟩) hbd (fun h => h)).trans c1
      have f1' := (k13.frozen (p := ⟨bd, 1, none⟩) hbd (fun h => h)).trans (HD1.out.blk.free 1)
      subst hv'
      have HB := Lib.hid happ; clear happ
      have HK3 := Lib.hid k13; clear k13
      have HLT := Lib.hid hlt; clear hlt
      go_wp2
      go_ret
      have hne' : (Value.slice ao (D.bytes.length + l.length) cap).ownBlock ≠ some bd := by
        intro e; have := HLT.out _ e; omega
      refine ⟨by rw [HF.out]; rfl, ⟨_, ⟨?_, ?_, HD.out.ge, hne', ?_⟩, ?_⟩, ?_⟩
      · rw [HF.out]
        have := (HD1.out.blk.keep HK3.out (fun h => h)).set 1 (.slice ao (D.bytes.length + l.length) cap)
        simpa using this
      · rw [HF.out]
        have := ownsRow_setCell HB.out.own ⟨bd, 1, none⟩ (.slice ao (D.bytes.length + l.length) cap) hne'
        obtain ⟨h1, h2⟩ := this
        refine ⟨by simp [bcells_length], ?_⟩
        rcases h2 with ⟨h2, h3⟩ | ⟨g, c, cur, h2, h3, h4⟩
        · exact .inl ⟨by simpa using h2, by simpa using h3⟩
        · refine .inr ⟨g, c, cur, by simpa using h2, by omega, ?_⟩
          simpa [bcells_append] using h4
      · rw [HF.out]
        obtain ⟨q1, q2, q3, q4, q5, q6⟩ := HD1.out.ok
        obtain ⟨r1, r2, r3⟩ := onF_bytes D
        refine ⟨q1, q2, q3, q4, ?_, ?_⟩
        · rw [r1] at q5; simp; omega
        · simp; rw [r2]; omega
      · cases hob : (Value.slice ao (D.bytes.length + l.length) cap).ownBlock with
        | none =>
          exfalso
          rcases HB.out.fresh with h | ⟨g, h, _⟩
          · rw [hob] at h
            rcases HA.out.fresh with h' | ⟨g, h', _⟩
            · rw [h'] at h; cases h
            · rw [h'] at h; cases h
          · rw [hob] at h; cases h
        | some g => exact .inr ⟨g, rfl, by have := HLT.out g hob; omega⟩
      · refine Keep.setCell ?_ _ _ (fun _ => .inl rfl)
        exact (((Keep.refl _ w).drewN nq).trans HK1.out (fun _ _ h => .inl h)).trans HK3.out (fun _ _ h => h.elim)
    · have hon' : (onF D).1 = false := by simpa using hon
      have hF : appendF D l = (10, (onF D).2) := by simp [appendF, hfull, hon']
      have HF := Lib.hid hF; clear hF
      have HON := Lib.hid hon'; clear hon hon' hfull
      go_enter Tryz.func32, Tryz.ntmps32
      go_wp2
      go_quiet (fail)
      clear e1
      go_wp2_with (go_at_call 65; refine (done_any (HD.out.drewN _)).mono ?_; rintro e w1 ⟨he, hd1, hk1⟩; rw [HON.out] at he; subst he; have HD1 := Lib.hid hd1; clear hd1; have HK1 := Lib.hid hk1; clear hk1)
      go_ret
      exact ⟨by rw [HF.out]; rfl, ⟨_, by rw [HF.out]; exact HD1.out, .inl rfl⟩, ((Keep.refl _ w).drewN nq).trans HK1.out (fun _ _ h => .inl h)⟩
set_option maxHeartbeats 800000 in
set_option maxRecDepth 100000 in
theorem rcrash_any {base bd : Nat} {D : Dsk} {v : Value} {w : World} (k : Int) (hk : k ≤ 9223372036854775807) (h : RDiskAt base w bd D v) :
    Calls Tryz.prog 45 #[.pointer (some ⟨bd, 0, none⟩), .int .i64 k] w (RDiskPost base w bd (.tuple #[]) (crashF D k) v) := by
  have l4 := h.ok.size1
  have l5 := h.ok.fits
  have l6 := h.ok.safe
  have c1 := h.blk.cell 1
  have c2 := h.blk.cell 2
  have c3 := h.blk.cell 3
  have c4 := h.blk.cell 4
  have f1 := h.blk.free 1
  have f2 := h.blk.free 2
  have f3 := h.blk.free 3
  have f4 := h.blk.free 4
  simp at c1 c2 c3 c4
  obtain ⟨vo, vc, hve, hvn, hvm, hvz, _⟩ := ownsRow_shape h.own
  subst hve
  have HD := Lib.hid h; clear h
  have HZ := Lib.hid hvz; clear hvz
  have hn : crashN D k ≤ D.bytes.length := by unfold crashN; split; · omega
                                              split <;> omega
  have fin : ∀ (n : Nat) (wq : World) (nq : Nat), crashN D k = n → wq = ((((w.drewN nq).setCell ⟨bd, 1, none⟩ (.slice vo n vc)).setCell ⟨bd, 2, none⟩ (.int .i64 n)).setCell ⟨bd, 3, none⟩ (.bool false)).setCell ⟨bd, 4, none⟩ (.int .i64 (-1)) →
      RDiskPost base w bd (.tuple #[]) (crashF D k) (.slice vo D.bytes.length vc) (.returned (.tuple #[])) wq := by
    intro n wq nq hc hw
    subst hw
    subst hc
    have hne : (Value.slice vo (crashN D k) vc).ownBlock ≠ some bd := by rw [ownBlock_slice _ _ vc D.bytes.length vc]; exact HD.out.ne
    have own2 := ownsRow_take (HD.out.drewN nq).own (crashN D k) hn
    refine ⟨rfl, ⟨.slice vo (crashN D k) vc, ⟨?_, ?_, HD.out.ge, hne, ?_⟩, .inl (ownBlock_slice _ _ _ _ _)⟩, ?_⟩
    · simpa [crashF] using ((((HD.out.drewN nq).blk.set 1 (.slice vo (crashN D k) vc)).set 2 (.int .i64 (crashN D k))).set 3 (.bool false)).set 4 (.int .i64 (-1))
    · have := ownsRow_setCell (ownsRow_setCell (ownsRow_setCell (ownsRow_setCell own2 ⟨bd, 1, none⟩ (.slice vo (crashN D k) vc) hne) ⟨bd, 2, none⟩ (.int .i64 (crashN D k)) hne) ⟨bd, 3, none⟩ (.bool false) hne) ⟨bd, 4, none⟩ (.int .i64 (-1)) hne
      simpa [crashF, bcells_take, Nat.min_eq_left hn] using this
    · obtain ⟨q1, q2, q3, q4, q5, q6⟩ := HD.out.ok
      exact ⟨by simp [crashF], by simp [crashF], q3, q4, by simp [crashF]; omega, by simp [crashF]; omega⟩
    · exact (((((Keep.refl _ w).drewN nq).setCell _ _ (fun _ => .inl rfl)).setCell _ _ (fun _ => .inl rfl)).setCell _ _ (fun _ => .inl rfl)).setCell _ _ (fun _ => .inl rfl)
  have HFIN := Lib.hid fin; clear fin
  have e1 : IntKind.i64.wrap ((D.bytes.length : Int) - D.safe) = (D.bytes.length : Int) - D.safe := IntWalk.i64_in _ (by omega)
  by_cases hk0 : k < 0
  · have HN := Lib.hid (show crashN D k = D.safe by unfold crashN; rw [if_pos hk0])
    have hs : (D.safe : Int) ≤ vc := by omega
    have e2 : IntKind.i64.wrap (D.safe : Int) = D.safe := IntWalk.i64_in _ (by omega)
    have m1 : ((D.bytes.length : Int) - D.safe < 0) = False := by simp; omega
    have m2 : (D.bytes.length < D.safe) = False := by simp; omega
    go_enter Tryz.func45, Tryz.ntmps45
    go_wp2
    go_still_tail 26, (by kernel_rfl)
    change wpList _ _ _ _ _ w.drew
    clear e1 e2 m1 m2
    go_wp2
    go_end0
    exact HFIN.out _ _ 1 HN.out rfl

  obtain ⟨j, rfl⟩ := Int.eq_ofNat_of_zero_le (show 0 ≤ k by omega)
  by_cases hk1 : (D.bytes.length : Int) - D.safe < j
  · have HN := Lib.hid (show crashN D j = D.bytes.length by unfold crashN; rw [if_neg (by omega), if_pos hk1])
    have hs : (D.bytes.length : Int) ≤ vc := by omega
    have m1 : ((D.bytes.length : Int) - D.safe < j) = True := by simp; omega
    have m2 : ((j : Int) < 0) = False := by simp
    have e2 : IntKind.i64.wrap ((D.safe : Int) + (D.bytes.length - D.safe)) = D.bytes.length := by rw [IntWalk.i64_in _ (by omega)]; omega
    go_enter Tryz.func45, Tryz.ntmps45
    go_wp2
    go_still_tail 26, (by kernel_rfl)
    change wpList _ _ _ _ _ w.drew
    clear e1 e2 m1 m2
    go_wp2
    go_end0
    exact HFIN.out _ _ 1 HN.out rfl

  · have HN := Lib.hid (show crashN D j = D.safe + j by unfold crashN; rw [if_neg (by omega), if_neg hk1]; simp)
    have hs : (D.safe : Int) + j ≤ vc := by omega
    have hs0 : 0 ≤ (D.safe : Int) + j := by omega
    have ht : ((D.safe : Int) + j).toNat = D.safe + j := by omega
    have e2 : IntKind.i64.wrap ((D.safe : Int) + j) = (D.safe : Int) + j := IntWalk.i64_in _ (by omega)
    have m1 : ((D.bytes.length : Int) - D.safe < j) = False := by simp; omega
    have m2 : ((j : Int) < 0) = False := by simp
    go_enter Tryz.func45, Tryz.ntmps45
    go_wp2
    go_still_tail 26, (by kernel_rfl)
    change wpList _ _ _ _ _ w.drew
    clear e1 e2 m1 m2
    go_wp2
    go_end0
    exact HFIN.out _ _ 1 HN.out rfl

def newD (n : Nat) : Dsk := ⟨false, -1, n, 0, []⟩
def NewPost (base : Nat) (w : World) (n : Int) (e : Ending) (w' : World) : Prop :=
  (e = .returned (.tuple #[if n < 1 ∨ 1000000 < n then .pointer none else .pointer (some ⟨w.heap.size, 0, none⟩), .int .i64 (if n < 1 ∨ 1000000 < n then 2 else 0)])) ∧ Keep (fun _ => False) w w' ∧
  (1 ≤ n → n ≤ 1000000 → w.heap.size < w'.heap.size ∧ DiskAt base w' w.heap.size (newD n.toNat) (.slice none 0 0))
def RNewPost (base : Nat) (w : World) (n : Int) (e : Ending) (w' : World) : Prop :=
  (e = .returned (.tuple #[if n < 1 ∨ 1000000 < n then .pointer none else .pointer (some ⟨w.heap.size, 0, none⟩), .int .i64 (if n < 1 ∨ 1000000 < n then 2 else 0)])) ∧ Keep (fun _ => False) w w' ∧
  (1 ≤ n → n ≤ 1000000 → w.heap.size < w'.heap.size ∧ RDiskAt base w' w.heap.size (newD n.toNat) (.slice none 0 0))
theorem newD_ok {n : Nat} (h0 : 1 ≤ n) (h1 : n ≤ 1000000) : (newD n).ok := ⟨by simp [newD], by simp [newD], h0, h1, by simp [newD], by simp [newD]⟩

theorem newDisk_any {base : Nat} {w : World} (n : Int) (hb : base ≤ w.heap.size) : Calls Tryz.prog 42 #[.int .i64 n] w (NewPost base w n) := by
  by_cases h1 : n < 1
  · have HN := Lib.hid h1
    go_enter Tryz.func42, Tryz.ntmps42
    go_wp2
    go_ret2
    exact ⟨by simp only [if_pos (show n < 1 ∨ 1000000 < n from .inl HN.out)]; rfl, Keep.refl _ _, fun h => by omega⟩
  have h1' : decide (n < 1) = false := by simp; omega
  by_cases h2 : 1000000 < n
  · go_enter Tryz.func42, Tryz.ntmps42
    go_wp2
    go_ret2
    exact ⟨by simp only [if_pos (show n < 1 ∨ 1000000 < n from .inr h2)]; rfl, Keep.refl _ _, fun _ h => by omega⟩
  · obtain ⟨m, rfl⟩ := Int.eq_ofNat_of_zero_le (show 0 ≤ n by omega)
    go_enter Tryz.func42, Tryz.ntmps42
    go_wp2
    go_ret2
    refine ⟨by simp only [if_neg (show ¬ ((m : Int) < 1 ∨ 1000000 < (m : Int)) by omega)]; rfl, (Keep.refl _ _).alloc _, fun _ _ => ⟨by simp, Blk.new _ _ _, World.ownsRow_nil _ _ _ _, hb, by simp [Value.ownBlock], newD_ok (by omega) (by omega)⟩⟩
theorem rnewDisk_any {base : Nat} {w : World} (n : Int) (hb : base ≤ w.heap.size) : Calls Tryz.prog 43 #[.int .i64 n] w (RNewPost base w n) := by
  by_cases h1 : n < 1
  · have HN := Lib.hid h1
    go_enter Tryz.func43, Tryz.ntmps43
    go_wp2
    go_ret2
    exact ⟨by simp only [if_pos (show n < 1 ∨ 1000000 < n from .inl HN.out)]; rfl, Keep.refl _ _, fun h => by omega⟩
  have h1' : decide (n < 1) = false := by simp; omega
  by_cases h2 : 1000000 < n
  · go_enter Tryz.func43, Tryz.ntmps43
    go_wp2
    go_ret2
    exact ⟨by simp only [if_pos (show n < 1 ∨ 1000000 < n from .inr h2)]; rfl, Keep.refl _ _, fun _ h => by omega⟩
  · obtain ⟨m, rfl⟩ := Int.eq_ofNat_of_zero_le (show 0 ≤ n by omega)
    go_enter Tryz.func43, Tryz.ntmps43
    go_wp2
    go_ret2
    refine ⟨by simp only [if_neg (show ¬ ((m : Int) < 1 ∨ 1000000 < (m : Int)) by omega)]; rfl, (Keep.refl _ _).alloc _, fun _ _ => ⟨by simp, Blk.new _ _ _, World.ownsRow_nil _ _ _ _, hb, by simp [Value.ownBlock], newD_ok (by omega) (by omega)⟩⟩
end Go.Proofs.YthdkamnclbfehaaGreatDoor
