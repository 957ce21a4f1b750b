/- The disk of the reference: what each method does to it; the same functions as for the program's disk. -/
import Derived.Test.YthdkamnclbfehaaGreatDoorDiskB
namespace Go.Proofs.YthdkamnclbfehaaGreatDoor
set_option linter.unusedSimpArgs false
set_option linter.unusedVariables false
set_option linter.unnecessarySimpa false
open Go.RowKit

/-- The reference's disk lies at block bd. -/
structure RDiskAt (base : Nat) (w : World) (bd : Nat) (D : Dsk) (v : Value) : Prop where
  blk : Blk w bd #[.int .i64 D.size, v, .int .i64 D.safe, .bool D.off, .int .i64 D.left] 98
  own : w.ownsRow base 5 1 v D.bytes.length (bcells D.bytes)
  ge : base ≤ bd
  ne : v.ownBlock ≠ some bd
  ok : D.ok
theorem RDiskAt.drewN {base bd : Nat} {D : Dsk} {v : Value} {w : World} (h : RDiskAt base w bd D v) (n : Nat) : RDiskAt base (w.drewN n) bd D v :=
  ⟨h.blk, h.own, h.ge, h.ne, h.ok⟩
theorem RDiskAt.keep {base bd : Nat} {D : Dsk} {v : Value} {w w' : World} {S : Nat → Prop} (h : RDiskAt base w bd D v) (k : Keep S w w') (h1 : ¬ S bd) (h2 : ∀ g, v.ownBlock = some g → ¬ S g) : RDiskAt base w' bd D v :=
  ⟨h.blk.keep k h1, ownsRow_keep h.own k h2, h.ge, h.ne, h.ok⟩

def ROnPost (base : Nat) (w : World) (bd : Nat) (D : Dsk) (v : Value) (e : Ending) (w' : World) : Prop :=
  e = .returned (.bool (onF D).1) ∧ RDiskAt base w' bd (onF D).2 v ∧ Keep (fun k => k = bd) w w'

set_option maxHeartbeats 400000 in
theorem done_any {base bd : Nat} {D : Dsk} {v : Value} {w : World} (h : RDiskAt base w bd D v) :
    Calls Tryz.prog 65 #[.pointer (some ⟨bd, 0, none⟩)] w (ROnPost base w bd D v) := by
  obtain ⟨off, left, size, safe, bytes⟩ := D
  have hok' := onF_ok h.ok
  obtain ⟨hb, ho, hge, hne, hok⟩ := h
  have h3 := hb.cell 3
  have h4 := hb.cell 4
  have f3 := hb.free 3
  have f4 := hb.free 4
  have l0 := hok.left0
  have l1 := hok.left1
  simp at h3 h4 l0 l1
  have HB := Lib.hid hb; clear hb
  have HO := Lib.hid ho; clear ho
  have HN := Lib.hid hne; clear hne
  have HK := Lib.hid hok'; clear hok'
  clear hok
  cases off
  · by_cases hl : left = 0
    · subst hl
      go_enter Tryz.func65, Tryz.ntmps65
      go_wp2
      go_ret
      exact ⟨rfl, ⟨by simpa [onF] using HB.out.set 3 (.bool true), ownsRow_setCell HO.out _ _ HN.out, hge, HN.out, HK.out⟩, (Keep.refl _ _).setCell _ _ (fun _ => rfl)⟩
    have hl' : (left == 0) = false := by simpa using hl
    by_cases hm : left < 0
    · obtain rfl : left = -1 := by omega
      clear hl hm hl'
      go_enter Tryz.func65, Tryz.ntmps65
      go_wp2
      go_ret
      exact ⟨rfl, ⟨by simpa [onF] using HB.out, HO.out, hge, HN.out, HK.out⟩, Keep.refl _ _⟩
    · have hF : onF ⟨false, left, size, safe, bytes⟩ = (true, ⟨false, left - 1, size, safe, bytes⟩) := by simp [onF, hl, hm]
      have HF := Lib.hid hF; clear hF
      have hm1 : 1 ≤ left := by omega
      have hm2 : decide (0 < left) = true := by simp; omega
      clear hl hm
      go_enter Tryz.func65, Tryz.ntmps65
      go_wp2
      go_ret
      refine ⟨by rw [HF.out]; rfl, ⟨?_, ?_, hge, HN.out, HK.out⟩, (Keep.refl _ _).setCell _ _ (fun _ => rfl)⟩
      · rw [HF.out]; simpa using HB.out.set 4 (.int .i64 (left - 1))
      · rw [HF.out]; exact ownsRow_setCell HO.out _ _ HN.out
  · have hF : onF ⟨true, left, size, safe, bytes⟩ = (false, ⟨true, left, size, safe, bytes⟩) := by simp [onF]
    have HF := Lib.hid hF; clear hF
    go_enter Tryz.func65, Tryz.ntmps65
    go_wp2
    go_ret
    refine ⟨by rw [HF.out]; rfl, ⟨?_, ?_, hge, HN.out, HK.out⟩, Keep.refl _ _⟩
    · rw [HF.out]; exact HB.out
    · rw [HF.out]; exact HO.out

def RDiskPost (base : Nat) (w : World) (bd : Nat) (r : Value) (D : Dsk) (v : Value) (e : Ending) (w' : World) : Prop :=
  e = .returned r ∧ (∃ v', RDiskAt base w' bd D v' ∧ (v'.ownBlock = v.ownBlock ∨ ∃ g, v'.ownBlock = some g ∧ w.heap.size ≤ g)) ∧
    Keep (fun k => k = bd ∨ v.ownBlock = some k) w w'

set_option maxHeartbeats 800000 in
theorem rsync_any {base bd : Nat} {D : Dsk} {v : Value} {w : World} (h : RDiskAt base w bd D v) :
    Calls Tryz.prog 49 #[.pointer (some ⟨bd, 0, none⟩)] w (RDiskPost base w bd (.int .i64 (syncF D).1) (syncF D).2 v) := by
  obtain ⟨vo, vc, hve, _⟩ := ownsRow_shape h.own
  subst hve
  have l4 := h.ok.size1
  have l5 := h.ok.fits
  have HD := Lib.hid h; clear h
  by_cases hon : (onF D).1 = true
  · have hF : syncF D = (0, { (onF D).2 with safe := D.bytes.length }) := by simp [syncF, hon]
    have HF := Lib.hid hF; clear hF
    have HON := Lib.hid hon; clear hon
    go_enter Tryz.func49, Tryz.ntmps49
    go_wp2_with (go_at_call 65; refine (done_any HD.out).mono ?_; rintro e w1 ⟨he, hd1, hk1⟩; rw [HON.out] at he; subst he; have c1 := hd1.blk.cell 1; have c2 := hd1.blk.cell 2; simp at c1 c2; have f2 := hd1.blk.free 2; have HD1 := Lib.hid hd1; clear hd1; have HK1 := Lib.hid hk1; clear hk1)
    go_ret
    refine ⟨by rw [HF.out]; rfl, ⟨_, ⟨?_, ?_, HD.out.ge, HD.out.ne, ?_⟩, .inl rfl⟩, ?_⟩
    · rw [HF.out]
      simpa using HD1.out.blk.set 2 (.int .i64 D.bytes.length)
    · rw [HF.out]
      exact ownsRow_setCell HD1.out.own _ _ HD1.out.ne
    · rw [HF.out]
      obtain ⟨q1, q2, q3, q4, q5, q6⟩ := HD1.out.ok
      obtain ⟨r1, r2, r3⟩ := onF_bytes D
      exact ⟨q1, q2, q3, q4, by simp [r1], q6⟩
    · exact (HK1.out.mono (fun _ _ h => .inl h)).setCell _ _ (fun _ => .inl rfl)
  · have hon' : (onF D).1 = false := by simpa using hon
    have hF : syncF D = (10, (onF D).2) := by simp [syncF, hon']
    have HF := Lib.hid hF; clear hF
    have HON := Lib.hid hon'; clear hon hon'
    go_enter Tryz.func49, Tryz.ntmps49
    go_wp2_with (go_at_call 65; refine (done_any HD.out).mono ?_; rintro e w1 ⟨he, hd1, hk1⟩; rw [HON.out] at he; subst he; have HD1 := Lib.hid hd1; clear hd1; have HK1 := Lib.hid hk1; clear hk1)
    go_ret
    exact ⟨by rw [HF.out]; rfl, ⟨_, by rw [HF.out]; exact HD1.out, .inl rfl⟩, HK1.out.mono (fun _ _ h => .inl h)⟩

set_option maxHeartbeats 800000 in
theorem rcut_any {base bd : Nat} {D : Dsk} {v : Value} {w : World} (n : Int) (h : RDiskAt base w bd D v) :
    Calls Tryz.prog 47 #[.pointer (some ⟨bd, 0, none⟩), .int .i64 n] w (RDiskPost base w bd (.int .i64 (cutF D n).1) (cutF D n).2 v) := by
  obtain ⟨vo, vc, hve, hvn, hvm, hvz, _⟩ := ownsRow_shape h.own
  subst hve
  have l4 := h.ok.size1
  have l5 := h.ok.fits
  have c1 := h.blk.cell 1
  simp at c1
  have HD := Lib.hid h; clear h
  have HZ := Lib.hid hvz; clear hvz
  by_cases hbad : n < 0 ∨ (D.bytes.length : Int) < n
  · have hF : cutF D n = (2, D) := by simp only [cutF, hbad, if_true]
    have HF := Lib.hid hF; clear hF
    rcases hbad with hbad | hbad
    · go_enter Tryz.func47, Tryz.ntmps47
      go_wp2
      go_ret
      exact ⟨by rw [HF.out]; rfl, ⟨_, by rw [HF.out]; exact HD.out, .inl rfl⟩, Keep.refl _ _⟩
    · have hp : decide (n < 0) = false := by simp; omega
      go_enter Tryz.func47, Tryz.ntmps47
      go_wp2
      go_ret
      exact ⟨by rw [HF.out]; rfl, ⟨_, by rw [HF.out]; exact HD.out, .inl rfl⟩, Keep.refl _ _⟩
  · have hb0 : 0 ≤ n := by omega
    have hb1 : n ≤ D.bytes.length := by omega
    obtain ⟨k, rfl⟩ := Int.eq_ofNat_of_zero_le hb0
    have hk : k ≤ D.bytes.length := by omega
    have hkc : (k : Int) ≤ vc := by omega
    have hp : decide ((k : Int) < 0) = false := by simp
    by_cases hon : (onF D).1 = true
    · have hF : cutF D k = (0, { (onF D).2 with bytes := D.bytes.take k, safe := k }) := by simp [cutF, hon]; omega
      have HF := Lib.hid hF; clear hF
      have HON := Lib.hid hon; clear hon hbad
      go_enter Tryz.func47, Tryz.ntmps47
      go_wp2_with (go_at_call 65; refine (done_any HD.out).mono ?_; rintro e w1 ⟨he, hd1, hk1⟩; rw [HON.out] at he; subst he; have c1 := hd1.blk.cell 1; have c2 := hd1.blk.cell 2; simp at c1 c2; have f1 := hd1.blk.free 1; have f2 := hd1.blk.free 2; have HD1 := Lib.hid hd1; clear hd1; have HK1 := Lib.hid hk1; clear hk1)
      go_ret
      have own1 : w1.ownsRow base 5 1 (.slice vo D.bytes.length vc) D.bytes.length (bcells D.bytes) := by
        have := HD1.out.own; rwa [(onF_bytes D).1] at this
      have own2 := ownsRow_take own1 k hk
      have hne : (Value.slice vo k vc).ownBlock ≠ some bd := by rw [ownBlock_slice _ k vc D.bytes.length vc]; exact HD.out.ne
      refine ⟨by rw [HF.out]; rfl, ⟨.slice vo k vc, ⟨?_, ?_, HD.out.ge, hne, ?_⟩, .inl (ownBlock_slice _ _ _ _ _)⟩, ?_⟩
      · rw [HF.out]
        simpa using (HD1.out.blk.set 1 (.slice vo k vc)).set 2 (.int .i64 k)
      · rw [HF.out]
        have := ownsRow_setCell (ownsRow_setCell own2 ⟨bd, 1, none⟩ (.slice vo k vc) hne) ⟨bd, 2, none⟩ (.int .i64 k) hne
        simpa [bcells_take, Nat.min_eq_left hk] using this
      · rw [HF.out]
        obtain ⟨q1, q2, q3, q4, q5, q6⟩ := HD1.out.ok
        obtain ⟨r1, r2, r3⟩ := onF_bytes D
        exact ⟨q1, q2, q3, q4, by simp; omega, by simp; rw [r2]; omega⟩
      · exact ((HK1.out.mono (fun _ _ h => .inl h)).setCell _ _ (fun _ => .inl rfl)).setCell _ _ (fun _ => .inl rfl)
    · have hon' : (onF D).1 = false := by simpa using hon
      have hF : cutF D k = (10, (onF D).2) := by simp [cutF, hon']; omega
      have HF := Lib.hid hF; clear hF
      have HON := Lib.hid hon'; clear hon hon' hbad
      go_enter Tryz.func47, Tryz.ntmps47
      go_wp2_with (go_at_call 65; refine (done_any HD.out).mono ?_; rintro e w1 ⟨he, hd1, hk1⟩; rw [HON.out] at he; subst he; have HD1 := Lib.hid hd1; clear hd1; have HK1 := Lib.hid hk1; clear hk1)
      go_ret
      exact ⟨by rw [HF.out]; rfl, ⟨_, by rw [HF.out]; exact HD1.out, .inl rfl⟩, HK1.out.mono (fun _ _ h => .inl h)⟩

set_option maxHeartbeats 800000 in
theorem rfuse_any {base bd : Nat} {D : Dsk} {v : Value} {w : World} (k : Int) (hk : k ≤ 9223372036854775807) (h : RDiskAt base w bd D v) :
    Calls Tryz.prog 33 #[.pointer (some ⟨bd, 0, none⟩), .int .i64 k] w (RDiskPost base w bd (.tuple #[]) (fuseF D k) v) := by
  have c3 := h.blk.cell 3
  have c4 := h.blk.cell 4
  have f4 := h.blk.free 4
  simp at c3 c4
  have hoff : D.off = true ∨ D.off = false := by cases D.off <;> simp
  have HD := Lib.hid h; clear h
  rcases hoff with hoff | hoff
  · rw [hoff] at c3
    have HF := Lib.hid (show fuseF D k = D by simp [fuseF, hoff])
    clear hoff
    go_enter Tryz.func33, Tryz.ntmps33
    go_wp2
    go_end0
    exact ⟨rfl, ⟨_, by rw [HF.out]; exact HD.out, .inl rfl⟩, Keep.refl _ _⟩
  · rw [hoff] at c3
    have HO := Lib.hid hoff
    clear hoff
    by_cases hk0 : k < 0
    · have HF := Lib.hid (show fuseF D k = { D with left := -1 } by simp [fuseF, HO.out, hk0])
      go_enter Tryz.func33, Tryz.ntmps33
      go_wp2
      all_goals
        go_end0
        refine ⟨rfl, ⟨v, ?_, .inl rfl⟩, (Keep.refl _ _).setCell _ _ (fun _ => .inl rfl)⟩
        rw [HF.out]
        refine ⟨?_, ownsRow_setCell HD.out.own _ _ HD.out.ne, HD.out.ge, HD.out.ne, ⟨by simp, by simp, HD.out.ok.size0, HD.out.ok.size1, HD.out.ok.safe, HD.out.ok.fits⟩⟩
        first | (simpa using HD.out.blk.set 4 (.int .i64 (-1))) | (obtain rfl : k = -1 := (by omega); simpa using HD.out.blk.set 4 (.int .i64 (-1)))
    · have hk1 : 0 ≤ k := by omega
      have HF := Lib.hid (show fuseF D k = { D with left := k } by simp [fuseF, HO.out, hk0])
      clear hk0
      go_enter Tryz.func33, Tryz.ntmps33
      go_wp2
      go_end0
      refine ⟨rfl, ⟨v, ?_, .inl rfl⟩, (Keep.refl _ _).setCell _ _ (fun _ => .inl rfl)⟩
      rw [HF.out]
      refine ⟨?_, ownsRow_setCell HD.out.own _ _ HD.out.ne, HD.out.ge, HD.out.ne, ⟨by simp; omega, hk, HD.out.ok.size0, HD.out.ok.size1, HD.out.ok.safe, HD.out.ok.fits⟩⟩
      simpa using HD.out.blk.set 4 (.int .i64 k)
end Go.Proofs.YthdkamnclbfehaaGreatDoor
