/- The disk of the program, continued: Sync, Cut, Read, Fuse, Crash, NewDisk. -/
import Derived.Test.YthdkamnclbfehaaGreatDoorO5
import Derived.StillTailTactics
/- The disk of the program, continued: Sync, Cut, Read, Fuse, Crash, NewDisk. -/
namespace Go.Proofs.YthdkamnclbfehaaGreatDoor
set_option linter.unusedSimpArgs false
set_option linter.unusedVariables false
set_option linter.unnecessarySimpa false
open Go.RowKit
def DiskPost (base : Nat) (w : World) (bd : Nat) (r : Value) (D : Dsk) (v : Value) (e : Ending) (w' : World) : Prop :=
  e = .returned r ∧ (∃ v', DiskAt base w' bd D v' ∧ (v'.ownBlock = v.ownBlock ∨ ∃ g, v'.ownBlock = some g ∧ w.heap.size ≤ g)) ∧
    Keep (fun k => k = bd ∨ v.ownBlock = some k) w w'
set_option maxHeartbeats 800000 in
theorem sync_any {base bd : Nat} {D : Dsk} {v : Value} {w : World} (h : DiskAt base w bd D v) :
    Calls Tryz.prog 48 #[.pointer (some ⟨bd, 0, none⟩)] w (DiskPost base w bd (.int .i64 (syncF D).1) (syncF D).2 v) := by
  obtain ⟨vo, vc, hve, _⟩ := ownsRow_shape h.own
  subst hve
  have l4 := h.ok.size1
  have l5 := h.ok.fits
  have HD := Lib.hid h; clear h
  by_cases hon : (onF D).1 = true
  · have hF : syncF D = (0, { (onF D).2 with safe := D.bytes.length }) := by simp [syncF, hon]
    have HF := Lib.hid hF; clear hF
    have HON := Lib.hid hon; clear hon
    go_enter Tryz.func48, Tryz.ntmps48
    go_wp2_with (first | (go_at_call 51; refine (none_any HD.out).mono ?_; rintro e w' ⟨rfl, rfl⟩) | (go_at_call 64; refine (on_any HD.out).mono ?_; rintro e w1 ⟨he, hd1, hk1⟩; rw [HON.out] at he; subst he; have c4 := hd1.blk.cell 4; have c3 := hd1.blk.cell 3; simp at c4 c3; have f3 := hd1.blk.free 3; have HD1 := Lib.hid hd1; clear hd1; have HK1 := Lib.hid hk1; clear hk1))
    go_ret
    refine ⟨by rw [HF.out]; rfl, ⟨_, ⟨?_, ?_, HD.out.ge, HD.out.ne, ?_⟩, .inl rfl⟩, ?_⟩
    · rw [HF.out]
      simpa using HD1.out.blk.set 3 (.int .i64 D.bytes.length)
    · rw [HF.out]
      exact ownsRow_setCell HD1.out.own _ _ HD1.out.ne
    · rw [HF.out]
      obtain ⟨q1, q2, q3, q4, q5, q6⟩ := HD1.out.ok
      obtain ⟨r1, r2, r3⟩ := onF_bytes D
      exact ⟨q1, q2, q3, q4, by simp [r1], q6⟩
    · exact (HK1.out.mono (fun _ _ h => .inl h)).setCell _ _ (fun _ => .inl rfl)
  · have hon' : (onF D).1 = false := by simpa using hon
    have hF : syncF D = (10, (onF D).2) := by simp [syncF, hon']
    have HF := Lib.hid hF; clear hF
    have HON := Lib.hid hon'; clear hon hon'
    go_enter Tryz.func48, Tryz.ntmps48
    go_wp2_with (first | (go_at_call 51; refine (none_any HD.out).mono ?_; rintro e w' ⟨rfl, rfl⟩) | (go_at_call 64; refine (on_any HD.out).mono ?_; rintro e w1 ⟨he, hd1, hk1⟩; rw [HON.out] at he; subst he; have HD1 := Lib.hid hd1; clear hd1; have HK1 := Lib.hid hk1; clear hk1))
    go_ret
    exact ⟨by rw [HF.out]; rfl, ⟨_, by rw [HF.out]; exact HD1.out, .inl rfl⟩, HK1.out.mono (fun _ _ h => .inl h)⟩
set_option maxHeartbeats 800000 in
theorem cut_any {base bd : Nat} {D : Dsk} {v : Value} {w : World} (n : Int) (h : DiskAt base w bd D v) :
    Calls Tryz.prog 46 #[.pointer (some ⟨bd, 0, none⟩), .int .i64 n] w (DiskPost base w bd (.int .i64 (cutF D n).1) (cutF D n).2 v) := by
  obtain ⟨vo, vc, hve, hvn, hvm, hvz, _⟩ := ownsRow_shape h.own
  subst hve
  have l4 := h.ok.size1
  have l5 := h.ok.fits
  have c4 := h.blk.cell 4
  simp at c4
  have HD := Lib.hid h; clear h
  have HZ := Lib.hid hvz; clear hvz
  by_cases hbad : n < 0 ∨ (D.bytes.length : Int) < n
  · have hF : cutF D n = (2, D) := by simp only [cutF, hbad, if_true]
    have HF := Lib.hid hF; clear hF
    rcases hbad with hbad | hbad
    · go_enter Tryz.func46, Tryz.ntmps46
      go_wp2_with (go_at_call 51; refine (none_any HD.out).mono ?_; rintro e w' ⟨rfl, rfl⟩)
      go_ret
      exact ⟨by rw [HF.out]; rfl, ⟨_, by rw [HF.out]; exact HD.out, .inl rfl⟩, Keep.refl _ _⟩
    · have hp : decide (n < 0) = false := by simp; omega
      go_enter Tryz.func46, Tryz.ntmps46
      go_wp2_with (go_at_call 51; refine (none_any HD.out).mono ?_; rintro e w' ⟨rfl, rfl⟩)
      go_ret
      exact ⟨by rw [HF.out]; rfl, ⟨_, by rw [HF.out]; exact HD.out, .inl rfl⟩, Keep.refl _ _⟩
  · have hb0 : 0 ≤ n := by omega
    have hb1 : n ≤ D.bytes.length := by omega
    obtain ⟨k, rfl⟩ := Int.eq_ofNat_of_zero_le hb0
    have hk : k ≤ D.bytes.length := by omega
    have hkc : (k : Int) ≤ vc := by omega
    have hp : decide ((k : Int) < 0) = false := by simp
    by_cases hon : (onF D).1 = true
    · have hF : cutF D k = (0, { (onF D).2 with bytes := D.bytes.take k, safe := k }) := by simp [cutF, hon]; omega
      have HF := Lib.hid hF; clear hF
      have HON := Lib.hid hon; clear hon hbad
      go_enter Tryz.func46, Tryz.ntmps46
      go_wp2_with (first | (go_at_call 51; refine (none_any HD.out).mono ?_; rintro e w' ⟨rfl, rfl⟩) | (go_at_call 64; refine (on_any HD.out).mono ?_; rintro e w1 ⟨he, hd1, hk1⟩; rw [HON.out] at he; subst he; have c4 := hd1.blk.cell 4; have c3 := hd1.blk.cell 3; simp at c4 c3; have f3 := hd1.blk.free 3; have f4 := hd1.blk.free 4; have HD1 := Lib.hid hd1; clear hd1; have HK1 := Lib.hid hk1; clear hk1))
      go_ret
      have own1 : w1.ownsRow base 5 1 (.slice vo D.bytes.length vc) D.bytes.length (bcells D.bytes) := by
        have := HD1.out.own; rwa [(onF_bytes D).1] at this
      have own2 := ownsRow_take own1 k hk
      refine ⟨by rw [HF.out]; rfl, ⟨.slice vo k vc, ⟨?_, ?_, HD.out.ge, ?_, ?_⟩, .inl (ownBlock_slice _ _ _ _ _)⟩, ?_⟩
      · rw [HF.out]
        simpa using (HD1.out.blk.set 4 (.slice vo k vc)).set 3 (.int .i64 k)
      · rw [HF.out]
        have := ownsRow_setCell (ownsRow_setCell own2 ⟨bd, 4, none⟩ (.slice vo k vc) (by rw [ownBlock_slice _ k vc D.bytes.length vc]; exact HD.out.ne)) ⟨bd, 3, none⟩ (.int .i64 k) (by rw [ownBlock_slice _ k vc D.bytes.length vc]; exact HD.out.ne)
        simpa [bcells_take, Nat.min_eq_left hk] using this
      · rw [ownBlock_slice _ k vc D.bytes.length vc]; exact HD.out.ne
      · rw [HF.out]
        obtain ⟨q1, q2, q3, q4, q5, q6⟩ := HD1.out.ok
        obtain ⟨r1, r2, r3⟩ := onF_bytes D
        exact ⟨q1, q2, q3, q4, by simp; omega, by simp; rw [r2]; omega⟩
      · exact ((HK1.out.mono (fun _ _ h => .inl h)).setCell _ _ (fun _ => .inl rfl)).setCell _ _ (fun _ => .inl rfl)
    · have hon' : (onF D).1 = false := by simpa using hon
      have hF : cutF D k = (10, (onF D).2) := by simp [cutF, hon']; omega
      have HF := Lib.hid hF; clear hF
      have HON := Lib.hid hon'; clear hon hon' hbad
      go_enter Tryz.func46, Tryz.ntmps46
      go_wp2_with (first | (go_at_call 51; refine (none_any HD.out).mono ?_; rintro e w' ⟨rfl, rfl⟩) | (go_at_call 64; refine (on_any HD.out).mono ?_; rintro e w1 ⟨he, hd1, hk1⟩; rw [HON.out] at he; subst he; have HD1 := Lib.hid hd1; clear hd1; have HK1 := Lib.hid hk1; clear hk1))
      go_ret
      exact ⟨by rw [HF.out]; rfl, ⟨_, by rw [HF.out]; exact HD1.out, .inl rfl⟩, HK1.out.mono (fun _ _ h => .inl h)⟩
set_option maxHeartbeats 800000 in
theorem fuse_any {base bd : Nat} {D : Dsk} {v : Value} {w : World} (k : Int) (hk : k ≤ 9223372036854775807) (h : DiskAt base w bd D v) :
    Calls Tryz.prog 18 #[.pointer (some ⟨bd, 0, none⟩), .int .i64 k] w (DiskPost base w bd (.tuple #[]) (fuseF D k) v) := by
  have c0 := h.blk.cell 0
  have c1 := h.blk.cell 1
  have f1 := h.blk.free 1
  simp at c0 c1
  have hoff : D.off = true ∨ D.off = false := by cases D.off <;> simp
  have HD := Lib.hid h; clear h
  rcases hoff with hoff | hoff
  · rw [hoff] at c0
    have HF := Lib.hid (show fuseF D k = D by simp [fuseF, hoff])
    clear hoff
    go_enter Tryz.func18, Tryz.ntmps18
    go_wp2_with (go_at_call 51; refine (none_any HD.out).mono ?_; rintro e w' ⟨rfl, rfl⟩)
    go_end0
    exact ⟨rfl, ⟨_, by rw [HF.out]; exact HD.out, .inl rfl⟩, Keep.refl _ _⟩
  · rw [hoff] at c0
    have HO := Lib.hid hoff; clear hoff
    by_cases hk0 : k < 0
    · have HF := Lib.hid (show fuseF D k = { D with left := -1 } by simp [fuseF, HO.out, hk0])
      go_enter Tryz.func18, Tryz.ntmps18
      go_wp2_with (go_at_call 51; refine (none_any HD.out).mono ?_; rintro e w' ⟨rfl, rfl⟩)
      all_goals
        go_end0
        refine ⟨rfl, ⟨v, ?_, .inl rfl⟩, (Keep.refl _ _).setCell _ _ (fun _ => .inl rfl)⟩
        rw [HF.out]
        refine ⟨?_, ownsRow_setCell HD.out.own _ _ HD.out.ne, HD.out.ge, HD.out.ne, ⟨by simp, by simp, HD.out.ok.size0, HD.out.ok.size1, HD.out.ok.safe, HD.out.ok.fits⟩⟩
        first | (simpa using HD.out.blk.set 1 (.int .i64 (-1))) | (obtain rfl : k = -1 := (by omega); simpa using HD.out.blk.set 1 (.int .i64 (-1)))
    · have hk1 : 0 ≤ k := by omega
      have HF := Lib.hid (show fuseF D k = { D with left := k } by simp [fuseF, HO.out, hk0])
      clear hk0
      go_enter Tryz.func18, Tryz.ntmps18
      go_wp2_with (go_at_call 51; refine (none_any HD.out).mono ?_; rintro e w' ⟨rfl, rfl⟩)
      go_end0
      refine ⟨rfl, ⟨v, ?_, .inl rfl⟩, (Keep.refl _ _).setCell _ _ (fun _ => .inl rfl)⟩
      rw [HF.out]
      refine ⟨?_, ownsRow_setCell HD.out.own _ _ HD.out.ne, HD.out.ge, HD.out.ne, ⟨by simp; omega, hk, HD.out.ok.size0, HD.out.ok.size1, HD.out.ok.safe, HD.out.ok.fits⟩⟩
      simpa using HD.out.blk.set 1 (.int .i64 k)
def ReadPost (w : World) (D : Dsk) (e : Ending) (w' : World) : Prop :=
  ∃ v', e = .returned (.tuple #[v', .int .i64 (if D.off then 10 else 0)]) ∧ w'.ownsRow w.heap.size 5 1 v' (if D.off then [] else D.bytes).length (bcells (if D.off then [] else D.bytes)) ∧ Keep (fun _ => False) w w'
set_option maxHeartbeats 800000 in
theorem read_any {base bd : Nat} {D : Dsk} {v : Value} {w : World} (h : DiskAt base w bd D v) :
    Calls Tryz.prog 29 #[.pointer (some ⟨bd, 0, none⟩)] w (ReadPost w D) := by
  have l4 := h.ok.size1
  have l5 := h.ok.fits
  have c0 := h.blk.cell 0
  have c4 := h.blk.cell 4
  simp at c0 c4
  have hsrc := (ownsRow_rd h.own (bcells_one _)).src (P := Tryz.prog) Tryz.underlying61
  obtain ⟨vo, vc, hve, hvn, hvm, hvz, _⟩ := ownsRow_shape h.own
  subst hve
  have HD := Lib.hid h; clear h hvz
  have HS := Lib.hid hsrc; clear hsrc
  have hoff : D.off = true ∨ D.off = false := by cases D.off <;> simp
  rcases hoff with hoff | hoff
  · rw [hoff] at c0
    have HO := Lib.hid hoff; clear hoff
    go_enter Tryz.func29, Tryz.ntmps29
    go_wp2_with (go_at_call 51; refine (none_any HD.out).mono ?_; rintro e w' ⟨rfl, rfl⟩)
    go_ret2
    exact ⟨_, by rw [HO.out]; rfl, by rw [HO.out]; exact World.ownsRow_nil _ _ _ _, Keep.refl _ _⟩
  · rw [hoff] at c0
    have HO := Lib.hid hoff; clear hoff
    go_enter Tryz.func29, Tryz.ntmps29
    go_wp2_with (first | (go_at_call 51; refine (none_any HD.out).mono ?_; rintro e w' ⟨rfl, rfl⟩) | (at_builtin; refine wpList_app rfl (.const (.slice none 0 0)) (.tmp 16) 61 61 rfl 5 (.int .u8 0) 1 1 Tryz.underlying61 info5 rfl (World.ownsRow_nil w w.heap.size 5 1) rfl HS.out rfl ?hb1 ?hb2 ?hb3 ?hgo))
    case hb1 => unfold maxLen; omega
    case hb2 => omega
    case hb3 => omega
    case hgo =>
    intro v' w1 happ
    have HA := Lib.hid happ; clear happ
    go_wp2
    go_ret2
    refine ⟨_, by rw [HO.out]; rfl, by rw [HO.out]; simpa using HA.out.own, HA.out.keep.mono (fun _ _ h => by cases h)⟩
end Go.Proofs.YthdkamnclbfehaaGreatDoor
/- The disk of the program, ended: Crash, NewDisk. -/
namespace Go.Proofs.YthdkamnclbfehaaGreatDoor
set_option linter.unusedSimpArgs false
set_option linter.unusedVariables false
set_option linter.unnecessarySimpa false
open Go.RowKit
end Go.Proofs.YthdkamnclbfehaaGreatDoor
/- The disk of the reference: what each method does to it; the same functions as for the program's disk. -/
namespace Go.Proofs.YthdkamnclbfehaaGreatDoor
set_option linter.unusedSimpArgs false
set_option linter.unusedVariables false
set_option linter.unnecessarySimpa false
open Go.RowKit
structure RDiskAt (base : Nat) (w : World) (bd : Nat) (D : Dsk) (v : Value) : Prop where
  blk : Blk w bd #[.int .i64 D.size, v, .int .i64 D.safe, .bool D.off, .int .i64 D.left] 98
  own : w.ownsRow base 5 1 v D.bytes.length (bcells D.bytes)
  ge : base ≤ bd
  ne : v.ownBlock ≠ some bd
  ok : D.ok
theorem RDiskAt.drewN {base bd : Nat} {D : Dsk} {v : Value} {w : World} (h : RDiskAt base w bd D v) (n : Nat) : RDiskAt base (w.drewN n) bd D v :=
  ⟨h.blk, h.own, h.ge, h.ne, h.ok⟩
theorem RDiskAt.keep {base bd : Nat} {D : Dsk} {v : Value} {w w' : World} {S : Nat → Prop} (h : RDiskAt base w bd D v) (k : Keep S w w') (h1 : ¬ S bd) (h2 : ∀ g, v.ownBlock = some g → ¬ S g) : RDiskAt base w' bd D v :=
  ⟨h.blk.keep k h1, ownsRow_keep h.own k h2, h.ge, h.ne, h.ok⟩
def ROnPost (base : Nat) (w : World) (bd : Nat) (D : Dsk) (v : Value) (e : Ending) (w' : World) : Prop :=
  e = .returned (.bool (onF D).1) ∧ RDiskAt base w' bd (onF D).2 v ∧ Keep (fun k => k = bd) w w'
set_option maxHeartbeats 400000 in
theorem done_any {base bd : Nat} {D : Dsk} {v : Value} {w : World} (h : RDiskAt base w bd D v) :
    Calls Tryz.prog 65 #[.pointer (some ⟨bd, 0, none⟩)] w (ROnPost base w bd D v) := by
  obtain ⟨off, left, size, safe, bytes⟩ := D
  have hok' := onF_ok h.ok
  obtain ⟨hb, ho, hge, hne, hok⟩ := h
  have h3 := hb.cell 3
  have h4 := hb.cell 4
  have f3 := hb.free 3
  have f4 := hb.free 4
  have l0 := hok.left0
  have l1 := hok.left1
  simp at h3 h4 l0 l1
  have HB := Lib.hid hb; clear hb
  have HO := Lib.hid ho; clear ho
  have HN := Lib.hid hne; clear hne
  have HK := Lib.hid hok'; clear hok'
  clear hok
  cases off
  · by_cases hl : left = 0
    · subst hl
      go_enter Tryz.func65, Tryz.ntmps65
      go_wp2
      go_ret
      exact ⟨rfl, ⟨by simpa [onF] using HB.out.set 3 (.bool true), ownsRow_setCell HO.out _ _ HN.out, hge, HN.out, HK.out⟩, (Keep.refl _ _).setCell _ _ (fun _ => rfl)⟩
    have hl' : (left == 0) = false := by simpa using hl
    by_cases hm : left < 0
    · obtain rfl : left = -1 := by omega
      clear hl hm hl'
      go_enter Tryz.func65, Tryz.ntmps65
      go_wp2
      go_ret
      exact ⟨rfl, ⟨by simpa [onF] using HB.out, HO.out, hge, HN.out, HK.out⟩, Keep.refl _ _⟩
    · have hF : onF ⟨false, left, size, safe, bytes⟩ = (true, ⟨false, left - 1, size, safe, bytes⟩) := by simp [onF, hl, hm]
      have HF := Lib.hid hF; clear hF
      have hm1 : 1 ≤ left := by omega
      have hm2 : decide (0 < left) = true := by simp; omega
      clear hl hm
      go_enter Tryz.func65, Tryz.ntmps65
      go_wp2
      go_ret
      refine ⟨by rw [HF.out]; rfl, ⟨?_, ?_, hge, HN.out, HK.out⟩, (Keep.refl _ _).setCell _ _ (fun _ => rfl)⟩
      · rw [HF.out]; simpa using HB.out.set 4 (.int .i64 (left - 1))
      · rw [HF.out]; exact ownsRow_setCell HO.out _ _ HN.out
  · have hF : onF ⟨true, left, size, safe, bytes⟩ = (false, ⟨true, left, size, safe, bytes⟩) := by simp [onF]
    have HF := Lib.hid hF; clear hF
    go_enter Tryz.func65, Tryz.ntmps65
    go_wp2
    go_ret
    refine ⟨by rw [HF.out]; rfl, ⟨?_, ?_, hge, HN.out, HK.out⟩, Keep.refl _ _⟩
    · rw [HF.out]; exact HB.out
    · rw [HF.out]; exact HO.out
def RDiskPost (base : Nat) (w : World) (bd : Nat) (r : Value) (D : Dsk) (v : Value) (e : Ending) (w' : World) : Prop :=
  e = .returned r ∧ (∃ v', RDiskAt base w' bd D v' ∧ (v'.ownBlock = v.ownBlock ∨ ∃ g, v'.ownBlock = some g ∧ w.heap.size ≤ g)) ∧
    Keep (fun k => k = bd ∨ v.ownBlock = some k) w w'
set_option maxHeartbeats 800000 in
theorem rsync_any {base bd : Nat} {D : Dsk} {v : Value} {w : World} (h : RDiskAt base w bd D v) :
    Calls Tryz.prog 49 #[.pointer (some ⟨bd, 0, none⟩)] w (RDiskPost base w bd (.int .i64 (syncF D).1) (syncF D).2 v) := by
  obtain ⟨vo, vc, hve, _⟩ := ownsRow_shape h.own
  subst hve
  have l4 := h.ok.size1
  have l5 := h.ok.fits
  have HD := Lib.hid h; clear h
  by_cases hon : (onF D).1 = true
  · have hF : syncF D = (0, { (onF D).2 with safe := D.bytes.length }) := by simp [syncF, hon]
    have HF := Lib.hid hF; clear hF
    have HON := Lib.hid hon; clear hon
    go_enter Tryz.func49, Tryz.ntmps49
    go_wp2_with (go_at_call 65; refine (done_any HD.out).mono ?_; rintro e w1 ⟨he, hd1, hk1⟩; rw [HON.out] at he; subst he; have c1 := hd1.blk.cell 1; have c2 := hd1.blk.cell 2; simp at c1 c2; have f2 := hd1.blk.free 2; have HD1 := Lib.hid hd1; clear hd1; have HK1 := Lib.hid hk1; clear hk1)
    go_ret
    refine ⟨by rw [HF.out]; rfl, ⟨_, ⟨?_, ?_, HD.out.ge, HD.out.ne, ?_⟩, .inl rfl⟩, ?_⟩
    · rw [HF.out]
      simpa using HD1.out.blk.set 2 (.int .i64 D.bytes.length)
    · rw [HF.out]
      exact ownsRow_setCell HD1.out.own _ _ HD1.out.ne
    · rw [HF.out]
      obtain ⟨q1, q2, q3, q4, q5, q6⟩ := HD1.out.ok
      obtain ⟨r1, r2, r3⟩ := onF_bytes D
      exact ⟨q1, q2, q3, q4, by simp [r1], q6⟩
    · exact (HK1.out.mono (fun _ _ h => .inl h)).setCell _ _ (fun _ => .inl rfl)
  · have hon' : (onF D).1 = false := by simpa using hon
    have hF : syncF D = (10, (onF D).2) := by simp [syncF, hon']
    have HF := Lib.hid hF; clear hF
    have HON := Lib.hid hon'; clear hon hon'
    go_enter Tryz.func49, Tryz.ntmps49
    go_wp2_with (go_at_call 65; refine (done_any HD.out).mono ?_; rintro e w1 ⟨he, hd1, hk1⟩; rw [HON.out] at he; subst he; have HD1 := Lib.hid hd1; clear hd1; have HK1 := Lib.hid hk1; clear hk1)
    go_ret
    exact ⟨by rw [HF.out]; rfl, ⟨_, by rw [HF.out]; exact HD1.out, .inl rfl⟩, HK1.out.mono (fun _ _ h => .inl h)⟩
set_option maxHeartbeats 800000 in
theorem rcut_any {base bd : Nat} {D : Dsk} {v : Value} {w : World} (n : Int) (h : RDiskAt base w bd D v) :
    Calls Tryz.prog 47 #[.pointer (some ⟨bd, 0, none⟩), .int .i64 n] w (RDiskPost base w bd (.int .i64 (cutF D n).1) (cutF D n).2 v) := by
  obtain ⟨vo, vc, hve, hvn, hvm, hvz, _⟩ := ownsRow_shape h.own
  subst hve
  have l4 := h.ok.size1
  have l5 := h.ok.fits
  have c1 := h.blk.cell 1
  simp at c1
  have HD := Lib.hid h; clear h
  have HZ := Lib.hid hvz; clear hvz
  by_cases hbad : n < 0 ∨ (D.bytes.length : Int) < n
  · have hF : cutF D n = (2, D) := by simp only [cutF, hbad, if_true]
    have HF := Lib.hid hF; clear hF
    rcases hbad with hbad | hbad
    · go_enter Tryz.func47, Tryz.ntmps47
      go_wp2
      go_ret
      exact ⟨by rw [HF.out]; rfl, ⟨_, by rw [HF.out]; exact HD.out, .inl rfl⟩, Keep.refl _ _⟩
    · have hp : decide (n < 0) = false := by simp; omega
      go_enter Tryz.func47, Tryz.ntmps47
      go_wp2
      go_ret
      exact ⟨by rw [HF.out]; rfl, ⟨_, by rw [HF.out]; exact HD.out, .inl rfl⟩, Keep.refl _ _⟩
  · have hb0 : 0 ≤ n := by omega
    have hb1 : n ≤ D.bytes.length := by omega
    obtain ⟨k, rfl⟩ := Int.eq_ofNat_of_zero_le hb0
    have hk : k ≤ D.bytes.length := by omega
    have hkc : (k : Int) ≤ vc := by omega
    have hp : decide ((k : Int) < 0) = false := by simp
    by_cases hon : (onF D).1 = true
    · have hF : cutF D k = (0, { (onF D).2 with bytes := D.bytes.take k, safe := k }) := by simp [cutF, hon]; omega
      have HF := Lib.hid hF; clear hF
      have HON := Lib.hid hon; clear hon hbad
      go_enter Tryz.func47, Tryz.ntmps47
      go_wp2_with (go_at_call 65; refine (done_any HD.out).mono ?_; rintro e w1 ⟨he, hd1, hk1⟩; rw [HON.out] at he; subst he; have c1 := hd1.blk.cell 1; have c2 := hd1.blk.cell 2; simp at c1 c2; have f1 := hd1.blk.free 1; have f2 := hd1.blk.free 2; have HD1 := Lib.hid hd1; clear hd1; have HK1 := Lib.hid hk1; clear hk1)
      go_ret
      have own1 : w1.ownsRow base 5 1 (.slice vo D.bytes.length vc) D.bytes.length (bcells D.bytes) := by
        have := HD1.out.own; rwa [(onF_bytes D).1] at this
      have own2 := ownsRow_take own1 k hk
      have hne : (Value.slice vo k vc).ownBlock ≠ some bd := by rw [ownBlock_slice _ k vc D.bytes.length vc]; exact HD.out.ne
      refine ⟨by rw [HF.out]; rfl, ⟨.slice vo k vc, ⟨?_, ?_, HD.out.ge, hne, ?_⟩, .inl (ownBlock_slice _ _ _ _ _)⟩, ?_⟩
      · rw [HF.out]
        simpa using (HD1.out.blk.set 1 (.slice vo k vc)).set 2 (.int .i64 k)
      · rw [HF.out]
        have := ownsRow_setCell (ownsRow_setCell own2 ⟨bd, 1, none⟩ (.slice vo k vc) hne) ⟨bd, 2, none⟩ (.int .i64 k) hne
        simpa [bcells_take, Nat.min_eq_left hk] using this
      · rw [HF.out]
        obtain ⟨q1, q2, q3, q4, q5, q6⟩ := HD1.out.ok
        obtain ⟨r1, r2, r3⟩ := onF_bytes D
        exact ⟨q1, q2, q3, q4, by simp; omega, by simp; rw [r2]; omega⟩
      · exact ((HK1.out.mono (fun _ _ h => .inl h)).setCell _ _ (fun _ => .inl rfl)).setCell _ _ (fun _ => .inl rfl)
    · have hon' : (onF D).1 = false := by simpa using hon
      have hF : cutF D k = (10, (onF D).2) := by simp [cutF, hon']; omega
      have HF := Lib.hid hF; clear hF
      have HON := Lib.hid hon'; clear hon hon' hbad
      go_enter Tryz.func47, Tryz.ntmps47
      go_wp2_with (go_at_call 65; refine (done_any HD.out).mono ?_; rintro e w1 ⟨he, hd1, hk1⟩; rw [HON.out] at he; subst he; have HD1 := Lib.hid hd1; clear hd1; have HK1 := Lib.hid hk1; clear hk1)
      go_ret
      exact ⟨by rw [HF.out]; rfl, ⟨_, by rw [HF.out]; exact HD1.out, .inl rfl⟩, HK1.out.mono (fun _ _ h => .inl h)⟩
set_option maxHeartbeats 800000 in
theorem rfuse_any {base bd : Nat} {D : Dsk} {v : Value} {w : World} (k : Int) (hk : k ≤ 9223372036854775807) (h : RDiskAt base w bd D v) :
    Calls Tryz.prog 33 #[.pointer (some ⟨bd, 0, none⟩), .int .i64 k] w (RDiskPost base w bd (.tuple #[]) (fuseF D k) v) := by
  have c3 := h.blk.cell 3
  have c4 := h.blk.cell 4
  have f4 := h.blk.free 4
  simp at c3 c4
  have hoff : D.off = true ∨ D.off = false := by cases D.off <;> simp
  have HD := Lib.hid h; clear h
  rcases hoff with hoff | hoff
  · rw [hoff] at c3
    have HF := Lib.hid (show fuseF D k = D by simp [fuseF, hoff])
    clear hoff
    go_enter Tryz.func33, Tryz.ntmps33
    go_wp2
    go_end0
    exact ⟨rfl, ⟨_, by rw [HF.out]; exact HD.out, .inl rfl⟩, Keep.refl _ _⟩
  · rw [hoff] at c3
    have HO := Lib.hid hoff; clear hoff
    by_cases hk0 : k < 0
    · have HF := Lib.hid (show fuseF D k = { D with left := -1 } by simp [fuseF, HO.out, hk0])
      go_enter Tryz.func33, Tryz.ntmps33
      go_wp2
      all_goals
        go_end0
        refine ⟨rfl, ⟨v, ?_, .inl rfl⟩, (Keep.refl _ _).setCell _ _ (fun _ => .inl rfl)⟩
        rw [HF.out]
        refine ⟨?_, ownsRow_setCell HD.out.own _ _ HD.out.ne, HD.out.ge, HD.out.ne, ⟨by simp, by simp, HD.out.ok.size0, HD.out.ok.size1, HD.out.ok.safe, HD.out.ok.fits⟩⟩
        first | (simpa using HD.out.blk.set 4 (.int .i64 (-1))) | (obtain rfl : k = -1 := (by omega); simpa using HD.out.blk.set 4 (.int .i64 (-1)))
    · have hk1 : 0 ≤ k := by omega
      have HF := Lib.hid (show fuseF D k = { D with left := k } by simp [fuseF, HO.out, hk0])
      clear hk0
      go_enter Tryz.func33, Tryz.ntmps33
      go_wp2
      go_end0
      refine ⟨rfl, ⟨v, ?_, .inl rfl⟩, (Keep.refl _ _).setCell _ _ (fun _ => .inl rfl)⟩
      rw [HF.out]
      refine ⟨?_, ownsRow_setCell HD.out.own _ _ HD.out.ne, HD.out.ge, HD.out.ne, ⟨by simp; omega, hk, HD.out.ok.size0, HD.out.ok.size1, HD.out.ok.safe, HD.out.ok.fits⟩⟩
      simpa using HD.out.blk.set 4 (.int .i64 k)
end Go.Proofs.YthdkamnclbfehaaGreatDoor
/- The disk of the reference, ended: Append, Crash; and the two makers, NewDisk. -/
namespace Go.Proofs.YthdkamnclbfehaaGreatDoor
set_option linter.unusedSimpArgs false
set_option linter.unusedVariables false
set_option linter.unnecessarySimpa false
open Go.RowKit
set_option maxHeartbeats 800000 in
theorem rappend_any {base bd : Nat} {D : Dsk} {v x : Value} {w : World} {l : List UInt8} (h : RDiskAt base w bd D v) (hx : Rd w 1 x l.length (bcells l)) (hxd : x.ownBlock ≠ some bd) (hxl : ∀ g, x.ownBlock = some g → g < w.heap.size) (hll : l.length ≤ 140737488355328) (hbase : base ≤ w.heap.size) :
    Calls Tryz.prog 32 #[.pointer (some ⟨bd, 0, none⟩), x] w (RDiskPost base w bd (.int .i64 (appendF D l).1) (appendF D l).2 v) := by
  have hd := h
  have l4 := h.ok.size1
  have l5 := h.ok.fits
  have hb := h.blk
  have h0 := hb.cell 0
  have h1 := hb.cell 1
  simp at h0 h1
  obtain ⟨xo, xc, hxe, hxn, hxm, _⟩ := hx.shape
  subst hxe
  obtain ⟨vo, vc, hve, _⟩ := ownsRow_shape h.own
  subst hve
  unfold maxLen at hxm
  have HD := Lib.hid hd; clear hd
  have HX := Lib.hid hx; clear hx
  have HXD := Lib.hid hxd; clear hxd
  have HXL := Lib.hid hxl; clear hxl
  clear h hb
  have e1 : IntKind.i64.wrap ((D.bytes.length : Int) + l.length) = (D.bytes.length : Int) + l.length := IntWalk.i64_in _ (by omega)
  by_cases hfull : D.size < D.bytes.length + l.length
  · have hF : appendF D l = (9, D) := by simp [appendF, hfull]
    have HF := Lib.hid hF; clear hF
    have hfi : (D.size : Int) < D.bytes.length + l.length := by omega
    go_enter Tryz.func32, Tryz.ntmps32
    go_wp2
    go_quiet (fail)
    go_wp2
    go_ret
    exact ⟨by rw [HF.out]; rfl, ⟨_, by rw [HF.out]; exact HD.out.drewN _, .inl rfl⟩, (Keep.refl _ _).drewN _⟩
  · have hroom : (D.bytes.length : Int) + l.length ≤ D.size := by omega
    by_cases hon : (onF D).1 = true
    · have hF : appendF D l = (0, { (onF D).2 with bytes := D.bytes ++ l }) := by simp [appendF, hfull, hon]
      have HF := Lib.hid hF; clear hF
      have HON := Lib.hid hon; clear hon hfull
      have HE := Lib.hid e1
      go_enter Tryz.func32, Tryz.ntmps32
      go_wp2
      go_quiet (fail)
      clear e1
      go_wp2_with (first | (go_at_call 65; refine (done_any (HD.out.drewN _)).mono ?_; rintro e w1 ⟨he, hd1, hk1⟩; rw [HON.out] at he; subst he; have c1 := hd1.blk.cell 1; simp at c1; have hbd := hd1.blk.lt; have HD1 := Lib.hid hd1; clear hd1; have hw1 : w.heap.size ≤ w1.heap.size := hk1.size; have HK1 := Lib.hid hk1; clear hk1; have HOWN := Lib.hid (show w1.ownsRow base 5 1 (.slice vo D.bytes.length vc) D.bytes.length (bcells D.bytes) by have := HD1.out.own; rwa [(onF_bytes D).1] at this); have HX1 := Lib.hid (HX.out.keep (S := fun k => k = bd) (((Keep.refl _ w).drewN nq).trans HK1.out (fun _ _ h => h)) (fun b hb e => HXD.out (by rw [hb, e]))); have HSRC := Lib.hid (((ownsRow_rd HOWN.out (bcells_one _)).keep ((Keep.refl (fun _ => False) w1).alloc (.cells #[] 5)) (fun _ _ h => h)).src (P := Tryz.prog) Tryz.underlying61); have HNEW := Lib.hid (World.ownsRow_made (base := w1.heap.size) (e := 5) (size := 1) w1 #[] 0 (Nat.le_refl _) (by unfold maxLen; omega) rfl)) | (at_builtin; refine wpList_app (w := w1.alloc (.cells #[] 5)) rfl (.tmp 22) (.tmp 26) 61 61 rfl 5 (.int .u8 0) 1 1 Tryz.underlying61 info5 rfl HNEW.out rfl HSRC.out rfl ?hb1 ?hb2 ?hb3 ?hgo))
      case hb1 => unfold maxLen; omega
      case hb2 => omega
      case hb3 => simp
      case hgo =>
      intro v1 w2 happ
      have k12 : Keep (fun _ => False) w1 w2 := ((Keep.refl (fun _ => False) w1).alloc (.cells #[] 5)).trans happ.keep (fun k hk e => by have e' : w1.heap.size = k := Option.some.inj e; omega)
      have hw2 : w1.heap.size ≤ w2.heap.size := k12.size
      have HX2 := Lib.hid ((HX1.out.keep k12 (fun _ _ h => h)).src (P := Tryz.prog) Tryz.underlying61)
      have HA := Lib.hid happ; clear happ
      have HK2 := Lib.hid k12; clear k12
      go_wp2_with (at_builtin; refine wpList_app (w := w2) rfl (.tmp 27) (.tmp 28) 61 61 rfl 5 (.int .u8 0) 1 1 Tryz.underlying61 info5 rfl HA.out.own rfl HX2.out rfl ?hb1 ?hb2 ?hb3 ?hgo)
      case hb1 => unfold maxLen; omega
      case hb2 => omega
      case hb3 => omega
      case hgo =>
      intro v2 w3 happ
      have hlt : ∀ g, v2.ownBlock = some g → w1.heap.size ≤ g := by
        intro g hg
        exact (happ.own.lt g hg).1
      have k13 : Keep (fun _ => False) w1 w3 := HK2.out.trans happ.keep (fun k hk e => by have := (HA.out.own.lt k e).1; omega)
      obtain ⟨ao, cap, hv', _⟩ := ownsRow_shape happ.own
      have c1' := (k13.cell (p := ⟨bd, 1, none⟩) hbd (fun h => h)).trans c1
      have f1' := (k13.frozen (p := ⟨bd, 1, none⟩) hbd (fun h => h)).trans (HD1.out.blk.free 1)
      subst hv'
      have HB := Lib.hid happ; clear happ
      have HK3 := Lib.hid k13; clear k13
      have HLT := Lib.hid hlt; clear hlt
      go_wp2
      go_ret
      have hne' : (Value.slice ao (D.bytes.length + l.length) cap).ownBlock ≠ some bd := by
        intro e; have := HLT.out _ e; omega
      refine ⟨by rw [HF.out]; rfl, ⟨_, ⟨?_, ?_, HD.out.ge, hne', ?_⟩, ?_⟩, ?_⟩
      · rw [HF.out]
        have := (HD1.out.blk.keep HK3.out (fun h => h)).set 1 (.slice ao (D.bytes.length + l.length) cap)
        simpa using this
      · rw [HF.out]
        have := ownsRow_setCell HB.out.own ⟨bd, 1, none⟩ (.slice ao (D.bytes.length + l.length) cap) hne'
        obtain ⟨h1, h2⟩ := this
        refine ⟨by simp [bcells_length], ?_⟩
        rcases h2 with ⟨h2, h3⟩ | ⟨g, c, cur, h2, h3, h4⟩
        · exact .inl ⟨by simpa using h2, by simpa using h3⟩
        · refine .inr ⟨g, c, cur, by simpa using h2, by omega, ?_⟩
          simpa [bcells_append] using h4
      · rw [HF.out]
        obtain ⟨q1, q2, q3, q4, q5, q6⟩ := HD1.out.ok
        obtain ⟨r1, r2, r3⟩ := onF_bytes D
        refine ⟨q1, q2, q3, q4, ?_, ?_⟩
        · rw [r1] at q5; simp; omega
        · simp; rw [r2]; omega
      · cases hob : (Value.slice ao (D.bytes.length + l.length) cap).ownBlock with
        | none =>
          exfalso
          rcases HB.out.fresh with h | ⟨g, h, _⟩
          · rw [hob] at h
            rcases HA.out.fresh with h' | ⟨g, h', _⟩
            · rw [h'] at h; cases h
            · rw [h'] at h; cases h
          · rw [hob] at h; cases h
        | some g => exact .inr ⟨g, rfl, by have := HLT.out g hob; omega⟩
      · refine Keep.setCell ?_ _ _ (fun _ => .inl rfl)
        exact (((Keep.refl _ w).drewN nq).trans HK1.out (fun _ _ h => .inl h)).trans HK3.out (fun _ _ h => h.elim)
    · have hon' : (onF D).1 = false := by simpa using hon
      have hF : appendF D l = (10, (onF D).2) := by simp [appendF, hfull, hon']
      have HF := Lib.hid hF; clear hF
      have HON := Lib.hid hon'; clear hon hon' hfull
      go_enter Tryz.func32, Tryz.ntmps32
      go_wp2
      go_quiet (fail)
      clear e1
      go_wp2_with (go_at_call 65; refine (done_any (HD.out.drewN _)).mono ?_; rintro e w1 ⟨he, hd1, hk1⟩; rw [HON.out] at he; subst he; have HD1 := Lib.hid hd1; clear hd1; have HK1 := Lib.hid hk1; clear hk1)
      go_ret
      exact ⟨by rw [HF.out]; rfl, ⟨_, by rw [HF.out]; exact HD1.out, .inl rfl⟩, ((Keep.refl _ w).drewN nq).trans HK1.out (fun _ _ h => .inl h)⟩
def newD (n : Nat) : Dsk := ⟨false, -1, n, 0, []⟩
def NewPost (base : Nat) (w : World) (n : Int) (e : Ending) (w' : World) : Prop :=
  (e = .returned (.tuple #[if n < 1 ∨ 1000000 < n then .pointer none else .pointer (some ⟨w.heap.size, 0, none⟩), .int .i64 (if n < 1 ∨ 1000000 < n then 2 else 0)])) ∧ Keep (fun _ => False) w w' ∧
  (1 ≤ n → n ≤ 1000000 → w.heap.size < w'.heap.size ∧ DiskAt base w' w.heap.size (newD n.toNat) (.slice none 0 0))
def RNewPost (base : Nat) (w : World) (n : Int) (e : Ending) (w' : World) : Prop :=
  (e = .returned (.tuple #[if n < 1 ∨ 1000000 < n then .pointer none else .pointer (some ⟨w.heap.size, 0, none⟩), .int .i64 (if n < 1 ∨ 1000000 < n then 2 else 0)])) ∧ Keep (fun _ => False) w w' ∧
  (1 ≤ n → n ≤ 1000000 → w.heap.size < w'.heap.size ∧ RDiskAt base w' w.heap.size (newD n.toNat) (.slice none 0 0))
theorem newD_ok {n : Nat} (h0 : 1 ≤ n) (h1 : n ≤ 1000000) : (newD n).ok := ⟨by simp [newD], by simp [newD], h0, h1, by simp [newD], by simp [newD]⟩
theorem newDisk_any {base : Nat} {w : World} (n : Int) (hb : base ≤ w.heap.size) : Calls Tryz.prog 42 #[.int .i64 n] w (NewPost base w n) := by
  by_cases h1 : n < 1
  · have HN := Lib.hid h1
    go_enter Tryz.func42, Tryz.ntmps42
    go_wp2
    go_ret2
    exact ⟨by simp only [if_pos (show n < 1 ∨ 1000000 < n from .inl HN.out)]; rfl, Keep.refl _ _, fun h => by omega⟩
  have h1' : decide (n < 1) = false := by simp; omega
  by_cases h2 : 1000000 < n
  · go_enter Tryz.func42, Tryz.ntmps42
    go_wp2
    go_ret2
    exact ⟨by simp only [if_pos (show n < 1 ∨ 1000000 < n from .inr h2)]; rfl, Keep.refl _ _, fun _ h => by omega⟩
  · obtain ⟨m, rfl⟩ := Int.eq_ofNat_of_zero_le (show 0 ≤ n by omega)
    go_enter Tryz.func42, Tryz.ntmps42
    go_wp2
    go_ret2
    refine ⟨by simp only [if_neg (show ¬ ((m : Int) < 1 ∨ 1000000 < (m : Int)) by omega)]; rfl, (Keep.refl _ _).alloc _, fun _ _ => ⟨by simp, Blk.new _ _ _, World.ownsRow_nil _ _ _ _, hb, by simp [Value.ownBlock], newD_ok (by omega) (by omega)⟩⟩
theorem rnewDisk_any {base : Nat} {w : World} (n : Int) (hb : base ≤ w.heap.size) : Calls Tryz.prog 43 #[.int .i64 n] w (RNewPost base w n) := by
  by_cases h1 : n < 1
  · have HN := Lib.hid h1
    go_enter Tryz.func43, Tryz.ntmps43
    go_wp2
    go_ret2
    exact ⟨by simp only [if_pos (show n < 1 ∨ 1000000 < n from .inl HN.out)]; rfl, Keep.refl _ _, fun h => by omega⟩
  have h1' : decide (n < 1) = false := by simp; omega
  by_cases h2 : 1000000 < n
  · go_enter Tryz.func43, Tryz.ntmps43
    go_wp2
    go_ret2
    exact ⟨by simp only [if_pos (show n < 1 ∨ 1000000 < n from .inr h2)]; rfl, Keep.refl _ _, fun _ h => by omega⟩
  · obtain ⟨m, rfl⟩ := Int.eq_ofNat_of_zero_le (show 0 ≤ n by omega)
    go_enter Tryz.func43, Tryz.ntmps43
    go_wp2
    go_ret2
    refine ⟨by simp only [if_neg (show ¬ ((m : Int) < 1 ∨ 1000000 < (m : Int)) by omega)]; rfl, (Keep.refl _ _).alloc _, fun _ _ => ⟨by simp, Blk.new _ _ _, World.ownsRow_nil _ _ _ _, hb, by simp [Value.ownBlock], newD_ok (by omega) (by omega)⟩⟩
end Go.Proofs.YthdkamnclbfehaaGreatDoor
