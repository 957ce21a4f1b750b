/- The disk of the program, continued: Sync, Cut, Read, Fuse, Crash, NewDisk. -/
import Derived.Test.YtkkjonkcjlnohaaGreatDoorSM5
import Derived.StillTailTactics

/- The disk of the program, continued: Sync, Cut, Read, Fuse, Crash, NewDisk. -/
namespace Go.Proofs.YtkkjonkcjlnohaaGreatDoor
set_option linter.unusedSimpArgs false
set_option linter.unusedVariables false
set_option linter.unnecessarySimpa false
open Go.RowKit

def DiskPost (base : Nat) (w : World) (bd : Nat) (r : Value) (D : Dsk) (v : Value) (e : Ending) (w' : World) : Prop :=
  e = .returned r ∧ (∃ v', DiskAt base w' bd D v' ∧ (v'.ownBlock = v.ownBlock ∨ ∃ g, v'.ownBlock = some g ∧ w.heap.size ≤ g)) ∧
    Keep (fun k => k = bd ∨ v.ownBlock = some k) w w'

set_option maxHeartbeats 800000 in
theorem sync_any {base bd : Nat} {D : Dsk} {v : Value} {w : World} (h : DiskAt base w bd D v) :
    Calls Tryz.prog 24 #[.pointer (some ⟨bd, 0, none⟩)] w (DiskPost base w bd (.int .i64 (syncF D).1) (syncF D).2 v) := by
  obtain ⟨vo, vc, hve, _⟩ := ownsRow_shape h.own
  subst hve
  have l4 := h.ok.size1
  have l5 := h.ok.fits
  have HD := Lib.hid h; clear h
  by_cases hon : (onF D).1 = true
  · have hF : syncF D = (0, { (onF D).2 with safe := D.bytes.length }) := by simp [syncF, hon]
    have HF := Lib.hid hF; clear hF
    have HON := Lib.hid hon; clear hon
    go_enter Tryz.func24, Tryz.ntmps24
    go_wp2_with (first | (go_at_call 34; refine (none_any HD.out).mono ?_; rintro e w' ⟨rfl, rfl⟩) | (go_at_call 42; refine (on_any HD.out).mono ?_; rintro e w1 ⟨he, hd1, hk1⟩; rw [HON.out] at he; subst he; have c4 := hd1.blk.cell 4; have c3 := hd1.blk.cell 3; simp at c4 c3; have f3 := hd1.blk.free 3; have HD1 := Lib.hid hd1; clear hd1; have HK1 := Lib.hid hk1; clear hk1))
    go_ret
    refine ⟨by rw [HF.out]; rfl, ⟨_, ⟨?_, ?_, HD.out.ge, HD.out.ne, ?_⟩, .inl rfl⟩, ?_⟩
    · rw [HF.out]
      simpa using HD1.out.blk.set 3 (.int .i64 D.bytes.length)
    · rw [HF.out]
      exact ownsRow_setCell HD1.out.own _ _ HD1.out.ne
    · rw [HF.out]
      obtain ⟨q1, q2, q3, q4, q5, q6⟩ := HD1.out.ok
      obtain ⟨r1, r2, r3⟩ := onF_bytes D
      exact ⟨q1, q2, q3, q4, by simp [r1], q6⟩
    · exact (HK1.out.mono (fun _ _ h => .inl h)).setCell _ _ (fun _ => .inl rfl)
  · have hon' : (onF D).1 = false := by simpa using hon
    have hF : syncF D = (10, (onF D).2) := by simp [syncF, hon']
    have HF := Lib.hid hF; clear hF
    have HON := Lib.hid hon'; clear hon hon'
    go_enter Tryz.func24, Tryz.ntmps24
    go_wp2_with (first | (go_at_call 34; refine (none_any HD.out).mono ?_; rintro e w' ⟨rfl, rfl⟩) | (go_at_call 42; refine (on_any HD.out).mono ?_; rintro e w1 ⟨he, hd1, hk1⟩; rw [HON.out] at he; subst he; have HD1 := Lib.hid hd1; clear hd1; have HK1 := Lib.hid hk1; clear hk1))
    go_ret
    exact ⟨by rw [HF.out]; rfl, ⟨_, by rw [HF.out]; exact HD1.out, .inl rfl⟩, HK1.out.mono (fun _ _ h => .inl h)⟩

set_option maxHeartbeats 800000 in
theorem cut_any {base bd : Nat} {D : Dsk} {v : Value} {w : World} (n : Int) (h : DiskAt base w bd D v) :
    Calls Tryz.prog 39 #[.pointer (some ⟨bd, 0, none⟩), .int .i64 n] w (DiskPost base w bd (.int .i64 (cutF D n).1) (cutF D n).2 v) := by
  obtain ⟨vo, vc, hve, hvn, hvm, hvz, _⟩ := ownsRow_shape h.own
  subst hve
  have l4 := h.ok.size1
  have l5 := h.ok.fits
  have c4 := h.blk.cell 4
  simp at c4
  have HD := Lib.hid h; clear h
  have HZ := Lib.hid hvz; clear hvz
  by_cases hbad : n < 0 ∨ (D.bytes.length : Int) < n
  · have hF : cutF D n = (2, D) := by simp only [cutF, hbad, if_true]
    have HF := Lib.hid hF; clear hF
    rcases hbad with hbad | hbad
    · go_enter Tryz.func39, Tryz.ntmps39
      go_wp2_with (go_at_call 34; refine (none_any HD.out).mono ?_; rintro e w' ⟨rfl, rfl⟩)
      go_ret
      exact ⟨by rw [HF.out]; rfl, ⟨_, by rw [HF.out]; exact HD.out, .inl rfl⟩, Keep.refl _ _⟩
    · have hp : decide (n < 0) = false := by simp; omega
      go_enter Tryz.func39, Tryz.ntmps39
      go_wp2_with (go_at_call 34; refine (none_any HD.out).mono ?_; rintro e w' ⟨rfl, rfl⟩)
      go_ret
      exact ⟨by rw [HF.out]; rfl, ⟨_, by rw [HF.out]; exact HD.out, .inl rfl⟩, Keep.refl _ _⟩
  · have hb0 : 0 ≤ n := by omega
    have hb1 : n ≤ D.bytes.length := by omega
    obtain ⟨k, rfl⟩ := Int.eq_ofNat_of_zero_le hb0
    have hk : k ≤ D.bytes.length := by omega
    have hkc : (k : Int) ≤ vc := by omega
    have hp : decide ((k : Int) < 0) = false := by simp
    by_cases hon : (onF D).1 = true
    · have hF : cutF D k = (0, { (onF D).2 with bytes := D.bytes.take k, safe := k }) := by simp [cutF, hon]; omega
      have HF := Lib.hid hF; clear hF
      have HON := Lib.hid hon; clear hon hbad
      go_enter Tryz.func39, Tryz.ntmps39
      go_wp2_with (first | (go_at_call 34; refine (none_any HD.out).mono ?_; rintro e w' ⟨rfl, rfl⟩) | (go_at_call 42; refine (on_any HD.out).mono ?_; rintro e w1 ⟨he, hd1, hk1⟩; rw [HON.out] at he; subst he; have c4 := hd1.blk.cell 4; have c3 := hd1.blk.cell 3; simp at c4 c3; have f3 := hd1.blk.free 3; have f4 := hd1.blk.free 4; have HD1 := Lib.hid hd1; clear hd1; have HK1 := Lib.hid hk1; clear hk1))
      go_ret
      have own1 : w1.ownsRow base 5 1 (.slice vo D.bytes.length vc) D.bytes.length (bcells D.bytes) := by
        have := HD1.out.own; rwa [(onF_bytes D).1] at this
      have own2 := ownsRow_take own1 k hk
      refine ⟨by rw [HF.out]; rfl, ⟨.slice vo k vc, ⟨?_, ?_, HD.out.ge, ?_, ?_⟩, .inl (ownBlock_slice _ _ _ _ _)⟩, ?_⟩
      · rw [HF.out]
        simpa using (HD1.out.blk.set 4 (.slice vo k vc)).set 3 (.int .i64 k)
      · rw [HF.out]
        have := ownsRow_setCell (ownsRow_setCell own2 ⟨bd, 4, none⟩ (.slice vo k vc) (by rw [ownBlock_slice _ k vc D.bytes.length vc]; exact HD.out.ne)) ⟨bd, 3, none⟩ (.int .i64 k) (by rw [ownBlock_slice _ k vc D.bytes.length vc]; exact HD.out.ne)
        simpa [bcells_take, Nat.min_eq_left hk] using this
      · rw [ownBlock_slice _ k vc D.bytes.length vc]; exact HD.out.ne
      · rw [HF.out]
        obtain ⟨q1, q2, q3, q4, q5, q6⟩ := HD1.out.ok
        obtain ⟨r1, r2, r3⟩ := onF_bytes D
        exact ⟨q1, q2, q3, q4, by simp; omega, by simp; rw [r2]; omega⟩
      · exact ((HK1.out.mono (fun _ _ h => .inl h)).setCell _ _ (fun _ => .inl rfl)).setCell _ _ (fun _ => .inl rfl)
    · have hon' : (onF D).1 = false := by simpa using hon
      have hF : cutF D k = (10, (onF D).2) := by simp [cutF, hon']; omega
      have HF := Lib.hid hF; clear hF
      have HON := Lib.hid hon'; clear hon hon' hbad
      go_enter Tryz.func39, Tryz.ntmps39
      go_wp2_with (first | (go_at_call 34; refine (none_any HD.out).mono ?_; rintro e w' ⟨rfl, rfl⟩) | (go_at_call 42; refine (on_any HD.out).mono ?_; rintro e w1 ⟨he, hd1, hk1⟩; rw [HON.out] at he; subst he; have HD1 := Lib.hid hd1; clear hd1; have HK1 := Lib.hid hk1; clear hk1))
      go_ret
      exact ⟨by rw [HF.out]; rfl, ⟨_, by rw [HF.out]; exact HD1.out, .inl rfl⟩, HK1.out.mono (fun _ _ h => .inl h)⟩

def ReadPost (w : World) (D : Dsk) (e : Ending) (w' : World) : Prop :=
  ∃ v', e = .returned (.tuple #[v', .int .i64 (if D.off then 10 else 0)]) ∧ w'.ownsRow w.heap.size 5 1 v' (if D.off then [] else D.bytes).length (bcells (if D.off then [] else D.bytes)) ∧ Keep (fun _ => False) w w'

set_option maxHeartbeats 800000 in
theorem read_any {base bd : Nat} {D : Dsk} {v : Value} {w : World} (h : DiskAt base w bd D v) :
    Calls Tryz.prog 36 #[.pointer (some ⟨bd, 0, none⟩)] w (ReadPost w D) := by
  have l4 := h.ok.size1
  have l5 := h.ok.fits
  have c0 := h.blk.cell 0
  have c4 := h.blk.cell 4
  simp at c0 c4
  have hsrc := (ownsRow_rd h.own (bcells_one _)).src (P := Tryz.prog) Tryz.underlying65
  obtain ⟨vo, vc, hve, hvn, hvm, hvz, _⟩ := ownsRow_shape h.own
  subst hve
  have HD := Lib.hid h; clear h hvz
  have HS := Lib.hid hsrc; clear hsrc
  have hoff : D.off = true ∨ D.off = false := by cases D.off <;> simp
  rcases hoff with hoff | hoff
  · rw [hoff] at c0
    have HO := Lib.hid hoff
    clear hoff
    go_enter Tryz.func36, Tryz.ntmps36
    go_wp2_with (go_at_call 34; refine (none_any HD.out).mono ?_; rintro e w' ⟨rfl, rfl⟩)
    go_ret2
    exact ⟨_, by rw [HO.out]; rfl, by rw [HO.out]; exact World.ownsRow_nil _ _ _ _, Keep.refl _ _⟩
  · rw [hoff] at c0
    have HO := Lib.hid hoff
    clear hoff
    go_enter Tryz.func36, Tryz.ntmps36
    go_wp2_with (first | (go_at_call 34; refine (none_any HD.out).mono ?_; rintro e w' ⟨rfl, rfl⟩) | (at_builtin; refine wpList_app rfl (.const (.slice none 0 0)) (.tmp 16) 65 65 rfl 5 (.int .u8 0) 1 1 Tryz.underlying65 info5 rfl (World.ownsRow_nil w w.heap.size 5 1) rfl HS.out rfl ?hb1 ?hb2 ?hb3 ?hgo))
    case hb1 => unfold maxLen; omega
    case hb2 => omega
    case hb3 => omega
    case hgo =>
    intro v' w1 happ
    have HA := Lib.hid happ; clear happ
    go_wp2
    go_ret2
    refine ⟨_, by rw [HO.out]; rfl, by rw [HO.out]; simpa using HA.out.own, HA.out.keep.mono (fun _ _ h => by cases h)⟩
end Go.Proofs.YtkkjonkcjlnohaaGreatDoor

/- The disk of the program, ended: Crash, NewDisk. -/
namespace Go.Proofs.YtkkjonkcjlnohaaGreatDoor
set_option linter.unusedSimpArgs false
set_option linter.unusedVariables false
set_option linter.unnecessarySimpa false
open Go.RowKit

end Go.Proofs.YtkkjonkcjlnohaaGreatDoor

/- The disk of the reference, ended: Append, Crash; and the two makers, NewDisk. -/
namespace Go.Proofs.YtkkjonkcjlnohaaGreatDoor
set_option linter.unusedSimpArgs false
set_option linter.unusedVariables false
set_option linter.unnecessarySimpa false
open Go.RowKit

def newD (n : Nat) : Dsk := ⟨false, -1, n, 0, []⟩
def NewPost (base : Nat) (w : World) (n : Int) (e : Ending) (w' : World) : Prop :=
  (e = .returned (.tuple #[if n < 1 ∨ 1000000 < n then .pointer none else .pointer (some ⟨w.heap.size, 0, none⟩), .int .i64 (if n < 1 ∨ 1000000 < n then 2 else 0)])) ∧ Keep (fun _ => False) w w' ∧
  (1 ≤ n → n ≤ 1000000 → w.heap.size < w'.heap.size ∧ DiskAt base w' w.heap.size (newD n.toNat) (.slice none 0 0))
theorem newD_ok {n : Nat} (h0 : 1 ≤ n) (h1 : n ≤ 1000000) : (newD n).ok := ⟨by simp [newD], by simp [newD], h0, h1, by simp [newD], by simp [newD]⟩

theorem newDisk_any {base : Nat} {w : World} (n : Int) (hb : base ≤ w.heap.size) : Calls Tryz.prog 18 #[.int .i64 n] w (NewPost base w n) := by
  by_cases h1 : n < 1
  · have HN := Lib.hid h1
    go_enter Tryz.func18, Tryz.ntmps18
    go_wp2
    go_ret2
    exact ⟨by simp only [if_pos (show n < 1 ∨ 1000000 < n from .inl HN.out)]; rfl, Keep.refl _ _, fun h => by omega⟩
  have h1' : decide (n < 1) = false := by simp; omega
  by_cases h2 : 1000000 < n
  · go_enter Tryz.func18, Tryz.ntmps18
    go_wp2
    go_ret2
    exact ⟨by simp only [if_pos (show n < 1 ∨ 1000000 < n from .inr h2)]; rfl, Keep.refl _ _, fun _ h => by omega⟩
  · obtain ⟨m, rfl⟩ := Int.eq_ofNat_of_zero_le (show 0 ≤ n by omega)
    go_enter Tryz.func18, Tryz.ntmps18
    go_wp2
    go_ret2
    refine ⟨by simp only [if_neg (show ¬ ((m : Int) < 1 ∨ 1000000 < (m : Int)) by omega)]; rfl, (Keep.refl _ _).alloc _, fun _ _ => ⟨by simp, Blk.new _ _ _, World.ownsRow_nil _ _ _ _, hb, by simp [Value.ownBlock], newD_ok (by omega) (by omega)⟩⟩
end Go.Proofs.YtkkjonkcjlnohaaGreatDoor
