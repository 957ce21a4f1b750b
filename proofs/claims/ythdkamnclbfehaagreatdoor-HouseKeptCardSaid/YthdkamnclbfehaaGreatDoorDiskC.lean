/- The disk of the program, ended: Crash, NewDisk. -/
import Derived.Test.YthdkamnclbfehaaGreatDoorDiskB
namespace Go.Proofs.YthdkamnclbfehaaGreatDoor
set_option linter.unusedSimpArgs false
set_option linter.unusedVariables false
set_option linter.unnecessarySimpa false
open Go.RowKit

set_option maxHeartbeats 800000 in
set_option maxRecDepth 100000 in
theorem crash_any {base bd : Nat} {D : Dsk} {v : Value} {w : World} (k : Int) (hk : k ≤ 9223372036854775807) (h : DiskAt base w bd D v) :
    Calls Tryz.prog 23 #[.pointer (some ⟨bd, 0, none⟩), .int .i64 k] w (DiskPost base w bd (.tuple #[]) (crashF D k) v) := by
  have l4 := h.ok.size1
  have l5 := h.ok.fits
  have l6 := h.ok.safe
  have c0 := h.blk.cell 0
  have c1 := h.blk.cell 1
  have c3 := h.blk.cell 3
  have c4 := h.blk.cell 4
  have f0 := h.blk.free 0
  have f1 := h.blk.free 1
  have f3 := h.blk.free 3
  have f4 := h.blk.free 4
  simp at c0 c1 c3 c4
  obtain ⟨vo, vc, hve, hvn, hvm, hvz, _⟩ := ownsRow_shape h.own
  subst hve
  have HD := Lib.hid h; clear h
  have HZ := Lib.hid hvz; clear hvz
  have hn : crashN D k ≤ D.bytes.length := by unfold crashN; split; · omega
                                              split <;> omega
  have fin : ∀ (n : Nat) (wq : World) (nq : Nat), crashN D k = n → wq = ((((w.drewN nq).setCell ⟨bd, 4, none⟩ (.slice vo n vc)).setCell ⟨bd, 3, none⟩ (.int .i64 n)).setCell ⟨bd, 0, none⟩ (.bool false)).setCell ⟨bd, 1, none⟩ (.int .i64 (-1)) →
      DiskPost base w bd (.tuple #[]) (crashF D k) (.slice vo D.bytes.length vc) (.returned (.tuple #[])) wq := by
    intro n wq nq hc hw
    subst hw
    subst hc
    have hne : (Value.slice vo (crashN D k) vc).ownBlock ≠ some bd := by rw [ownBlock_slice _ _ vc D.bytes.length vc]; exact HD.out.ne
    have own2 := ownsRow_take (HD.out.drewN nq).own (crashN D k) hn
    refine ⟨rfl, ⟨.slice vo (crashN D k) vc, ⟨?_, ?_, HD.out.ge, hne, ?_⟩, .inl (ownBlock_slice _ _ _ _ _)⟩, ?_⟩
    · simpa [crashF] using ((((HD.out.drewN nq).blk.set 4 (.slice vo (crashN D k) vc)).set 3 (.int .i64 (crashN D k))).set 0 (.bool false)).set 1 (.int .i64 (-1))
    · have := ownsRow_setCell (ownsRow_setCell (ownsRow_setCell (ownsRow_setCell own2 ⟨bd, 4, none⟩ (.slice vo (crashN D k) vc) hne) ⟨bd, 3, none⟩ (.int .i64 (crashN D k)) hne) ⟨bd, 0, none⟩ (.bool false) hne) ⟨bd, 1, none⟩ (.int .i64 (-1)) hne
      simpa [crashF, bcells_take, Nat.min_eq_left hn] using this
    · obtain ⟨q1, q2, q3, q4, q5, q6⟩ := HD.out.ok
      exact ⟨by simp [crashF], by simp [crashF], q3, q4, by simp [crashF]; omega, by simp [crashF]; omega⟩
    · exact (((((Keep.refl _ w).drewN nq).setCell _ _ (fun _ => .inl rfl)).setCell _ _ (fun _ => .inl rfl)).setCell _ _ (fun _ => .inl rfl)).setCell _ _ (fun _ => .inl rfl)
  have HFIN := Lib.hid fin; clear fin
  have e1 : IntKind.i64.wrap ((D.bytes.length : Int) - D.safe) = (D.bytes.length : Int) - D.safe := IntWalk.i64_in _ (by omega)
  by_cases hk0 : k ≤ 0
  · have HN := Lib.hid (show crashN D k = D.safe by unfold crashN; split; · rfl
                                                    rw [if_neg (by omega)]; omega)
    have hs : (D.safe : Int) ≤ vc := by omega
    have e2 : IntKind.i64.wrap (D.safe : Int) = D.safe := IntWalk.i64_in _ (by omega)
    have m1 : ((D.bytes.length : Int) - D.safe < k) = False := by simp; omega
    have m2 : ((0 : Int) < k) = False := by simp; omega
    go_enter Tryz.func23, Tryz.ntmps23
    go_wp2_with (go_at_call 51; refine (none_any HD.out).mono ?_; rintro e w' ⟨rfl, rfl⟩)
    go_still_tail 26, (by kernel_rfl)
    change wpList _ _ _ _ _ w.drew
    clear e1 e2 m1 m2
    go_wp2
    go_end0
    exact HFIN.out _ _ 1 HN.out rfl
  by_cases hk1 : (D.bytes.length : Int) - D.safe < k
  · have HN := Lib.hid (show crashN D k = D.bytes.length by unfold crashN; rw [if_neg (by omega), if_pos hk1])
    have hs : (D.bytes.length : Int) ≤ vc := by omega
    have m1 : ((D.bytes.length : Int) - D.safe < k) = True := by simp; omega
    by_cases hk2 : D.safe = D.bytes.length
    · have e2 : IntKind.i64.wrap (D.safe : Int) = D.bytes.length := by rw [hk2]; exact IntWalk.i64_in _ (by omega)
      have m2 : ((0 : Int) < D.bytes.length - D.safe) = False := by simp; omega
      have m3 : (D.safe < D.bytes.length) = False := by simp; omega
      clear hk2
      go_enter Tryz.func23, Tryz.ntmps23
      go_wp2_with (go_at_call 51; refine (none_any HD.out).mono ?_; rintro e w' ⟨rfl, rfl⟩)
      go_still_tail 26, (by kernel_rfl)
      change wpList _ _ _ _ _ w.drew
      clear e1 e2 m1 m2
      go_wp2
      go_end0
      exact HFIN.out _ _ 1 HN.out rfl
    · have e2 : IntKind.i64.wrap ((D.safe : Int) + (D.bytes.length - D.safe)) = D.bytes.length := by rw [IntWalk.i64_in _ (by omega)]; omega
      have m2 : ((0 : Int) < D.bytes.length - D.safe) = True := by simp; omega
      have m3 : (D.safe < D.bytes.length) = True := by simp; omega
      go_enter Tryz.func23, Tryz.ntmps23
      go_wp2_with (go_at_call 51; refine (none_any HD.out).mono ?_; rintro e w' ⟨rfl, rfl⟩)
      go_still_tail 26, (by kernel_rfl)
      change wpList _ _ _ _ _ w.drew
      clear e1 e2 m1 m2
      go_wp2
      go_end0
      exact HFIN.out _ _ 1 HN.out rfl
  · obtain ⟨j, rfl⟩ := Int.eq_ofNat_of_zero_le (show 0 ≤ k by omega)
    have HN := Lib.hid (show crashN D j = D.safe + j by unfold crashN; rw [if_neg (by omega), if_neg hk1]; simp)
    have hs : (D.safe : Int) + j ≤ vc := by omega
    have hs0 : 0 ≤ (D.safe : Int) + j := by omega
    have ht : ((D.safe : Int) + j).toNat = D.safe + j := by omega
    have e2 : IntKind.i64.wrap ((D.safe : Int) + j) = (D.safe : Int) + j := IntWalk.i64_in _ (by omega)
    have m1 : ((D.bytes.length : Int) - D.safe < j) = False := by simp; omega
    have m2 : ((0 : Int) < j) = True := by simp; omega
    have m3 : (0 < j) = True := by simp; omega
    go_enter Tryz.func23, Tryz.ntmps23
    go_wp2_with (go_at_call 51; refine (none_any HD.out).mono ?_; rintro e w' ⟨rfl, rfl⟩)
    go_still_tail 26, (by kernel_rfl)
    change wpList _ _ _ _ _ w.drew
    clear e1 e2 m1 m2
    go_wp2
    go_end0
    exact HFIN.out _ _ 1 HN.out rfl

end Go.Proofs.YthdkamnclbfehaaGreatDoor
