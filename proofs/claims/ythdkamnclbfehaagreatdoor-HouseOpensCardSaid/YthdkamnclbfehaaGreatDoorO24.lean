/- House.Journal; the laws' own opened: a house on a new disk. -/
import Derived.Test.YthdkamnclbfehaaGreatDoorO23
/- House.Journal; the laws' own opened: a house on a new disk. -/
namespace Go.Proofs.YthdkamnclbfehaaGreatDoor
set_option linter.unusedSimpArgs false
set_option linter.unusedVariables false
set_option linter.unnecessarySimpa false
open Go.RowKit
theorem journal_any {base : Nat} {w : World} {H : HV} {D : Dsk} {S : St} {ls : List ByteArray} {lost : Bool} (h : HouseAt base w H D S ls lost) (hl : ls.length ≤ 1000000000) :
    Calls Tryz.prog 19 #[.pointer (some ⟨H.h, 0, none⟩)] w (ClonePost w 9 1 ls.length (strCells ls)) := by
  obtain ⟨lo, lc, hvl, _⟩ := ownsRow_shape h.own
  have c2 := h.blk.cell 2
  simp at c2
  rw [hvl] at c2
  have HC := Lib.hid (clone22 (ownsRow_rd h.own (strCells_one ls)) (by omega))
  rw [hvl] at HC
  have HH := Lib.hid h; clear h hvl
  go_enter Tryz.func19, Tryz.ntmps19
  go_wp2_with (first
    | (go_at_call 52; refine (hnone_any HH.out).mono ?_; rintro e w' ⟨rfl, rfl⟩)
    | (go_at_call 22; refine HC.out.mono ?_; rintro e w1 ⟨v1, rfl, ho1, hk1⟩; have HO1 := Lib.hid ho1; have HK1 := Lib.hid hk1; clear ho1 hk1))
  go_ret
  exact ⟨v1, rfl, HO1.out, HK1.out⟩
structure KHouse (base : Nat) (w : World) (g : List Int) (H : HV) (D : Dsk) (S : St) (ls : List ByteArray) : Prop where
  at_ : HouseAt base w H D S ls false
  good : Good g D S ls
  fp : ∀ k, H.V.fp k → base ≤ k
theorem KHouse.keep {base : Nat} {w w' : World} {g : List Int} {H : HV} {D : Dsk} {S : St} {ls : List ByteArray} (h : KHouse base w g H D S ls) (k : Keep (fun _ => False) w w') : KHouse base w' g H D S ls := ⟨h.at_.idle k, h.good, h.fp⟩
end Go.Proofs.YthdkamnclbfehaaGreatDoor
