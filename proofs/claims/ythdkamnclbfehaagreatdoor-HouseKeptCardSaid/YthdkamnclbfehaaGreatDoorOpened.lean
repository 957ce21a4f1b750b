/- House.Journal; the laws' own opened: a house on a new disk. -/
import Derived.Test.YthdkamnclbfehaaGreatDoorSysA
import Derived.Test.YthdkamnclbfehaaGreatDoorSEq
namespace Go.Proofs.YthdkamnclbfehaaGreatDoor
set_option linter.unusedSimpArgs false
set_option linter.unusedVariables false
set_option linter.unnecessarySimpa false
open Go.RowKit

theorem journal_any {base : Nat} {w : World} {H : HV} {D : Dsk} {S : St} {ls : List ByteArray} {lost : Bool} (h : HouseAt base w H D S ls lost) (hl : ls.length ≤ 1000000000) :
    Calls Tryz.prog 19 #[.pointer (some ⟨H.h, 0, none⟩)] w (ClonePost w 9 1 ls.length (strCells ls)) := by
  obtain ⟨lo, lc, hvl, _⟩ := ownsRow_shape h.own
  have c2 := h.blk.cell 2
  simp at c2
  rw [hvl] at c2
  have HC := Lib.hid (clone22 (ownsRow_rd h.own (strCells_one ls)) (by omega))
  rw [hvl] at HC
  have HH := Lib.hid h; clear h hvl
  go_enter Tryz.func19, Tryz.ntmps19
  go_wp2_with (first
    | (go_at_call 52; refine (hnone_any HH.out).mono ?_; rintro e w' ⟨rfl, rfl⟩)
    | (go_at_call 22; refine HC.out.mono ?_; rintro e w1 ⟨v1, rfl, ho1, hk1⟩; have HO1 := Lib.hid ho1; have HK1 := Lib.hid hk1; clear ho1 hk1))
  go_ret
  exact ⟨v1, rfl, HO1.out, HK1.out⟩

/-- A house whose disk has power and the bytes of its lines. -/
structure KHouse (base : Nat) (w : World) (g : List Int) (H : HV) (D : Dsk) (S : St) (ls : List ByteArray) : Prop where
  at_ : HouseAt base w H D S ls false
  good : Good g D S ls
  fp : ∀ k, H.V.fp k → base ≤ k
theorem HouseAt.tp_ge {base : Nat} {w : World} {H : HV} {D : Dsk} {S : St} {ls : List ByteArray} {lost : Bool} (h : HouseAt base w H D S ls lost) : ∀ k, H.tp k → base ≤ k := fun k hk => by
  rcases hk with e | e | e | e
  · rw [e]; exact h.ge
  · rw [e]; exact h.disk.ge
  · exact (ownsRow_lt h.disk.own k e).1
  · exact (ownsRow_lt h.own k e).1
theorem KHouse.keep {base : Nat} {w w' : World} {g : List Int} {H : HV} {D : Dsk} {S : St} {ls : List ByteArray} (h : KHouse base w g H D S ls) (k : Keep (fun _ => False) w w') : KHouse base w' g H D S ls := ⟨h.at_.idle k, h.good, h.fp⟩

def OpenedPost (w : World) (g : List Int) (e : Ending) (w' : World) : Prop :=
  Keep (fun _ => False) w w' ∧
  (baysB g = true → ∃ H D, e = .returned (.tuple #[.pointer (some ⟨H.h, 0, none⟩), .pointer (some ⟨H.d, 0, none⟩), .bool true]) ∧ KHouse w.heap.size w' g H D (S0 g) []) ∧
  (baysB g = false → ∃ d, e = .returned (.tuple #[.pointer none, .pointer (some ⟨d, 0, none⟩), .bool false]))
theorem open_new {g : List Int} (hg : baysB g = true) : ∃ D', openF runF (newD 200000) g = ⟨0, D', S0 g, []⟩ ∧ Good g D' (S0 g) [] :=
  open_good hg (p := []) (.nil _) (by rw [show cat [] ++ ([] : List UInt8) = [] from rfl]; exact openLoop_end (by simp)) (.nil _) (List.prefix_append _ _)
theorem open_badBays {g : List Int} (hg : baysB g = false) (D : Dsk) : openF runF D g = ⟨2, D, S0 g, []⟩ := by unfold openF; rw [hg]; rfl
set_option maxHeartbeats 1000000 in
set_option maxRecDepth 100000 in
theorem opened_any {w : World} {gv : Value} {g : List Int} (hG : Glob w) (hg : Rd w 1 gv g.length (icells g)) (hgl : g.length ≤ 9223372036854775807) : Calls Tryz.prog 16 #[gv] w (OpenedPost w (g.take 10)) := by
  have h12 := disks_any (base := w.heap.size) (w := w) 200000 (Nat.le_refl _)
  have HG := Lib.hid hG; clear hG
  have HGR := Lib.hid hg; clear hg
  have H12 := Lib.hid h12; clear h12
  cases hb : baysB (g.take 10) with
  | true =>
    obtain ⟨D', hop, hgood⟩ := open_new hb
    have HOP := Lib.hid hop; have HGD := Lib.hid hgood; have HB := Lib.hid hb
    clear hop hgood hb
    go_enter Tryz.func16, Tryz.ntmps16
    go_wp2_with (first
      | (go_at_call 12; refine H12.out.mono ?_; rintro e w1 ⟨hk1, hd1, _⟩; obtain ⟨d, x, rfl, hd, hx, hdd, _, _⟩ := hd1 (by omega); have HK1 := Lib.hid hk1; have HD := Lib.hid (show DiskAt w.heap.size w1 d (newD 200000) (.slice none 0 0) from hd); have HDD := Lib.hid hdd; clear hk1 hd1 hd hx hdd)
      | (go_at_call 25; have hh := graph_any (HGR.out.keep HK1.out (fun _ _ h => h)) hgl; refine Calls.mono hh ?_; clear hh; rintro e w3 ⟨gv3, rfl, ho3, hk3⟩; have HO3 := Lib.hid ho3; have HK3 := Lib.hid (HK1.out.trans hk3 (fun _ _ h => h)); have HK13 := Lib.hid hk3; clear ho3 hk3)
      | (go_at_call 24; have hh := open_any (F := runF) (I := Inv) (g := g.take 10) (HG.out.keep HK3.out) (HD.out.keep HK13.out (fun h => h) (fun _ _ h => h)) (ownsRow_rd HO3.out (icells_one _)) (by rw [List.length_take]; omega) (fun k e => (ownsRow_lt HO3.out k e).2) HK3.out.size (fun e => inv_S0 (baysB_8 e)) (sys_all (by decide)); rw [HOP.out] at hh; refine Calls.mono hh ?_; clear hh; rintro e w4 ⟨v4, _, _, hk4, _, hok4⟩; obtain ⟨H, rfl, hHd, hHv, hh4, hfp4, hbb4, hvl4⟩ := hok4 rfl; have HH := Lib.hid hh4; have HFP := Lib.hid hfp4; have HHD := Lib.hid hHd; have HK4 := Lib.hid (HK3.out.trans (hk4.mono (T := fun k => w.heap.size ≤ k) (fun k _ e => e.elim (fun e => e ▸ HDD.out) (fun e => by cases e))) (fun k hk e => by omega)); clear hk4 hok4 hHd hHv hh4 hfp4 hbb4 hvl4))
    go_ret3
    refine ⟨HK4.out, fun _ => ⟨H, D', by rw [HHD.out]; rfl, ⟨HH.out, HGD.out, fun k hk => by have := HFP.out k hk; have := HK3.out.size; omega⟩⟩, fun e => by rw [HB.out] at e; cases e⟩
  | false =>
    have hop := open_badBays hb (newD 200000)
    have HOP := Lib.hid hop; have HB := Lib.hid hb
    clear hop hb
    go_enter Tryz.func16, Tryz.ntmps16
    go_wp2_with (first
      | (go_at_call 12; refine H12.out.mono ?_; rintro e w1 ⟨hk1, hd1, _⟩; obtain ⟨d, x, rfl, hd, hx, hdd, _, _⟩ := hd1 (by omega); have HK1 := Lib.hid hk1; have HD := Lib.hid (show DiskAt w.heap.size w1 d (newD 200000) (.slice none 0 0) from hd); have HDD := Lib.hid hdd; clear hk1 hd1 hd hx hdd)
      | (go_at_call 25; have hh := graph_any (HGR.out.keep HK1.out (fun _ _ h => h)) hgl; refine Calls.mono hh ?_; clear hh; rintro e w3 ⟨gv3, rfl, ho3, hk3⟩; have HO3 := Lib.hid ho3; have HK3 := Lib.hid (HK1.out.trans hk3 (fun _ _ h => h)); have HK13 := Lib.hid hk3; clear ho3 hk3)
      | (go_at_call 24; have hh := open_any (F := runF) (I := Inv) (g := g.take 10) (HG.out.keep HK3.out) (HD.out.keep HK13.out (fun h => h) (fun _ _ h => h)) (ownsRow_rd HO3.out (icells_one _)) (by rw [List.length_take]; omega) (fun k e => (ownsRow_lt HO3.out k e).2) HK3.out.size (fun e => inv_S0 (baysB_8 e)) (sys_all (by decide)); rw [HOP.out] at hh; refine Calls.mono hh ?_; clear hh; rintro e w4 ⟨v4, _, _, hk4, hbad4, _⟩; obtain rfl := hbad4 (show (2 : Int) ≠ 0 by decide); have HK4 := Lib.hid (HK3.out.trans (hk4.mono (T := fun k => w.heap.size ≤ k) (fun k _ e => e.elim (fun e => e ▸ HDD.out) (fun e => by cases e))) (fun k hk e => by omega)); clear hk4 hbad4))
    go_ret3
    refine ⟨HK4.out, (fun e => by rw [HB.out] at e; cases e), fun _ => ⟨d, rfl⟩⟩
end Go.Proofs.YthdkamnclbfehaaGreatDoor
