/- The law HouseDisks, walked: it returns true, whatever the size and the acts. -/
import Derived.Test.YthdkamnclbfehaaGreatDoorDisks
namespace Go.Proofs.YthdkamnclbfehaaGreatDoor
set_option linter.unusedSimpArgs false
set_option linter.unusedVariables false
set_option linter.unnecessarySimpa false
open Go.RowKit

/-- An act as it lies in memory. -/
structure ActV where
  k : Int
  n : Int
  line : ByteArray
  co : Option Addr
  cn : Nat
  cc : Nat
def actCell (a : ActV) : List Value := [.int .i64 a.k, .int .i64 a.n, .string a.line, .slice a.co a.cn a.cc]
def actCells (l : List ActV) : List Value := l.flatMap actCell
theorem actCells_length (l : List ActV) : (actCells l).length = l.length * 4 := by
  induction l with
  | nil => rfl
  | cons x l ih => simp only [actCells, List.flatMap_cons, List.length_append, List.length_cons] at ih ⊢; rw [ih]; simp [actCell]; omega
theorem actCells_get (l : List ActV) (j i : Nat) (hj : j < l.length) (hi : i < 4) : (actCells l)[j * 4 + i]? = (actCell l[j])[i]? := by
  induction l generalizing j with
  | nil => exact absurd hj (by simp)
  | cons x l ih =>
    simp only [actCells, List.flatMap_cons]
    cases j with
    | zero => rw [Nat.zero_mul, Nat.zero_add, List.getElem?_append_left (by simp [actCell]; omega)]; rfl
    | succ j =>
      rw [List.getElem?_append_right (by simp [actCell]; omega)]
      have : (j + 1) * 4 + i - (actCell x).length = j * 4 + i := by simp [actCell]; omega
      rw [this]
      exact ih j (by simpa using hj)

def DRel (w : World) (d x m : Nat) (i : Value) (wr : World) : Prop :=
  ∃ (j : Nat) (D : Dsk) (v u : Value), j ≤ m ∧ i = .int .i64 j ∧ Pair w.heap.size wr d x D D v u ∧ (∀ k, PT d x v u k → w.heap.size ≤ k) ∧ Keep (fun _ => False) w wr

set_option maxHeartbeats 4000000 in
set_option maxRecDepth 100000 in
theorem houseDisks_any {w : World} {size : Int} {lv : Value} {l : List ActV} (hG : Glob w) (hv : Rd w 4 lv l.length (actCells l)) (hl : ∀ a ∈ l, a.n ≤ 9223372036854775807 ∧ a.line.size ≤ 140737488355328) (hln : l.length ≤ 9223372036854775807) :
    Calls Tryz.prog 3 #[.int .i64 size, lv] w (IdxPost w (.bool true)) := by
  obtain ⟨lo, lc, hve, hlc, _⟩ := hv.shape
  subst hve
  have h12 := disks_any (base := w.heap.size) (w := w) size (Nat.le_refl _)
  have HG := Lib.hid hG; clear hG
  have HV := Lib.hid hv; clear hv
  have HL := Lib.hid hl; clear hl
  by_cases hs : 1 ≤ size ∧ size ≤ 1000000
  · have H12 := Lib.hid h12; clear h12
    obtain ⟨m, hm⟩ : ∃ m, (min (l.length : Int) 60).toNat = m := ⟨_, rfl⟩
    have hml : m ≤ l.length := by omega
    have hm0 : (0 : Int) ≤ min (l.length : Int) 60 := by omega
    have hm1 : min (l.length : Int) 60 ≤ (lc : Int) := by omega
    go_enter Tryz.func3, Tryz.ntmps3
    go_wp2_with (first
      | (go_at_call 12; refine H12.out.mono ?_; rintro e w1 ⟨hk1, hd1, _⟩; obtain ⟨d, x, rfl, hd, hx, hdd, hxx, hne⟩ := hd1 hs; have hpair : Pair w.heap.size w1 d x (newD size.toNat) (newD size.toNat) (.slice none 0 0) (.slice none 0 0) := ⟨hd, hx, fun k e => by cases e⟩; have hpt : ∀ k, PT d x (.slice none 0 0) (.slice none 0 0) k → w.heap.size ≤ k := (fun k hk => hk.elim (fun e => e.elim (fun e => e ▸ hdd) (fun e => by cases e)) (fun e => e.elim (fun e => e ▸ hxx) (fun e => by cases e))); have HREL : Hid (DRel w d x m (.int .i64 0) w1) := Lib.hid ⟨0, _, _, _, Nat.zero_le _, rfl, hpair, hpt, hk1⟩; clear hk1 hd1 hd hx hdd hxx hne hpair hpt))
    go_loopw [32] (DRel w d x m) (fun i _ => m - (intOf i).toNat)
    · exact HREL.out
    case round =>
      obtain ⟨j, D, v, u, hj, rfl, hp, hpt, hk⟩ := hrel
      have HP := Lib.hid hp; clear hp
      have HPT := Lib.hid hpt; clear hpt
      have HK := Lib.hid hk; clear hk
      by_cases hlt : j < m
      · have hjl : ((j : Int) < (m : Int)) = True := by simp; omega
        have hjn : j < l.length := by omega
        have hrd := HV.out.keep HK.out (fun _ _ h => h)
        obtain ⟨b, o, hao, hcell⟩ : ∃ b o, lo = some ⟨b, o, none⟩ ∧ ∀ i, i < 4 → wr.cell? ⟨b, o + (j * 4 + i), none⟩ = (actCell l[j])[i]? := by
          rcases hrd.2.2 with ⟨h, h'⟩ | ⟨b, o, c, h, _, _, hx⟩
          · omega
          · injection h with h1 h2 h3
            refine ⟨b, o, h1, fun i hi => ?_⟩
            have e := actCells_get l j i hjn hi
            have : ∃ u, (actCell l[j])[i]? = some u := ⟨(actCell l[j])[i]'(by simp [actCell]; omega), List.getElem?_eq_getElem _⟩
            obtain ⟨u, hu⟩ := this
            rw [hu]
            exact hx _ u (e.trans hu)
        subst hao
        have hln1 := HL.out l[j] (by simp)
        obtain ⟨A, hA⟩ : ∃ A, l[j] = A := ⟨_, rfl⟩
        rw [hA] at hcell hln1
        obtain ⟨ak, an, al, aco, acn, acc⟩ := A
        have c0 := hcell 0 (by omega)
        have c1 := hcell 1 (by omega)
        have c2 := hcell 2 (by omega)
        have c3 := hcell 3 (by omega)
        simp [actCell] at c0 c1 c2 c3
        simp only [← Nat.add_assoc] at c1 c2 c3
        clear hcell hA hrd
        have HLN := Lib.hid hln1; clear hln1
        go_wp2_with (first
          | (go_at_call 14; have hh := touched_any (base := w.heap.size) (k := ak) (n := an) (line := al) (co := aco) (cn := acn) (cc := acc) (Nat.le_trans HK.out.size ((Keep.refl (fun _ => False) wr).alloc (.cells #[.int .i64 ak, .int .i64 an, .string al, .slice aco acn acc] 30)).size) (HP.out.keep ((Keep.refl (fun _ => False) wr).alloc (.cells #[.int .i64 ak, .int .i64 an, .string al, .slice aco acn acc] 30)) (fun _ _ h => h)) HLN.out.1 HLN.out.2; refine Calls.mono hh ?_; clear hh; rintro e W1 ⟨D', v', u', rfl, hp1, hc1⟩; have HP1 := Lib.hid hp1; have HC1 := Lib.hid (PChg.before ((Keep.refl (fun _ => False) wr).alloc (.cells #[.int .i64 ak, .int .i64 an, .string al, .slice aco acn acc] 30)) hc1); clear hp1 hc1)
          | (go_at_call 15; refine Calls.mono (same_any HP1.out) ?_; rintro e W2 ⟨rfl, hk2⟩; have HK2 := Lib.hid hk2; clear hk2))
        go_roundw
        case rel =>
          have hz := HK.out.size
          exact ⟨j + 1, D', v', u', hlt, by go_num, HP1.out.keep HK2.out (fun _ _ h => h), fun k hk => (HC1.out.fp k hk).elim (HPT.out k) (fun e => by omega), (HK.out.trans HC1.out.keep (fun k hk e => by have := HPT.out k e; omega)).trans HK2.out (fun _ _ h => h)⟩
        case measure => simp [intOf]; omega
      · have hje : j = m := by omega
        subst hje
        have hjl : ((j : Int) < (j : Int)) = False := by simp
        go_wp2_with (first
          | (go_at_call 13; refine Calls.mono (awake_any (HG.out.keep HK.out)) ?_; rintro e w2 ⟨rfl, hk2⟩; have HK2 := Lib.hid hk2; clear hk2))
        go_ret
        exact ⟨rfl, HK.out.trans HK2.out (fun _ _ h => h)⟩
  · have H12 := Lib.hid h12; clear h12
    go_enter Tryz.func3, Tryz.ntmps3
    go_wp2_with (first
      | (go_at_call 12; refine H12.out.mono ?_; rintro e w1 ⟨hk1, _, hd1⟩; rw [hd1 hs]; have HK1 := Lib.hid hk1; clear hk1 hd1)
      | (go_at_call 13; refine Calls.mono (awake_any (HG.out.keep HK1.out)) ?_; rintro e w2 ⟨rfl, hk2⟩; have HK2 := Lib.hid hk2; clear hk2))
    go_ret
    exact ⟨rfl, HK1.out.trans HK2.out (fun _ _ h => h)⟩
end Go.Proofs.YthdkamnclbfehaaGreatDoor
