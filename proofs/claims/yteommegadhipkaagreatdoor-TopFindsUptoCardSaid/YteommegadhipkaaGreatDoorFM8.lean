/- slices.Clone at the five types that the laws meet: a new slice with the same elements. -/
import Derived.Test.YteommegadhipkaaGreatDoorProg
import Derived.Test.YteommegadhipkaaGreatDoorFM2
import Derived.Outline
import Derived.Lib.SliceRun

/- slices.Clone at the five types that the laws meet: a new slice with the same elements. -/
namespace Go.Proofs.YteommegadhipkaaGreatDoor
set_option linter.unusedSimpArgs false
set_option linter.unusedVariables false
set_option linter.unnecessarySimpa false
open Go.RowKit
abbrev zLot : Value := .agg #[.string ⟨#[]⟩, .int .i64 0, .int .i64 0, .bool false]
abbrev zPair : Value := .agg #[.int .i64 0, .int .i64 0]
theorem info214 : (Tryz.prog.info? 120).map (fun i => (i.zero, i.size, i.bytes)) = some (some zLot, 4, 40) := by kernel_rfl
theorem info176 : (Tryz.prog.info? 122).map (fun i => (i.zero, i.size, i.bytes)) = some (some zPair, 2, 16) := by kernel_rfl
theorem info9 : (Tryz.prog.info? 9).map (fun i => (i.zero, i.size, i.bytes)) = some (some (.string ⟨#[]⟩), 1, 16) := by kernel_rfl
theorem info3' : (Tryz.prog.info? 3).map (fun i => (i.zero, i.size, i.bytes)) = some (some (.int .i64 0), 1, 8) := by kernel_rfl

def ClonePost (w : World) (t : TypeId) (size n : Nat) (xs : List Value) (e : Ending) (w' : World) : Prop :=
  ∃ v', e = .returned v' ∧ w'.ownsRow w.heap.size t size v' n xs ∧ Keep (fun _ => False) w w'

theorem clone114 {w : World} {v : Value} {n : Nat} {xs : List Value} (hv : Rd w 4 v n xs) (hn : n * 40 ≤ 140737488355328) : Calls Tryz.prog 66 #[v] w (ClonePost w 120 4 n xs) := by
  obtain ⟨ao, cap, hve, _⟩ := hv.shape
  have hsrc := (hv.keep ((Keep.refl (fun _ => False) w).alloc (.cells #[] 120)) (fun _ _ h => h)).src (P := Tryz.prog) Tryz.underlying75
  have hxs : ao = none → n = 0 ∧ xs = [] := by
    intro h
    rcases hv.2.2 with ⟨h1, h2⟩ | ⟨b, o, c, h1, _⟩
    · exact ⟨h2, List.eq_nil_of_length_eq_zero (by rw [hv.1, h2, Nat.zero_mul])⟩
    · rw [hve, h] at h1; cases h1
  subst hve
  have HSRC := Lib.hid hsrc; clear hsrc
  have HNEW := Lib.hid (World.ownsRow_made (base := w.heap.size) (e := 120) (size := 4) w #[] 0 (Nat.le_refl _) (by unfold maxLen; omega) (by simp))
  clear hv
  have hnil := fun W => Lib.run_eql_slice_nil (P := Tryz.prog) W 75 120 ao n cap 0 0 Tryz.underlying75
  cases ao with
  | none =>
    obtain ⟨rfl, rfl⟩ := hxs rfl
    go_enter Tryz.func66, Tryz.ntmps66
    go_wp2
    go_ret
    exact ⟨_, rfl, World.ownsRow_nil _ _ _ _, Keep.refl _ _⟩
  | some a =>
    clear hxs
    go_enter Tryz.func66, Tryz.ntmps66
    go_wp2_with (at_builtin; refine wpList_app (w := w.alloc (.cells #[] 120)) rfl (.tmp 5) (.tmp 6) 75 75 rfl 120 zLot 4 40 Tryz.underlying75 info214 rfl HNEW.out rfl HSRC.out rfl ?hb1 ?hb2 ?hb3 ?hgo)
    case hb1 => unfold maxLen; omega
    case hb2 => omega
    case hb3 => simp
    case hgo =>
    intro v' w1 happ
    have HA := Lib.hid happ; clear happ
    go_wp2
    go_ret
    refine ⟨v', rfl, by simpa using HA.out.own, ?_⟩
    refine ((Keep.refl _ w).alloc _).trans HA.out.keep (fun k hk e => ?_)
    have e' : w.heap.size = k := Option.some.inj e
    omega

theorem clone115 {w : World} {v : Value} {n : Nat} {xs : List Value} (hv : Rd w 2 v n xs) (hn : n * 16 ≤ 140737488355328) : Calls Tryz.prog 67 #[v] w (ClonePost w 122 2 n xs) := by
  obtain ⟨ao, cap, hve, _⟩ := hv.shape
  have hsrc := (hv.keep ((Keep.refl (fun _ => False) w).alloc (.cells #[] 122)) (fun _ _ h => h)).src (P := Tryz.prog) Tryz.underlying76
  have hxs : ao = none → n = 0 ∧ xs = [] := by
    intro h
    rcases hv.2.2 with ⟨h1, h2⟩ | ⟨b, o, c, h1, _⟩
    · exact ⟨h2, List.eq_nil_of_length_eq_zero (by rw [hv.1, h2, Nat.zero_mul])⟩
    · rw [hve, h] at h1; cases h1
  subst hve
  have HSRC := Lib.hid hsrc; clear hsrc
  have HNEW := Lib.hid (World.ownsRow_made (base := w.heap.size) (e := 122) (size := 2) w #[] 0 (Nat.le_refl _) (by unfold maxLen; omega) (by simp))
  clear hv
  have hnil := fun W => Lib.run_eql_slice_nil (P := Tryz.prog) W 76 122 ao n cap 0 0 Tryz.underlying76
  cases ao with
  | none =>
    obtain ⟨rfl, rfl⟩ := hxs rfl
    go_enter Tryz.func67, Tryz.ntmps67
    go_wp2
    go_ret
    exact ⟨_, rfl, World.ownsRow_nil _ _ _ _, Keep.refl _ _⟩
  | some a =>
    clear hxs
    go_enter Tryz.func67, Tryz.ntmps67
    go_wp2_with (at_builtin; refine wpList_app (w := w.alloc (.cells #[] 122)) rfl (.tmp 5) (.tmp 6) 76 76 rfl 122 zPair 2 16 Tryz.underlying76 info176 rfl HNEW.out rfl HSRC.out rfl ?hb1 ?hb2 ?hb3 ?hgo)
    case hb1 => unfold maxLen; omega
    case hb2 => omega
    case hb3 => simp
    case hgo =>
    intro v' w1 happ
    have HA := Lib.hid happ; clear happ
    go_wp2
    go_ret
    refine ⟨v', rfl, by simpa using HA.out.own, ?_⟩
    refine ((Keep.refl _ w).alloc _).trans HA.out.keep (fun k hk e => ?_)
    have e' : w.heap.size = k := Option.some.inj e
    omega

theorem clone22 {w : World} {v : Value} {n : Nat} {xs : List Value} (hv : Rd w 1 v n xs) (hn : n * 16 ≤ 140737488355328) : Calls Tryz.prog 68 #[v] w (ClonePost w 9 1 n xs) := by
  obtain ⟨ao, cap, hve, _⟩ := hv.shape
  have hsrc := (hv.keep ((Keep.refl (fun _ => False) w).alloc (.cells #[] 9)) (fun _ _ h => h)).src (P := Tryz.prog) Tryz.underlying24
  have hxs : ao = none → n = 0 ∧ xs = [] := by
    intro h
    rcases hv.2.2 with ⟨h1, h2⟩ | ⟨b, o, c, h1, _⟩
    · exact ⟨h2, List.eq_nil_of_length_eq_zero (by rw [hv.1, h2, Nat.zero_mul])⟩
    · rw [hve, h] at h1; cases h1
  subst hve
  have HSRC := Lib.hid hsrc; clear hsrc
  have HNEW := Lib.hid (World.ownsRow_made (base := w.heap.size) (e := 9) (size := 1) w #[] 0 (Nat.le_refl _) (by unfold maxLen; omega) (by simp))
  clear hv
  have hnil := fun W => Lib.run_eql_slice_nil (P := Tryz.prog) W 24 9 ao n cap 0 0 Tryz.underlying24
  cases ao with
  | none =>
    obtain ⟨rfl, rfl⟩ := hxs rfl
    go_enter Tryz.func68, Tryz.ntmps68
    go_wp2
    go_ret
    exact ⟨_, rfl, World.ownsRow_nil _ _ _ _, Keep.refl _ _⟩
  | some a =>
    clear hxs
    go_enter Tryz.func68, Tryz.ntmps68
    go_wp2_with (at_builtin; refine wpList_app (w := w.alloc (.cells #[] 9)) rfl (.tmp 5) (.tmp 6) 24 24 rfl 9 (.string ⟨#[]⟩) 1 16 Tryz.underlying24 info9 rfl HNEW.out rfl HSRC.out rfl ?hb1 ?hb2 ?hb3 ?hgo)
    case hb1 => unfold maxLen; omega
    case hb2 => omega
    case hb3 => simp
    case hgo =>
    intro v' w1 happ
    have HA := Lib.hid happ; clear happ
    go_wp2
    go_ret
    refine ⟨v', rfl, by simpa using HA.out.own, ?_⟩
    refine ((Keep.refl _ w).alloc _).trans HA.out.keep (fun k hk e => ?_)
    have e' : w.heap.size = k := Option.some.inj e
    omega

theorem clone57 {w : World} {v : Value} {n : Nat} {xs : List Value} (hv : Rd w 1 v n xs) (hn : n * 8 ≤ 140737488355328) : Calls Tryz.prog 15 #[v] w (ClonePost w 3 1 n xs) := by
  obtain ⟨ao, cap, hve, _⟩ := hv.shape
  have hsrc := (hv.keep ((Keep.refl (fun _ => False) w).alloc (.cells #[] 3)) (fun _ _ h => h)).src (P := Tryz.prog) Tryz.underlying23
  have hxs : ao = none → n = 0 ∧ xs = [] := by
    intro h
    rcases hv.2.2 with ⟨h1, h2⟩ | ⟨b, o, c, h1, _⟩
    · exact ⟨h2, List.eq_nil_of_length_eq_zero (by rw [hv.1, h2, Nat.zero_mul])⟩
    · rw [hve, h] at h1; cases h1
  subst hve
  have HSRC := Lib.hid hsrc; clear hsrc
  have HNEW := Lib.hid (World.ownsRow_made (base := w.heap.size) (e := 3) (size := 1) w #[] 0 (Nat.le_refl _) (by unfold maxLen; omega) (by simp))
  clear hv
  have hnil := fun W => Lib.run_eql_slice_nil (P := Tryz.prog) W 23 3 ao n cap 0 0 Tryz.underlying23
  cases ao with
  | none =>
    obtain ⟨rfl, rfl⟩ := hxs rfl
    go_enter Tryz.func15, Tryz.ntmps15
    go_wp2
    go_ret
    exact ⟨_, rfl, World.ownsRow_nil _ _ _ _, Keep.refl _ _⟩
  | some a =>
    clear hxs
    go_enter Tryz.func15, Tryz.ntmps15
    go_wp2_with (at_builtin; refine wpList_app (w := w.alloc (.cells #[] 3)) rfl (.tmp 5) (.tmp 6) 23 23 rfl 3 (.int .i64 0) 1 8 Tryz.underlying23 info3' rfl HNEW.out rfl HSRC.out rfl ?hb1 ?hb2 ?hb3 ?hgo)
    case hb1 => unfold maxLen; omega
    case hb2 => omega
    case hb3 => simp
    case hgo =>
    intro v' w1 happ
    have HA := Lib.hid happ; clear happ
    go_wp2
    go_ret
    refine ⟨v', rfl, by simpa using HA.out.own, ?_⟩
    refine ((Keep.refl _ w).alloc _).trans HA.out.keep (fun k hk e => ?_)
    have e' : w.heap.size = k := Option.some.inj e
    omega

theorem clone55 {w : World} {v : Value} {n : Nat} {xs : List Value} (hv : Rd w 1 v n xs) (hn : n * 8 ≤ 140737488355328) : Calls Tryz.prog 33 #[v] w (ClonePost w 3 1 n xs) := by
  obtain ⟨ao, cap, hve, _⟩ := hv.shape
  have hsrc := (hv.keep ((Keep.refl (fun _ => False) w).alloc (.cells #[] 3)) (fun _ _ h => h)).src (P := Tryz.prog) Tryz.underlying46
  have hxs : ao = none → n = 0 ∧ xs = [] := by
    intro h
    rcases hv.2.2 with ⟨h1, h2⟩ | ⟨b, o, c, h1, _⟩
    · exact ⟨h2, List.eq_nil_of_length_eq_zero (by rw [hv.1, h2, Nat.zero_mul])⟩
    · rw [hve, h] at h1; cases h1
  subst hve
  have HSRC := Lib.hid hsrc; clear hsrc
  have HNEW := Lib.hid (World.ownsRow_made (base := w.heap.size) (e := 3) (size := 1) w #[] 0 (Nat.le_refl _) (by unfold maxLen; omega) (by simp))
  clear hv
  have hnil := fun W => Lib.run_eql_slice_nil (P := Tryz.prog) W 46 3 ao n cap 0 0 Tryz.underlying46
  cases ao with
  | none =>
    obtain ⟨rfl, rfl⟩ := hxs rfl
    go_enter Tryz.func33, Tryz.ntmps33
    go_wp2
    go_ret
    exact ⟨_, rfl, World.ownsRow_nil _ _ _ _, Keep.refl _ _⟩
  | some a =>
    clear hxs
    go_enter Tryz.func33, Tryz.ntmps33
    go_wp2_with (at_builtin; refine wpList_app (w := w.alloc (.cells #[] 3)) rfl (.tmp 5) (.tmp 6) 46 46 rfl 3 (.int .i64 0) 1 8 Tryz.underlying46 info3' rfl HNEW.out rfl HSRC.out rfl ?hb1 ?hb2 ?hb3 ?hgo)
    case hb1 => unfold maxLen; omega
    case hb2 => omega
    case hb3 => simp
    case hgo =>
    intro v' w1 happ
    have HA := Lib.hid happ; clear happ
    go_wp2
    go_ret
    refine ⟨v', rfl, by simpa using HA.out.own, ?_⟩
    refine ((Keep.refl _ w).alloc _).trans HA.out.keep (fun k hk e => ?_)
    have e' : w.heap.size = k := Option.some.inj e
    omega
end Go.Proofs.YteommegadhipkaaGreatDoor
