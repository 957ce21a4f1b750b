/- slices.Clone at the five types that the laws meet: a new slice with the same elements. -/
import Derived.Test.YthdkamnclbfehaaGreatDoorProg
import Derived.Test.YthdkamnclbfehaaGreatDoorO2
import Derived.Outline
import Derived.Lib.SliceRun
/- slices.Clone at the five types that the laws meet: a new slice with the same elements. -/
namespace Go.Proofs.YthdkamnclbfehaaGreatDoor
set_option linter.unusedSimpArgs false
set_option linter.unusedVariables false
set_option linter.unnecessarySimpa false
open Go.RowKit
abbrev zLot : Value := .agg #[.string ⟨#[]⟩, .int .i64 0, .int .i64 0, .bool false]
abbrev zPair : Value := .agg #[.int .i64 0, .int .i64 0]
theorem info214 : (Tryz.prog.info? 214).map (fun i => (i.zero, i.size, i.bytes)) = some (some zLot, 4, 40) := by kernel_rfl
theorem info176 : (Tryz.prog.info? 176).map (fun i => (i.zero, i.size, i.bytes)) = some (some zPair, 2, 16) := by kernel_rfl
theorem info9 : (Tryz.prog.info? 9).map (fun i => (i.zero, i.size, i.bytes)) = some (some (.string ⟨#[]⟩), 1, 16) := by kernel_rfl
theorem info3' : (Tryz.prog.info? 3).map (fun i => (i.zero, i.size, i.bytes)) = some (some (.int .i64 0), 1, 8) := by kernel_rfl
def ClonePost (w : World) (t : TypeId) (size n : Nat) (xs : List Value) (e : Ending) (w' : World) : Prop :=
  ∃ v', e = .returned v' ∧ w'.ownsRow w.heap.size t size v' n xs ∧ Keep (fun _ => False) w w'
theorem clone114 {w : World} {v : Value} {n : Nat} {xs : List Value} (hv : Rd w 4 v n xs) (hn : n * 40 ≤ 140737488355328) : Calls Tryz.prog 114 #[v] w (ClonePost w 214 4 n xs) := by
  obtain ⟨ao, cap, hve, _⟩ := hv.shape
  have hsrc := (hv.keep ((Keep.refl (fun _ => False) w).alloc (.cells #[] 214)) (fun _ _ h => h)).src (P := Tryz.prog) Tryz.underlying111
  have hxs : ao = none → n = 0 ∧ xs = [] := by
    intro h
    rcases hv.2.2 with ⟨h1, h2⟩ | ⟨b, o, c, h1, _⟩
    · exact ⟨h2, List.eq_nil_of_length_eq_zero (by rw [hv.1, h2, Nat.zero_mul])⟩
    · rw [hve, h] at h1; cases h1
  subst hve
  have HSRC := Lib.hid hsrc; clear hsrc
  have HNEW := Lib.hid (World.ownsRow_made (base := w.heap.size) (e := 214) (size := 4) w #[] 0 (Nat.le_refl _) (by unfold maxLen; omega) (by simp))
  clear hv
  have hnil := fun W => Lib.run_eql_slice_nil (P := Tryz.prog) W 111 214 ao n cap 0 0 Tryz.underlying111
  cases ao with
  | none =>
    obtain ⟨rfl, rfl⟩ := hxs rfl
    go_enter Tryz.func114, Tryz.ntmps114
    go_wp2
    go_ret
    exact ⟨_, rfl, World.ownsRow_nil _ _ _ _, Keep.refl _ _⟩
  | some a =>
    clear hxs
    go_enter Tryz.func114, Tryz.ntmps114
    go_wp2_with (at_builtin; refine wpList_app (w := w.alloc (.cells #[] 214)) rfl (.tmp 5) (.tmp 6) 111 111 rfl 214 zLot 4 40 Tryz.underlying111 info214 rfl HNEW.out rfl HSRC.out rfl ?hb1 ?hb2 ?hb3 ?hgo)
    case hb1 => unfold maxLen; omega
    case hb2 => omega
    case hb3 => simp
    case hgo =>
    intro v' w1 happ
    have HA := Lib.hid happ; clear happ
    go_wp2
    go_ret
    refine ⟨v', rfl, by simpa using HA.out.own, ?_⟩
    refine ((Keep.refl _ w).alloc _).trans HA.out.keep (fun k hk e => ?_)
    have e' : w.heap.size = k := Option.some.inj e
    omega
theorem clone115 {w : World} {v : Value} {n : Nat} {xs : List Value} (hv : Rd w 2 v n xs) (hn : n * 16 ≤ 140737488355328) : Calls Tryz.prog 115 #[v] w (ClonePost w 176 2 n xs) := by
  obtain ⟨ao, cap, hve, _⟩ := hv.shape
  have hsrc := (hv.keep ((Keep.refl (fun _ => False) w).alloc (.cells #[] 176)) (fun _ _ h => h)).src (P := Tryz.prog) Tryz.underlying71
  have hxs : ao = none → n = 0 ∧ xs = [] := by
    intro h
    rcases hv.2.2 with ⟨h1, h2⟩ | ⟨b, o, c, h1, _⟩
    · exact ⟨h2, List.eq_nil_of_length_eq_zero (by rw [hv.1, h2, Nat.zero_mul])⟩
    · rw [hve, h] at h1; cases h1
  subst hve
  have HSRC := Lib.hid hsrc; clear hsrc
  have HNEW := Lib.hid (World.ownsRow_made (base := w.heap.size) (e := 176) (size := 2) w #[] 0 (Nat.le_refl _) (by unfold maxLen; omega) (by simp))
  clear hv
  have hnil := fun W => Lib.run_eql_slice_nil (P := Tryz.prog) W 71 176 ao n cap 0 0 Tryz.underlying71
  cases ao with
  | none =>
    obtain ⟨rfl, rfl⟩ := hxs rfl
    go_enter Tryz.func115, Tryz.ntmps115
    go_wp2
    go_ret
    exact ⟨_, rfl, World.ownsRow_nil _ _ _ _, Keep.refl _ _⟩
  | some a =>
    clear hxs
    go_enter Tryz.func115, Tryz.ntmps115
    go_wp2_with (at_builtin; refine wpList_app (w := w.alloc (.cells #[] 176)) rfl (.tmp 5) (.tmp 6) 71 71 rfl 176 zPair 2 16 Tryz.underlying71 info176 rfl HNEW.out rfl HSRC.out rfl ?hb1 ?hb2 ?hb3 ?hgo)
    case hb1 => unfold maxLen; omega
    case hb2 => omega
    case hb3 => simp
    case hgo =>
    intro v' w1 happ
    have HA := Lib.hid happ; clear happ
    go_wp2
    go_ret
    refine ⟨v', rfl, by simpa using HA.out.own, ?_⟩
    refine ((Keep.refl _ w).alloc _).trans HA.out.keep (fun k hk e => ?_)
    have e' : w.heap.size = k := Option.some.inj e
    omega
theorem clone22 {w : World} {v : Value} {n : Nat} {xs : List Value} (hv : Rd w 1 v n xs) (hn : n * 16 ≤ 140737488355328) : Calls Tryz.prog 22 #[v] w (ClonePost w 9 1 n xs) := by
  obtain ⟨ao, cap, hve, _⟩ := hv.shape
  have hsrc := (hv.keep ((Keep.refl (fun _ => False) w).alloc (.cells #[] 9)) (fun _ _ h => h)).src (P := Tryz.prog) Tryz.underlying44
  have hxs : ao = none → n = 0 ∧ xs = [] := by
    intro h
    rcases hv.2.2 with ⟨h1, h2⟩ | ⟨b, o, c, h1, _⟩
    · exact ⟨h2, List.eq_nil_of_length_eq_zero (by rw [hv.1, h2, Nat.zero_mul])⟩
    · rw [hve, h] at h1; cases h1
  subst hve
  have HSRC := Lib.hid hsrc; clear hsrc
  have HNEW := Lib.hid (World.ownsRow_made (base := w.heap.size) (e := 9) (size := 1) w #[] 0 (Nat.le_refl _) (by unfold maxLen; omega) (by simp))
  clear hv
  have hnil := fun W => Lib.run_eql_slice_nil (P := Tryz.prog) W 44 9 ao n cap 0 0 Tryz.underlying44
  cases ao with
  | none =>
    obtain ⟨rfl, rfl⟩ := hxs rfl
    go_enter Tryz.func22, Tryz.ntmps22
    go_wp2
    go_ret
    exact ⟨_, rfl, World.ownsRow_nil _ _ _ _, Keep.refl _ _⟩
  | some a =>
    clear hxs
    go_enter Tryz.func22, Tryz.ntmps22
    go_wp2_with (at_builtin; refine wpList_app (w := w.alloc (.cells #[] 9)) rfl (.tmp 5) (.tmp 6) 44 44 rfl 9 (.string ⟨#[]⟩) 1 16 Tryz.underlying44 info9 rfl HNEW.out rfl HSRC.out rfl ?hb1 ?hb2 ?hb3 ?hgo)
    case hb1 => unfold maxLen; omega
    case hb2 => omega
    case hb3 => simp
    case hgo =>
    intro v' w1 happ
    have HA := Lib.hid happ; clear happ
    go_wp2
    go_ret
    refine ⟨v', rfl, by simpa using HA.out.own, ?_⟩
    refine ((Keep.refl _ w).alloc _).trans HA.out.keep (fun k hk e => ?_)
    have e' : w.heap.size = k := Option.some.inj e
    omega
theorem clone57 {w : World} {v : Value} {n : Nat} {xs : List Value} (hv : Rd w 1 v n xs) (hn : n * 8 ≤ 140737488355328) : Calls Tryz.prog 57 #[v] w (ClonePost w 3 1 n xs) := by
  obtain ⟨ao, cap, hve, _⟩ := hv.shape
  have hsrc := (hv.keep ((Keep.refl (fun _ => False) w).alloc (.cells #[] 3)) (fun _ _ h => h)).src (P := Tryz.prog) Tryz.underlying35
  have hxs : ao = none → n = 0 ∧ xs = [] := by
    intro h
    rcases hv.2.2 with ⟨h1, h2⟩ | ⟨b, o, c, h1, _⟩
    · exact ⟨h2, List.eq_nil_of_length_eq_zero (by rw [hv.1, h2, Nat.zero_mul])⟩
    · rw [hve, h] at h1; cases h1
  subst hve
  have HSRC := Lib.hid hsrc; clear hsrc
  have HNEW := Lib.hid (World.ownsRow_made (base := w.heap.size) (e := 3) (size := 1) w #[] 0 (Nat.le_refl _) (by unfold maxLen; omega) (by simp))
  clear hv
  have hnil := fun W => Lib.run_eql_slice_nil (P := Tryz.prog) W 35 3 ao n cap 0 0 Tryz.underlying35
  cases ao with
  | none =>
    obtain ⟨rfl, rfl⟩ := hxs rfl
    go_enter Tryz.func57, Tryz.ntmps57
    go_wp2
    go_ret
    exact ⟨_, rfl, World.ownsRow_nil _ _ _ _, Keep.refl _ _⟩
  | some a =>
    clear hxs
    go_enter Tryz.func57, Tryz.ntmps57
    go_wp2_with (at_builtin; refine wpList_app (w := w.alloc (.cells #[] 3)) rfl (.tmp 5) (.tmp 6) 35 35 rfl 3 (.int .i64 0) 1 8 Tryz.underlying35 info3' rfl HNEW.out rfl HSRC.out rfl ?hb1 ?hb2 ?hb3 ?hgo)
    case hb1 => unfold maxLen; omega
    case hb2 => omega
    case hb3 => simp
    case hgo =>
    intro v' w1 happ
    have HA := Lib.hid happ; clear happ
    go_wp2
    go_ret
    refine ⟨v', rfl, by simpa using HA.out.own, ?_⟩
    refine ((Keep.refl _ w).alloc _).trans HA.out.keep (fun k hk e => ?_)
    have e' : w.heap.size = k := Option.some.inj e
    omega
theorem clone55 {w : World} {v : Value} {n : Nat} {xs : List Value} (hv : Rd w 1 v n xs) (hn : n * 8 ≤ 140737488355328) : Calls Tryz.prog 55 #[v] w (ClonePost w 3 1 n xs) := by
  obtain ⟨ao, cap, hve, _⟩ := hv.shape
  have hsrc := (hv.keep ((Keep.refl (fun _ => False) w).alloc (.cells #[] 3)) (fun _ _ h => h)).src (P := Tryz.prog) Tryz.underlying53
  have hxs : ao = none → n = 0 ∧ xs = [] := by
    intro h
    rcases hv.2.2 with ⟨h1, h2⟩ | ⟨b, o, c, h1, _⟩
    · exact ⟨h2, List.eq_nil_of_length_eq_zero (by rw [hv.1, h2, Nat.zero_mul])⟩
    · rw [hve, h] at h1; cases h1
  subst hve
  have HSRC := Lib.hid hsrc; clear hsrc
  have HNEW := Lib.hid (World.ownsRow_made (base := w.heap.size) (e := 3) (size := 1) w #[] 0 (Nat.le_refl _) (by unfold maxLen; omega) (by simp))
  clear hv
  have hnil := fun W => Lib.run_eql_slice_nil (P := Tryz.prog) W 53 3 ao n cap 0 0 Tryz.underlying53
  cases ao with
  | none =>
    obtain ⟨rfl, rfl⟩ := hxs rfl
    go_enter Tryz.func55, Tryz.ntmps55
    go_wp2
    go_ret
    exact ⟨_, rfl, World.ownsRow_nil _ _ _ _, Keep.refl _ _⟩
  | some a =>
    clear hxs
    go_enter Tryz.func55, Tryz.ntmps55
    go_wp2_with (at_builtin; refine wpList_app (w := w.alloc (.cells #[] 3)) rfl (.tmp 5) (.tmp 6) 53 53 rfl 3 (.int .i64 0) 1 8 Tryz.underlying53 info3' rfl HNEW.out rfl HSRC.out rfl ?hb1 ?hb2 ?hb3 ?hgo)
    case hb1 => unfold maxLen; omega
    case hb2 => omega
    case hb3 => simp
    case hgo =>
    intro v' w1 happ
    have HA := Lib.hid happ; clear happ
    go_wp2
    go_ret
    refine ⟨v', rfl, by simpa using HA.out.own, ?_⟩
    refine ((Keep.refl _ w).alloc _).trans HA.out.keep (fun k hk e => ?_)
    have e' : w.heap.size = k := Option.some.inj e
    omega
end Go.Proofs.YthdkamnclbfehaaGreatDoor
