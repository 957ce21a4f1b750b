/- slices.Clone at the five types that the laws meet: a new slice with the same elements. -/
import Derived.Test.YtkkjonkcjlnohaaGreatDoorProg
import Derived.Test.YtkkjonkcjlnohaaGreatDoorSM2
import Derived.Outline
import Derived.Lib.SliceRun
import Derived.Maps.OwnOps
import Derived.Maps.OwnSet
import Derived.Maps.RangeWalk

/- slices.Clone at the five types that the laws meet: a new slice with the same elements. -/
namespace Go.Proofs.YtkkjonkcjlnohaaGreatDoor
set_option linter.unusedSimpArgs false
set_option linter.unusedVariables false
set_option linter.unnecessarySimpa false
open Go.RowKit
abbrev zLot : Value := .agg #[.string ⟨#[]⟩, .int .i64 0, .int .i64 0, .bool false]
abbrev zPair : Value := .agg #[.int .i64 0, .int .i64 0]
theorem info214 : (Tryz.prog.info? 125).map (fun i => (i.zero, i.size, i.bytes)) = some (some zLot, 4, 40) := by kernel_rfl
theorem info176 : (Tryz.prog.info? 127).map (fun i => (i.zero, i.size, i.bytes)) = some (some zPair, 2, 16) := by kernel_rfl
theorem info9 : (Tryz.prog.info? 9).map (fun i => (i.zero, i.size, i.bytes)) = some (some (.string ⟨#[]⟩), 1, 16) := by kernel_rfl
theorem info3' : (Tryz.prog.info? 3).map (fun i => (i.zero, i.size, i.bytes)) = some (some (.int .i64 0), 1, 8) := by kernel_rfl

def ClonePost (w : World) (t : TypeId) (size n : Nat) (xs : List Value) (e : Ending) (w' : World) : Prop :=
  ∃ v', e = .returned v' ∧ w'.ownsRow w.heap.size t size v' n xs ∧ Keep (fun _ => False) w w'

theorem clone114 {w : World} {v : Value} {n : Nat} {xs : List Value} (hv : Rd w 4 v n xs) (hn : n * 40 ≤ 140737488355328) : Calls Tryz.prog 65 #[v] w (ClonePost w 125 4 n xs) := by
  obtain ⟨ao, cap, hve, _⟩ := hv.shape
  have hsrc := (hv.keep ((Keep.refl (fun _ => False) w).alloc (.cells #[] 125)) (fun _ _ h => h)).src (P := Tryz.prog) Tryz.underlying87
  have hxs : ao = none → n = 0 ∧ xs = [] := by
    intro h
    rcases hv.2.2 with ⟨h1, h2⟩ | ⟨b, o, c, h1, _⟩
    · exact ⟨h2, List.eq_nil_of_length_eq_zero (by rw [hv.1, h2, Nat.zero_mul])⟩
    · rw [hve, h] at h1; cases h1
  subst hve
  have HSRC := Lib.hid hsrc; clear hsrc
  have HNEW := Lib.hid (World.ownsRow_made (base := w.heap.size) (e := 125) (size := 4) w #[] 0 (Nat.le_refl _) (by unfold maxLen; omega) (by simp))
  clear hv
  have hnil := fun W => Lib.run_eql_slice_nil (P := Tryz.prog) W 87 125 ao n cap 0 0 Tryz.underlying87
  cases ao with
  | none =>
    obtain ⟨rfl, rfl⟩ := hxs rfl
    go_enter Tryz.func65, Tryz.ntmps65
    go_wp2
    go_ret
    exact ⟨_, rfl, World.ownsRow_nil _ _ _ _, Keep.refl _ _⟩
  | some a =>
    clear hxs
    go_enter Tryz.func65, Tryz.ntmps65
    go_wp2_with (at_builtin; refine wpList_app (w := w.alloc (.cells #[] 125)) rfl (.tmp 5) (.tmp 6) 87 87 rfl 125 zLot 4 40 Tryz.underlying87 info214 rfl HNEW.out rfl HSRC.out rfl ?hb1 ?hb2 ?hb3 ?hgo)
    case hb1 => unfold maxLen; omega
    case hb2 => omega
    case hb3 => simp
    case hgo =>
    intro v' w1 happ
    have HA := Lib.hid happ; clear happ
    go_wp2
    go_ret
    refine ⟨v', rfl, by simpa using HA.out.own, ?_⟩
    refine ((Keep.refl _ w).alloc _).trans HA.out.keep (fun k hk e => ?_)
    have e' : w.heap.size = k := Option.some.inj e
    omega

theorem clone115 {w : World} {v : Value} {n : Nat} {xs : List Value} (hv : Rd w 2 v n xs) (hn : n * 16 ≤ 140737488355328) : Calls Tryz.prog 66 #[v] w (ClonePost w 127 2 n xs) := by
  obtain ⟨ao, cap, hve, _⟩ := hv.shape
  have hsrc := (hv.keep ((Keep.refl (fun _ => False) w).alloc (.cells #[] 127)) (fun _ _ h => h)).src (P := Tryz.prog) Tryz.underlying88
  have hxs : ao = none → n = 0 ∧ xs = [] := by
    intro h
    rcases hv.2.2 with ⟨h1, h2⟩ | ⟨b, o, c, h1, _⟩
    · exact ⟨h2, List.eq_nil_of_length_eq_zero (by rw [hv.1, h2, Nat.zero_mul])⟩
    · rw [hve, h] at h1; cases h1
  subst hve
  have HSRC := Lib.hid hsrc; clear hsrc
  have HNEW := Lib.hid (World.ownsRow_made (base := w.heap.size) (e := 127) (size := 2) w #[] 0 (Nat.le_refl _) (by unfold maxLen; omega) (by simp))
  clear hv
  have hnil := fun W => Lib.run_eql_slice_nil (P := Tryz.prog) W 88 127 ao n cap 0 0 Tryz.underlying88
  cases ao with
  | none =>
    obtain ⟨rfl, rfl⟩ := hxs rfl
    go_enter Tryz.func66, Tryz.ntmps66
    go_wp2
    go_ret
    exact ⟨_, rfl, World.ownsRow_nil _ _ _ _, Keep.refl _ _⟩
  | some a =>
    clear hxs
    go_enter Tryz.func66, Tryz.ntmps66
    go_wp2_with (at_builtin; refine wpList_app (w := w.alloc (.cells #[] 127)) rfl (.tmp 5) (.tmp 6) 88 88 rfl 127 zPair 2 16 Tryz.underlying88 info176 rfl HNEW.out rfl HSRC.out rfl ?hb1 ?hb2 ?hb3 ?hgo)
    case hb1 => unfold maxLen; omega
    case hb2 => omega
    case hb3 => simp
    case hgo =>
    intro v' w1 happ
    have HA := Lib.hid happ; clear happ
    go_wp2
    go_ret
    refine ⟨v', rfl, by simpa using HA.out.own, ?_⟩
    refine ((Keep.refl _ w).alloc _).trans HA.out.keep (fun k hk e => ?_)
    have e' : w.heap.size = k := Option.some.inj e
    omega

theorem clone22 {w : World} {v : Value} {n : Nat} {xs : List Value} (hv : Rd w 1 v n xs) (hn : n * 16 ≤ 140737488355328) : Calls Tryz.prog 67 #[v] w (ClonePost w 9 1 n xs) := by
  obtain ⟨ao, cap, hve, _⟩ := hv.shape
  have hsrc := (hv.keep ((Keep.refl (fun _ => False) w).alloc (.cells #[] 9)) (fun _ _ h => h)).src (P := Tryz.prog) Tryz.underlying24
  have hxs : ao = none → n = 0 ∧ xs = [] := by
    intro h
    rcases hv.2.2 with ⟨h1, h2⟩ | ⟨b, o, c, h1, _⟩
    · exact ⟨h2, List.eq_nil_of_length_eq_zero (by rw [hv.1, h2, Nat.zero_mul])⟩
    · rw [hve, h] at h1; cases h1
  subst hve
  have HSRC := Lib.hid hsrc; clear hsrc
  have HNEW := Lib.hid (World.ownsRow_made (base := w.heap.size) (e := 9) (size := 1) w #[] 0 (Nat.le_refl _) (by unfold maxLen; omega) (by simp))
  clear hv
  have hnil := fun W => Lib.run_eql_slice_nil (P := Tryz.prog) W 24 9 ao n cap 0 0 Tryz.underlying24
  cases ao with
  | none =>
    obtain ⟨rfl, rfl⟩ := hxs rfl
    go_enter Tryz.func67, Tryz.ntmps67
    go_wp2
    go_ret
    exact ⟨_, rfl, World.ownsRow_nil _ _ _ _, Keep.refl _ _⟩
  | some a =>
    clear hxs
    go_enter Tryz.func67, Tryz.ntmps67
    go_wp2_with (at_builtin; refine wpList_app (w := w.alloc (.cells #[] 9)) rfl (.tmp 5) (.tmp 6) 24 24 rfl 9 (.string ⟨#[]⟩) 1 16 Tryz.underlying24 info9 rfl HNEW.out rfl HSRC.out rfl ?hb1 ?hb2 ?hb3 ?hgo)
    case hb1 => unfold maxLen; omega
    case hb2 => omega
    case hb3 => simp
    case hgo =>
    intro v' w1 happ
    have HA := Lib.hid happ; clear happ
    go_wp2
    go_ret
    refine ⟨v', rfl, by simpa using HA.out.own, ?_⟩
    refine ((Keep.refl _ w).alloc _).trans HA.out.keep (fun k hk e => ?_)
    have e' : w.heap.size = k := Option.some.inj e
    omega

theorem clone57 {w : World} {v : Value} {n : Nat} {xs : List Value} (hv : Rd w 1 v n xs) (hn : n * 8 ≤ 140737488355328) : Calls Tryz.prog 20 #[v] w (ClonePost w 3 1 n xs) := by
  obtain ⟨ao, cap, hve, _⟩ := hv.shape
  have hsrc := (hv.keep ((Keep.refl (fun _ => False) w).alloc (.cells #[] 3)) (fun _ _ h => h)).src (P := Tryz.prog) Tryz.underlying23
  have hxs : ao = none → n = 0 ∧ xs = [] := by
    intro h
    rcases hv.2.2 with ⟨h1, h2⟩ | ⟨b, o, c, h1, _⟩
    · exact ⟨h2, List.eq_nil_of_length_eq_zero (by rw [hv.1, h2, Nat.zero_mul])⟩
    · rw [hve, h] at h1; cases h1
  subst hve
  have HSRC := Lib.hid hsrc; clear hsrc
  have HNEW := Lib.hid (World.ownsRow_made (base := w.heap.size) (e := 3) (size := 1) w #[] 0 (Nat.le_refl _) (by unfold maxLen; omega) (by simp))
  clear hv
  have hnil := fun W => Lib.run_eql_slice_nil (P := Tryz.prog) W 23 3 ao n cap 0 0 Tryz.underlying23
  cases ao with
  | none =>
    obtain ⟨rfl, rfl⟩ := hxs rfl
    go_enter Tryz.func20, Tryz.ntmps20
    go_wp2
    go_ret
    exact ⟨_, rfl, World.ownsRow_nil _ _ _ _, Keep.refl _ _⟩
  | some a =>
    clear hxs
    go_enter Tryz.func20, Tryz.ntmps20
    go_wp2_with (at_builtin; refine wpList_app (w := w.alloc (.cells #[] 3)) rfl (.tmp 5) (.tmp 6) 23 23 rfl 3 (.int .i64 0) 1 8 Tryz.underlying23 info3' rfl HNEW.out rfl HSRC.out rfl ?hb1 ?hb2 ?hb3 ?hgo)
    case hb1 => unfold maxLen; omega
    case hb2 => omega
    case hb3 => simp
    case hgo =>
    intro v' w1 happ
    have HA := Lib.hid happ; clear happ
    go_wp2
    go_ret
    refine ⟨v', rfl, by simpa using HA.out.own, ?_⟩
    refine ((Keep.refl _ w).alloc _).trans HA.out.keep (fun k hk e => ?_)
    have e' : w.heap.size = k := Option.some.inj e
    omega

theorem clone55 {w : World} {v : Value} {n : Nat} {xs : List Value} (hv : Rd w 1 v n xs) (hn : n * 8 ≤ 140737488355328) : Calls Tryz.prog 37 #[v] w (ClonePost w 3 1 n xs) := by
  obtain ⟨ao, cap, hve, _⟩ := hv.shape
  have hsrc := (hv.keep ((Keep.refl (fun _ => False) w).alloc (.cells #[] 3)) (fun _ _ h => h)).src (P := Tryz.prog) Tryz.underlying57
  have hxs : ao = none → n = 0 ∧ xs = [] := by
    intro h
    rcases hv.2.2 with ⟨h1, h2⟩ | ⟨b, o, c, h1, _⟩
    · exact ⟨h2, List.eq_nil_of_length_eq_zero (by rw [hv.1, h2, Nat.zero_mul])⟩
    · rw [hve, h] at h1; cases h1
  subst hve
  have HSRC := Lib.hid hsrc; clear hsrc
  have HNEW := Lib.hid (World.ownsRow_made (base := w.heap.size) (e := 3) (size := 1) w #[] 0 (Nat.le_refl _) (by unfold maxLen; omega) (by simp))
  clear hv
  have hnil := fun W => Lib.run_eql_slice_nil (P := Tryz.prog) W 57 3 ao n cap 0 0 Tryz.underlying57
  cases ao with
  | none =>
    obtain ⟨rfl, rfl⟩ := hxs rfl
    go_enter Tryz.func37, Tryz.ntmps37
    go_wp2
    go_ret
    exact ⟨_, rfl, World.ownsRow_nil _ _ _ _, Keep.refl _ _⟩
  | some a =>
    clear hxs
    go_enter Tryz.func37, Tryz.ntmps37
    go_wp2_with (at_builtin; refine wpList_app (w := w.alloc (.cells #[] 3)) rfl (.tmp 5) (.tmp 6) 57 57 rfl 3 (.int .i64 0) 1 8 Tryz.underlying57 info3' rfl HNEW.out rfl HSRC.out rfl ?hb1 ?hb2 ?hb3 ?hgo)
    case hb1 => unfold maxLen; omega
    case hb2 => omega
    case hb3 => simp
    case hgo =>
    intro v' w1 happ
    have HA := Lib.hid happ; clear happ
    go_wp2
    go_ret
    refine ⟨v', rfl, by simpa using HA.out.own, ?_⟩
    refine ((Keep.refl _ w).alloc _).trans HA.out.keep (fun k hk e => ?_)
    have e' : w.heap.size = k := Option.some.inj e
    omega
end Go.Proofs.YtkkjonkcjlnohaaGreatDoor

/- Maps that are keyed by an int, whatever their elements: which value lies at which key. -/
namespace Go.Proofs.YtkkjonkcjlnohaaGreatDoor
set_option linter.unusedSimpArgs false
set_option linter.unusedVariables false
set_option linter.unnecessarySimpa false
open Go.RowKit
open Go.Maps (Keyed)

/-- An element as it lies there. -/
def rawE (v : Value) : Option (DataW Value × List MemPlace) := some (.held v, [])
theorem keyI : Keyed Tryz.prog 3 := Go.Maps.int_keyed Tryz.underlying3
def kI (x : Int) : Lit := .int .i64 x
theorem keyOfI {x : Int} (h : (Lit.int .i64 x).wf = true) : keyOf Tryz.prog 3 (.int .i64 x) = some (kI x) := Go.Maps.keyOf_int_mk Tryz.underlying3 h
/-- Block b is a map of at most n entries: at the key x lies f x. -/
def MapAt (w : World) (b n : Nat) (f : Int → Option Value) : Prop :=
  ∃ D : DataW Value, w.ownsMap Tryz.prog 3 rawE b n D ∧ (∀ x, (kI x).wf = true → Go.Maps.has D (kI x) = (f x).isSome) ∧ ∀ x v, (kI x).wf = true → f x = some v → ∀ z, D.atKey (kI x) z = .held v

theorem MapAt.lt {w : World} {b n : Nat} {f : Int → Option Value} (h : MapAt w b n f) : b < w.heap.size := by
  obtain ⟨D, h, _⟩ := h; exact h.lt
theorem MapAt.mono {w : World} {b n m : Nat} {f : Int → Option Value} (h : MapAt w b n f) (hn : n ≤ m) : MapAt w b m f := by
  obtain ⟨D, h, h2⟩ := h; exact ⟨D, h.mono hn, h2⟩
theorem MapAt.keep {S : Nat → Prop} {w w' : World} {b n : Nat} {f : Int → Option Value} (h : MapAt w b n f) (k : Keep S w w') (hS : ¬ S b) : MapAt w' b n f := by
  obtain ⟨D, h, h2⟩ := h
  have hlt := h.lt
  obtain ⟨es, clock, hb, F, hs, hD⟩ := h
  exact ⟨D, ⟨es, clock, (k.block b hlt hS).trans hb, F, hs, hD⟩, h2⟩
theorem MapAt.made (w : World) : MapAt (w.alloc (.map #[] 0)) w.heap.size 0 (fun _ => none) :=
  ⟨.map [], World.ownsMap_made w _ _ _, fun x _ => rfl, fun x v _ h => by cases h⟩
theorem MapAt.look {w : World} {b n : Nat} {f : Int → Option Value} (h : MapAt w b n f) {t e : TypeId} (ht : Tryz.prog.underlying t = some (.map 3 e)) {z : Value} (hz : ∀ W, (zeroValue e).run Tryz.prog W = .ok z W) {x : Int} (hx : (kI x).wf = true) :
    (Instr.lookup t (.map (some b)) (.int .i64 x) false).run Tryz.prog w = .ok ((f x).getD z) w := by
  obtain ⟨D, h, h1, h2⟩ := h
  obtain ⟨v, ps, hrun, hv⟩ := h.lookup keyI ht (hz w) (R := rawE) (zd := .held z) (zp := []) rfl (keyOfI hx)
  rw [hrun]
  have hv' : DataW.held v = D.atKey (kI x) (.held z) := by
    have e1 := Option.some.inj hv
    exact congrArg Prod.fst e1
  cases hf : f x with
  | none =>
    have h3 := h1 x hx
    rw [hf] at h3
    rw [Go.Maps.atKey_of_not_has h3] at hv'
    cases hv'; rfl
  | some u =>
    rw [h2 x u hx hf] at hv'
    cases hv'; rfl
theorem kI_ne {x y : Int} (h : x ≠ y) : kI x ≠ kI y := fun e => by unfold kI at e; exact h (by injection e)
theorem kI_key {x : Int} (h : (kI x).wf = true) : WideAt.IsKeyLit (kI x) := keyI.key (keyOfI h)
theorem MapAt.store {w : World} {b n : Nat} {f : Int → Option Value} (h : MapAt w b n f) {t e : TypeId} (ht : Tryz.prog.underlying t = some (.map 3 e)) (hn : n < maxLen) {x : Int} (hx : (kI x).wf = true) (v : Value) :
    ∃ w', (Instr.mapUpdate t (.map (some b)) (.int .i64 x) v).run Tryz.prog w = .ok () w' ∧ MapAt w' b (n + 1) (fun y => if y = x then some v else f y) ∧ Keep (fun k => k = b) w w' ∧ w'.heap.size = w.heap.size := by
  obtain ⟨D, h, h1, h2⟩ := h
  have him := h.isMap
  obtain ⟨w', hrun, hown, ht'⟩ := h.store keyI ht hn (R := rawE) (keyOfI hx) (val := v) (d := .held v) (ps := []) rfl
  have hg := ht'.grown
  refine ⟨w', hrun, ⟨_, hown, fun y hy => ?_, fun y u hy hu z => ?_⟩, ⟨hg.os, hg.tape, hg.output, hg.size, fun i hi hn => hg.block i hi (fun e => hn (Option.some.inj e))⟩, ?_⟩
  · by_cases e : y = x
    · subst e; simp [Go.Maps.has_put_same him (kI_key hy)]
    · dsimp only; rw [if_neg e, Go.Maps.has_put_other (kI_ne e)]; exact h1 y hy
  · by_cases e : y = x
    · subst e; simp at hu; subst hu; exact Go.Maps.atKey_put_same him (kI_key hy) _ _
    · dsimp only at hu; rw [if_neg e] at hu; rw [Go.Maps.atKey_put_other (kI_ne e)]; exact h2 y u hy hu z
  · obtain ⟨_, _, _, _, _, rfl⟩ := ht'
    simp [Go.ChangeMaps.setBlock]
theorem MapAt.drop {w : World} {b n : Nat} {f : Int → Option Value} (h : MapAt w b n f) {t e : TypeId} (ht : Tryz.prog.underlying t = some (.map 3 e)) {x : Int} (hx : (kI x).wf = true) (ty : TypeId) :
    ∃ w', (Builtin.delete_ #[t, 3] ty #[.map (some b), .int .i64 x]).run Tryz.prog w = .ok (.tuple #[]) w' ∧ MapAt w' b n (fun y => if y = x then none else f y) ∧ Keep (fun k => k = b) w w' ∧ w'.heap.size = w.heap.size := by
  obtain ⟨D, h, h1, h2⟩ := h
  obtain ⟨w', hrun, hown, ht'⟩ := h.drop keyI ht (R := rawE) (keyOfI hx) ty
  have hg := ht'.grown
  refine ⟨w', hrun, ⟨_, hown, fun y hy => ?_, fun y u hy hu z => ?_⟩, ⟨hg.os, hg.tape, hg.output, hg.size, fun i hi hn => hg.block i hi (fun e => hn (Option.some.inj e))⟩, ?_⟩
  · by_cases e : y = x
    · subst e; simp [Go.Maps.has_del_same]
    · dsimp only; rw [if_neg e, Go.Maps.has_del_other (kI_ne e)]; exact h1 y hy
  · by_cases e : y = x
    · subst e; simp at hu
    · dsimp only at hu; rw [if_neg e] at hu; rw [Go.Maps.atKey_del_other (kI_ne e)]; exact h2 y u hy hu z
  · obtain ⟨_, _, _, _, _, rfl⟩ := ht'
    simp [Go.ChangeMaps.setBlock]
/-- A map is being ranged over: iterator r; at the keys of left stands what is still to come, cnt of them. -/
def RangeAt (w : World) (b r n : Nat) (f : Int → Option Value) (left : Int → Bool) (cnt : Nat) : Prop :=
  ∃ (D : DataW Value) (lf : Lit → Bool), w.ranges Tryz.prog 3 rawE b r n D lf cnt ∧ (∀ x, (kI x).wf = true → Go.Maps.has D (kI x) = (f x).isSome) ∧ (∀ x v, (kI x).wf = true → f x = some v → ∀ z, D.atKey (kI x) z = .held v) ∧ ∀ x, (kI x).wf = true → lf (kI x) = left x
theorem MapAt.range {w : World} {b n : Nat} {f : Int → Option Value} (h : MapAt w b n f) {t e : TypeId} (ht : Tryz.prog.underlying t = some (.map 3 e)) :
    ∃ w' cnt, (Instr.range t (.map (some b))).run Tryz.prog w = .ok (.pointer (some ⟨w.heap.size, 0, none⟩)) w' ∧ RangeAt w' b w.heap.size n f (fun x => (f x).isSome) cnt ∧ cnt ≤ n ∧ Keep (fun _ => False) w w' ∧ w'.heap.size = w.heap.size + 1 := by
  obtain ⟨D, h, h1, h2⟩ := h
  obtain ⟨w', hrun, hr, hg, hs⟩ := h.range keyI ht
  exact ⟨w', _, hrun, ⟨D, _, hr, h1, h2, fun x hx => h1 x hx⟩, h.size_le, ⟨hg.os, hg.tape, hg.output, hg.size, fun i hi hn => hg.block i hi (by simp)⟩, hs⟩
theorem RangeAt.map {w : World} {b r n : Nat} {f : Int → Option Value} {left : Int → Bool} {cnt : Nat} (h : RangeAt w b r n f left cnt) : MapAt w b n f := by
  obtain ⟨D, lf, h, h1, h2, _⟩ := h; exact ⟨D, h.owns, h1, h2⟩
theorem RangeAt.lt {w : World} {b r n : Nat} {f : Int → Option Value} {left : Int → Bool} {cnt : Nat} (h : RangeAt w b r n f left cnt) : r < w.heap.size ∧ r ≠ b := by
  obtain ⟨D, lf, h, h1, h2, _⟩ := h; exact ⟨h.lt, h.ne⟩
theorem RangeAt.left_eq {w : World} {b r n : Nat} {f : Int → Option Value} {left : Int → Bool} {cnt : Nat} (h : RangeAt w b r n f left cnt) : w.rangeLeft b r = cnt := by
  obtain ⟨D, lf, h, _⟩ := h; exact h.left_eq
theorem RangeAt.keep {S : Nat → Prop} {w w' : World} {b r n : Nat} {f : Int → Option Value} {left : Int → Bool} {cnt : Nat} (h : RangeAt w b r n f left cnt) (k : Keep S w w') (hS : ¬ S b) (hr : ¬ S r) : RangeAt w' b r n f left cnt := by
  obtain ⟨D, lf, h, h1, h2, h3⟩ := h
  have hb := h.owns.lt
  have hrl := h.lt
  obtain ⟨es, clock, since, seen, c0, e1, F, e2, e3, e4, e5⟩ := h
  exact ⟨D, lf, ⟨es, clock, since, seen, c0, (k.block b hb hS).trans e1, F, e2, e3, (k.block r hrl hr).trans e4, e5⟩, h1, h2, h3⟩
theorem ownsRow_cells {w : World} {base : Nat} {e : TypeId} {size : Nat} {v : Value} {n : Nat} {xs : List Value} (h : w.ownsRow base e size v n xs) {g : Nat} (hg : v.ownBlock = some g) : ∃ cur fz, w.heap[g]? = some (.cells cur e fz) := by
  rcases h.2 with ⟨rfl, _⟩ | ⟨g', cap, cur, rfl, hb, hh, _⟩
  · cases hg
  · cases hg; exact ⟨cur, _, hh⟩
theorem MapAt.keepRow {w w' : World} {b n : Nat} {f : Int → Option Value} (h : MapAt w b n f) {base : Nat} {e : TypeId} {size : Nat} {v : Value} {m : Nat} {xs : List Value} (ho : w.ownsRow base e size v m xs) (k : Keep (fun k => v.ownBlock = some k) w w') : MapAt w' b n f := by
  refine h.keep k (fun hb => ?_)
  obtain ⟨cur, fz, hc⟩ := ownsRow_cells ho hb
  obtain ⟨D, ⟨es, clock, hm, _⟩, _⟩ := h
  rw [hc] at hm; cases hm
theorem RangeAt.keepRow {w w' : World} {b r n : Nat} {f : Int → Option Value} {left : Int → Bool} {cnt : Nat} (h : RangeAt w b r n f left cnt) {base : Nat} {e : TypeId} {size : Nat} {v : Value} {m : Nat} {xs : List Value} (ho : w.ownsRow base e size v m xs) (k : Keep (fun k => v.ownBlock = some k) w w') : RangeAt w' b r n f left cnt := by
  refine h.keep k (fun hb => ?_) (fun hb => ?_)
  · obtain ⟨cur, fz, hc⟩ := ownsRow_cells ho hb
    obtain ⟨D, lf, ⟨es, clock, _, _, _, hm, _⟩, _⟩ := h
    rw [hc] at hm; cases hm
  · obtain ⟨cur, fz, hc⟩ := ownsRow_cells ho hb
    obtain ⟨D, lf, ⟨es, clock, since, seen, c0, hm, F, e2, e3, hr, _⟩, _⟩ := h
    rw [hc] at hr; cases hr
/-- The step: nothing is left, or an entry comes whose key was left. -/
theorem RangeAt.next {w : World} {b r n : Nat} {f : Int → Option Value} {left : Int → Bool} {cnt : Nat} (h : RangeAt w b r n f left cnt) (ty : TypeId) :
    (cnt = 0 ∧ (∀ x, (kI x).wf = true → left x = false) ∧ (Instr.next (.pointer (some ⟨r, 0, none⟩)) false ty).run Tryz.prog w = .ok (.tuple #[.bool false]) w) ∨
    ∃ x v w' cnt', (kI x).wf = true ∧ left x = true ∧ f x = some v ∧ (Instr.next (.pointer (some ⟨r, 0, none⟩)) false ty).run Tryz.prog w = .ok (.tuple #[.bool true, .int .i64 x, v]) w' ∧
      RangeAt w' b r n f (fun y => left y && !(y == x)) cnt' ∧ cnt' < cnt ∧ Keep (fun k => k = r) w w' ∧ w'.heap.size = w.heap.size ∧ (Instr.entry (.pointer (some ⟨r, 0, none⟩))).run Tryz.prog w' = .ok (.tuple #[.int .i64 x, v]) w' := by
  obtain ⟨D, lf, h, h1, h2, h3⟩ := h
  rcases h.next keyI ty with ⟨h0, hl, hrun⟩ | ⟨key, v, kl, y, w', cnt', hkey, hlk, hv, hat, hrun, hrg, hlt, hgr, hsz, hen⟩
  · exact .inl ⟨h0, fun x hx => (h3 x hx).symm.trans (hl _), hrun⟩
  · obtain ⟨x, rfl, rfl, hx⟩ := Go.Maps.keyOf_int_inv Tryz.underlying3 hkey
    have hy : y = (DataW.held v, []) := (Option.some.inj hv).symm
    subst hy
    have hhas : Go.Maps.has D (kI x) = true := Go.Maps.has_true_of_atKey (fun z => hat z)
    have hf : f x = some v := by
      have e1 := h1 x hx
      rw [hhas] at e1
      obtain ⟨u, hu⟩ := Option.isSome_iff_exists.1 e1.symm
      have e2 := h2 x u hx hu .nil
      have e3 := hat .nil
      have e4 : DataW.held (H := Value) u = .held v := e2.symm.trans e3
      rw [hu]; cases e4; rfl
    refine .inr ⟨x, v, w', cnt', hx, (h3 x hx).symm.trans hlk, hf, hrun, ⟨D, _, hrg, h1, h2, fun z hz => ?_⟩, hlt, ⟨hgr.os, hgr.tape, hgr.output, hgr.size, fun i hi hn => hgr.block i hi (fun e => hn (Option.some.inj e))⟩, hsz, hen⟩
    rw [h3 z hz]
    by_cases e : z = x
    · subst e; rw [show (kI z).sameKey (.int .i64 z) = true from WideAt.sameKey_self (kI_key hz)]; simp
    · rw [Go.Maps.sameKey_ne (a := kI z) (b := .int .i64 x) (kI_ne e)]; simp [e]
end Go.Proofs.YtkkjonkcjlnohaaGreatDoor
