/- Maps that are keyed by the values of a match, whose first alone may be other than 0. -/
import Derived.Test.YtkkjonkcjlnohaaGreatDoorSM8
import Derived.DeepKeys4

/- Maps that are keyed by the values of a match, whose first alone may be other than 0. -/
namespace Go.Proofs.YtkkjonkcjlnohaaGreatDoor
set_option linter.unusedSimpArgs false
set_option linter.unusedVariables false
set_option linter.unnecessarySimpa false
open Go.RowKit
open Go.Maps (Keyed)

theorem laidT : laidOutB Tryz.prog = true := by kernel_rfl
theorem keyV : Keyed Tryz.prog 255 := Keyed.of_law (deep_law_laid laidT (m := 3) (by omega) (by decide +kernel) (by kernel_rfl) (by kernel_rfl))
/-- Values of which the first alone is known. -/
def vv (l : Int) : Value := .agg #[.int .i64 l, .int .i64 0, .int .i64 0, .int .i64 0, .int .i64 0, .int .i64 0, .int .i64 0, .int .i64 0]
theorem vv_some : ∀ l : Fin 100, (keyOf Tryz.prog 255 (vv (l.val : Int))).isSome = true := by decide +kernel
theorem keyOfV {l : Int} (h : 0 ≤ l ∧ l ≤ 99) : ∃ L, keyOf Tryz.prog 255 (vv l) = some L := by
  obtain ⟨u, rfl⟩ : ∃ u : Nat, l = u := ⟨l.toNat, by omega⟩
  exact Option.isSome_iff_exists.1 (vv_some ⟨u, by omega⟩)
theorem vv_inj {l m : Int} (h : vv l = vv m) : l = m := by
  unfold vv at h
  injection h with h
  have := congrArg (fun a : Array Value => a[0]?) h
  simpa using this
theorem kV_ne {l m : Int} {L M : Lit} (hl : keyOf Tryz.prog 255 (vv l) = some L) (hm : keyOf Tryz.prog 255 (vv m) = some M) (h : l ≠ m) : L ≠ M := fun e =>
  h (vv_inj (keyV.inj hl (by rw [e]; exact hm)))
/-- Block b is a map of at most n entries: the key l is there where f l. -/
def MapV (w : World) (b n : Nat) (f : Int → Bool) : Prop :=
  ∃ D : DataW Value, w.ownsMap Tryz.prog 255 rawE b n D ∧ ∀ l L, keyOf Tryz.prog 255 (vv l) = some L → Go.Maps.has D L = f l
theorem MapV.lt {w : World} {b n : Nat} {f : Int → Bool} (h : MapV w b n f) : b < w.heap.size := by
  obtain ⟨D, h, _⟩ := h; exact h.lt
theorem MapV.keep {S : Nat → Prop} {w w' : World} {b n : Nat} {f : Int → Bool} (h : MapV w b n f) (k : Keep S w w') (hS : ¬ S b) : MapV w' b n f := by
  obtain ⟨D, h, h2⟩ := h
  have hlt := h.lt
  obtain ⟨es, clock, hb, F, hs, hD⟩ := h
  exact ⟨D, ⟨es, clock, (k.block b hlt hS).trans hb, F, hs, hD⟩, h2⟩
theorem MapV.made (w : World) : MapV (w.alloc (.map #[] 0)) w.heap.size 0 (fun _ => false) :=
  ⟨.map [], World.ownsMap_made w _ _ _, fun x _ _ => rfl⟩
theorem MapV.miss {w : World} {b n : Nat} {f : Int → Bool} (h : MapV w b n f) {t e : TypeId} (ht : Tryz.prog.underlying t = some (.map 255 e)) {z : Value} (hz : ∀ W, (zeroValue e).run Tryz.prog W = .ok z W) {l : Int} (hl : 0 ≤ l ∧ l ≤ 99) (hf : f l = false) :
    (Instr.lookup t (.map (some b)) (vv l) false).run Tryz.prog w = .ok z w := by
  obtain ⟨D, h, h1⟩ := h
  obtain ⟨L, hL⟩ := keyOfV hl
  obtain ⟨v, ps, hrun, hv⟩ := h.lookup keyV ht (hz w) (R := rawE) (zd := .held z) (zp := []) rfl hL
  rw [hrun]
  have hv' : DataW.held v = D.atKey L (.held z) := by
    have e1 := Option.some.inj hv
    exact congrArg Prod.fst e1
  have h3 := h1 l L hL
  rw [hf] at h3
  rw [Go.Maps.atKey_of_not_has h3] at hv'
  cases hv'; rfl
theorem MapV.store {w : World} {b n : Nat} {f : Int → Bool} (h : MapV w b n f) {t e : TypeId} (ht : Tryz.prog.underlying t = some (.map 255 e)) (hn : n < maxLen) {l : Int} (hl : 0 ≤ l ∧ l ≤ 99) (v : Value) :
    ∃ w', (Instr.mapUpdate t (.map (some b)) (vv l) v).run Tryz.prog w = .ok () w' ∧ MapV w' b (n + 1) (fun y => decide (y = l) || f y) ∧ Keep (fun k => k = b) w w' ∧ w'.heap.size = w.heap.size := by
  obtain ⟨D, h, h1⟩ := h
  have him := h.isMap
  obtain ⟨L, hL⟩ := keyOfV hl
  have hkey := keyV.key hL
  obtain ⟨w', hrun, hown, ht'⟩ := h.store keyV ht hn (R := rawE) hL (val := v) (d := .held v) (ps := []) rfl
  have hg := ht'.grown
  refine ⟨w', hrun, ⟨_, hown, fun y M hy => ?_⟩, ⟨hg.os, hg.tape, hg.output, hg.size, fun i hi hn => hg.block i hi (fun e => hn (Option.some.inj e))⟩, ?_⟩
  · by_cases e : y = l
    · subst e
      rw [hL] at hy
      cases hy
      simp [Go.Maps.has_put_same him hkey]
    · rw [Go.Maps.has_put_other (kV_ne hy hL e)]
      simp only [e, decide_false, Bool.false_or]
      exact h1 y M hy
  · obtain ⟨_, _, _, _, _, rfl⟩ := ht'
    simp [Go.ChangeMaps.setBlock]
theorem MapV.keepRow {w w' : World} {b n : Nat} {f : Int → Bool} (h : MapV w b n f) {base : Nat} {e : TypeId} {size : Nat} {v : Value} {m : Nat} {xs : List Value} (ho : w.ownsRow base e size v m xs) (k : Keep (fun k => v.ownBlock = some k) w w') : MapV w' b n f := by
  refine h.keep k (fun hb => ?_)
  obtain ⟨cur, fz, hc⟩ := ownsRow_cells ho hb
  obtain ⟨D, ⟨es, clock, hm, _⟩, _⟩ := h
  rw [hc] at hm; cases hm
end Go.Proofs.YtkkjonkcjlnohaaGreatDoor
