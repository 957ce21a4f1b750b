/- All six commands as one function, and what they keep. -/
import Derived.Test.YthdkamnclbfehaaGreatDoorPut
import Derived.Test.YthdkamnclbfehaaGreatDoorAwake
import Derived.Test.YthdkamnclbfehaaGreatDoorTestC
namespace Go.Proofs.YthdkamnclbfehaaGreatDoor
set_option linter.unusedSimpArgs false
set_option linter.unusedVariables false
set_option linter.unnecessarySimpa false
open Go.RowKit

def runF (f : Nat) (S : St) (a : FA) : Res :=
  if f = 255 then takeF S a else if f = 256 then blendF S a else if f = 257 then putF S a else if f = 258 then touchF S a else if f = 259 then testF S a else shutF S a

def numB (n : Int) : Prop := 0 ≤ n ∧ n ≤ 9223372036854775807
/-- What a line that is a change says. -/
inductive Said (f : Nat) (a : FA) : Prop where
  | take (h : f = 255) (n : Int) (w : ByteArray) (e : a = ⟨[n], w, true⟩) (hn : numB n) (hw : w.size ≤ 8)
  | blend (h : f = 256) (i j q : Int) (e : a = ⟨[i, j, q], bs [], true⟩) (hi : numB i) (hj : numB j) (hq : numB q)
  | put (h : f = 257) (i b : Int) (e : a = ⟨[i, b], bs [], true⟩) (hi : numB i) (hb : numB b)
  | touch (h : f = 258) (i j : Int) (e : a = ⟨[i, j], bs [], true⟩) (hi : numB i) (hj : numB j)
  | test (h : f = 259) (i : Int) (w : ByteArray) (e : a = ⟨[i], w, true⟩) (hi : numB i) (hw : w = goodB ∨ w = badBs)
  | close (h : f = 260) (i : Int) (e : a = ⟨[i], bs [], true⟩) (hi : numB i)

theorem step_d (a : FA) (w : ByteArray) : (stepF a (100, w)).n = a.n ++ [atoiN w] ∧ (stepF a (100, w)).word = a.word ∧ ((stepF a (100, w)).ok = true → a.ok = true ∧ numB (atoiN w)) := by
  refine ⟨rfl, rfl, fun h => ?_⟩
  have h' : (a.ok && atoiOk w && decide (w.size ≤ 6) && decide (0 ≤ atoiN w) && decide (itoaB (atoiN w) = w)) = true := h
  simp only [Bool.and_eq_true, decide_eq_true_eq] at h'
  exact ⟨h'.1.1.1.1, h'.1.2, (atoiN_bounds w).2⟩
theorem step_s (a : FA) (w : ByteArray) : (stepF a (115, w)).n = a.n ∧ (stepF a (115, w)).word = w ∧ ((stepF a (115, w)).ok = true → a.ok = true ∧ w.size ≤ 8) := by
  refine ⟨rfl, rfl, fun h => ?_⟩
  have h' : (a.ok && isSpiceB w) = true := h
  unfold isSpiceB at h'
  simp only [Bool.and_eq_true, decide_eq_true_eq] at h'
  exact ⟨h'.1, h'.2.1⟩
theorem step_t (a : FA) (w : ByteArray) : (stepF a (116, w)).n = a.n ∧ (stepF a (116, w)).word = w ∧ ((stepF a (116, w)).ok = true → a.ok = true ∧ (w = goodB ∨ w = badBs)) := by
  refine ⟨rfl, rfl, fun h => ?_⟩
  have h' : (a.ok && (decide (w = goodB) || decide (w = badBs))) = true := h
  simp only [Bool.and_eq_true, Bool.or_eq_true, decide_eq_true_eq] at h'
  exact h'
theorem FA.mk3 {a : FA} {n : List Int} {w : ByteArray} (h1 : a.n = n) (h2 : a.word = w) (h3 : a.ok = true) : a = ⟨n, w, true⟩ := by
  obtain ⟨x, y, z⟩ := a
  simp only at h1 h2 h3
  subst h1 h2 h3
  rfl
theorem fold_1 {c : UInt8} {ws : List ByteArray} (h : ws.length = 1) : ∃ w, foldF [c] ws = stepF ⟨[], bs [], true⟩ (c, w) := by
  match ws, h with
  | [w], _ => exact ⟨w, rfl⟩
theorem fold_2 {c d : UInt8} {ws : List ByteArray} (h : ws.length = 2) : ∃ w x, foldF [c, d] ws = stepF (stepF ⟨[], bs [], true⟩ (c, w)) (d, x) := by
  match ws, h with
  | [w, x], _ => exact ⟨w, x, rfl⟩
theorem fold_3 {c d e : UInt8} {ws : List ByteArray} (h : ws.length = 3) : ∃ w x y, foldF [c, d, e] ws = stepF (stepF (stepF ⟨[], bs [], true⟩ (c, w)) (d, x)) (e, y) := by
  match ws, h with
  | [w, x, y], _ => exact ⟨w, x, y, rfl⟩
theorem said_of {line : ByteArray} {so : List UInt8} {f : Nat} {a : FA} (h : formF line = some (so, f, a)) (hok : a.ok = true) : Said f a := by
  unfold formF at h
  split at h
  · split at h
    · rename_i so' f' hch
      split at h
      · rename_i hlen
        simp only [Option.some.injEq, Prod.mk.injEq] at h
        obtain ⟨rfl, rfl, rfl⟩ := h
        have htl : (words line).tail.length = so'.length := by rw [List.length_tail]; exact hlen
        unfold chF at hch
        repeat' split at hch
        all_goals first | (cases hch; done) | (simp only [Option.some.injEq, Prod.mk.injEq] at hch; obtain ⟨rfl, rfl⟩ := hch)
        · obtain ⟨w, x, e⟩ := fold_2 (c := 115) (d := 100) htl
          rw [e] at hok ⊢
          obtain ⟨a1, a2, a3⟩ := step_s ⟨[], bs [], true⟩ w
          obtain ⟨b1, b2, b3⟩ := step_d (stepF ⟨[], bs [], true⟩ (115, w)) x
          exact .take rfl _ _ (FA.mk3 (b1.trans (by rw [a1]; rfl)) (b2.trans a2) hok) (b3 hok).2 (a3 (b3 hok).1).2
        · obtain ⟨w, x, y, e⟩ := fold_3 (c := 100) (d := 100) (e := 100) htl
          rw [e] at hok ⊢
          obtain ⟨a1, a2, a3⟩ := step_d ⟨[], bs [], true⟩ w
          obtain ⟨b1, b2, b3⟩ := step_d (stepF ⟨[], bs [], true⟩ (100, w)) x
          obtain ⟨c1, c2, c3⟩ := step_d (stepF (stepF ⟨[], bs [], true⟩ (100, w)) (100, x)) y
          exact .blend rfl _ _ _ (FA.mk3 (c1.trans (by rw [b1, a1]; rfl)) (c2.trans (b2.trans a2)) hok) (a3 (b3 (c3 hok).1).1).2 (b3 (c3 hok).1).2 (c3 hok).2
        · obtain ⟨w, x, e⟩ := fold_2 (c := 100) (d := 100) htl
          rw [e] at hok ⊢
          obtain ⟨a1, a2, a3⟩ := step_d ⟨[], bs [], true⟩ w
          obtain ⟨b1, b2, b3⟩ := step_d (stepF ⟨[], bs [], true⟩ (100, w)) x
          exact .put rfl _ _ (FA.mk3 (b1.trans (by rw [a1]; rfl)) (b2.trans a2) hok) (a3 (b3 hok).1).2 (b3 hok).2
        · obtain ⟨w, x, e⟩ := fold_2 (c := 100) (d := 100) htl
          rw [e] at hok ⊢
          obtain ⟨a1, a2, a3⟩ := step_d ⟨[], bs [], true⟩ w
          obtain ⟨b1, b2, b3⟩ := step_d (stepF ⟨[], bs [], true⟩ (100, w)) x
          exact .touch rfl _ _ (FA.mk3 (b1.trans (by rw [a1]; rfl)) (b2.trans a2) hok) (a3 (b3 hok).1).2 (b3 hok).2
        · obtain ⟨w, x, e⟩ := fold_2 (c := 100) (d := 116) htl
          rw [e] at hok ⊢
          obtain ⟨a1, a2, a3⟩ := step_d ⟨[], bs [], true⟩ w
          obtain ⟨b1, b2, b3⟩ := step_t (stepF ⟨[], bs [], true⟩ (100, w)) x
          exact .test rfl _ _ (FA.mk3 (b1.trans a1) b2 hok) (a3 (b3 hok).1).2 (b3 hok).2
        · obtain ⟨w, e⟩ := fold_1 (c := 100) htl
          rw [e] at hok ⊢
          obtain ⟨a1, a2, a3⟩ := step_d ⟨[], bs [], true⟩ w
          exact .close rfl _ (FA.mk3 (a1.trans rfl) a2 hok) (a3 hok).2
      · cases h
    · cases h
  · cases h

theorem enters256 : Enters 256 := enters_of Tryz.func256 (by kernel_rfl) rfl
theorem enters257 : Enters 257 := enters_of Tryz.func257 (by kernel_rfl) rfl
theorem enters258 : Enters 258 := enters_of Tryz.func258 (by kernel_rfl) rfl
theorem enters259 : Enters 259 := enters_of Tryz.func259 (by kernel_rfl) rfl
theorem enters260 : Enters 260 := enters_of Tryz.func260 (by kernel_rfl) rfl

structure Lot.ok (x : Lot) : Prop where
  s : x.spice.size ≤ 8
  g : i64b x.grams
  b : -1 ≤ x.bay ∧ x.bay ≤ 7
structure Inv (k : Nat) (S : St) : Prop where
  b : S.bays.length = 8
  l : S.lots.length ≤ 20
  c : S.contacts.length ≤ 2 * k
  t : S.tests.length ≤ k
  n : S.notes.length ≤ 2 * k
  lo : ∀ x ∈ S.lots, x.ok
  no : ∀ x ∈ S.notes, x.size ≤ 100
theorem Inv.small {k : Nat} {S : St} (h : Inv k S) (hk : k ≤ 100000000) : S.small := ⟨by have := h.l; omega, by have := h.c; omega, by have := h.t; omega, by have := h.n; omega⟩
theorem Inv.mono {k k' : Nat} {S : St} (h : Inv k S) (hk : k ≤ k') : Inv k' S := ⟨h.b, h.l, by have := h.c; omega, by have := h.t; omega, by have := h.n; omega, h.lo, h.no⟩

theorem run_ok {k : Nat} {S : St} (h : Inv k S) (hk : k ≤ 100000000) (line : ByteArray) : RunOK runF S line := by
  intro so f a hf hok
  have hs := h.small hk
  have hl := h.l
  have hc := h.c
  have hn := h.n
  cases said_of hf hok with
  | take e n w ha hn hw => subst e ha; exact ⟨enters255, fun base w V vn hG ho hA => take_any hG ho hl hA rfl⟩
  | blend e i j q ha hi hj hq => subst e ha; exact ⟨enters256, fun base w V vn hG ho hA => blend_any hG ho hs (by omega) (by omega) hl hA rfl (by simp; exact ⟨⟨by have := hi.1; omega, hi.2⟩, ⟨by have := hj.1; omega, hj.2⟩, ⟨by have := hq.1; omega, hq.2⟩⟩)⟩
  | put e i b ha hi hb => subst e ha; exact ⟨enters257, fun base w V vn hG ho hA => put_any hG ho hs h.b hA rfl (by simp; exact ⟨hi, hb⟩)⟩
  | touch e i j ha hi hj => subst e ha; exact ⟨enters258, fun base w V vn hG ho hA => touch_any hG ho hs hA rfl (by simp; exact ⟨⟨by have := hi.1; omega, hi.2⟩, ⟨by have := hj.1; omega, hj.2⟩⟩)⟩
  | test e i w ha hi hw => subst e ha; exact ⟨enters259, fun base w' V vn hG ho hA => test_any hG ho hs hA rfl (by simp; exact ⟨by have := hi.1; omega, hi.2⟩) (by rcases hw with e | e <;> subst e <;> simp [goodB, badBs, bs, ByteArray.size])⟩
  | close e i ha hi => subst e ha; exact ⟨enters260, fun base w V vn hG ho hA => shut_any hG ho hs hA rfl⟩
end Go.Proofs.YthdkamnclbfehaaGreatDoor
