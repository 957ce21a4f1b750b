/- What Open makes of the lines of a journal, with a beginning of one more line behind them: plain Lean. -/
import Derived.Test.YthdkamnclbfehaaGreatDoorRun
namespace Go.Proofs.YthdkamnclbfehaaGreatDoor
set_option linter.unusedSimpArgs false
set_option linter.unusedVariables false
set_option linter.unnecessarySimpa false
open Go.RowKit

theorem index_nl : ∀ (a r : List UInt8), (10 : UInt8) ∉ a → Lib.index (a ++ 10 :: r) [10] = a.length := by
  intro a
  induction a with
  | nil => intro r _; simp [Lib.index]
  | cons x a ih =>
    intro r h
    simp only [List.mem_cons, not_or] at h
    show (if [10].isPrefixOf (x :: (a ++ 10 :: r)) then (0 : Int) else if Lib.index (a ++ 10 :: r) [10] == -1 then -1 else Lib.index (a ++ 10 :: r) [10] + 1) = _
    rw [ih r h.2]
    have h1 : ([10] : List UInt8).isPrefixOf (x :: (a ++ 10 :: r)) = false := by show ((10 : UInt8) == x && _) = false; rw [beq_eq_false_iff_ne.2 h.1]; rfl
    rw [h1]
    have h2 : ((a.length : Int) == -1) = false := beq_eq_false_iff_ne.2 (by omega)
    rw [h2]
    simp
theorem index_nonl : ∀ (a : List UInt8), (10 : UInt8) ∉ a → Lib.index a [10] = -1 := by
  intro a
  induction a with
  | nil => intro _; simp [Lib.index]
  | cons x a ih =>
    intro h
    simp only [List.mem_cons, not_or] at h
    show (if [10].isPrefixOf (x :: a) then (0 : Int) else if Lib.index a [10] == -1 then -1 else Lib.index a [10] + 1) = _
    rw [ih h.2]
    have h1 : ([10] : List UInt8).isPrefixOf (x :: a) = false := by show ((10 : UInt8) == x && _) = false; rw [beq_eq_false_iff_ne.2 h.1]; rfl
    rw [h1]
    simp
theorem cutNL_at (a r : List UInt8) (h : (10 : UInt8) ∉ a) : cutNL (a ++ 10 :: r) = some (a, r) := by
  unfold cutNL
  rw [index_nl a r h, if_pos (by omega)]
  simp
theorem cutNL_no (a : List UInt8) (h : (10 : UInt8) ∉ a) : cutNL a = none := by
  unfold cutNL
  rw [index_nonl a h, if_neg (by omega)]

theorem line_no10 {s : ByteArray} (h : isLineB s = true) : (10 : UInt8) ∉ s.data.toList := by
  unfold isLineB at h
  simp only [Bool.and_eq_true, Bool.not_eq_true', decide_eq_true_eq] at h
  intro hm
  have := List.any_eq_false.1 h.2.2 10 hm
  exact this (by decide)
theorem doF_line {F : Nat → St → FA → Res} {S : St} {s : ByteArray} (h : (doF F S s).err = 0) : isLineB s = true := by
  unfold doF formF at h
  by_cases hl : isLineB s = true
  · exact hl
  · simp [hl] at h
theorem doF_no10 {F : Nat → St → FA → Res} {S : St} {s : ByteArray} (h : (doF F S s).err = 0) : (10 : UInt8) ∉ s.data.toList := line_no10 (doF_line h)

/-- The bytes of lines. -/
def cat (ls : List ByteArray) : List UInt8 := ls.flatMap (fun l => l.data.toList ++ [10])
theorem cat_snoc (ls : List ByteArray) (s : ByteArray) : cat (ls ++ [s]) = cat ls ++ (s.data.toList ++ [10]) := by simp [cat]
/-- Lines that are done one after another, each without error. -/
inductive Rep (F : Nat → St → FA → Res) : St → List ByteArray → St → Prop
  | nil (S : St) : Rep F S [] S
  | cons {S S' : St} {s : ByteArray} {ls : List ByteArray} (h : (doF F S s).err = 0) (t : Rep F (doF F S s).st ls S') : Rep F S (s :: ls) S'
theorem Rep.snoc {F : Nat → St → FA → Res} {S S' : St} {ls : List ByteArray} (h : Rep F S ls S') {s : ByteArray} (hs : (doF F S' s).err = 0) : Rep F S (ls ++ [s]) (doF F S' s).st := by
  induction h with
  | nil S => exact .cons hs (.nil _)
  | cons h t ih => exact .cons h (ih hs)
theorem cat_length_ge {F : Nat → St → FA → Res} {S S' : St} {ls : List ByteArray} (h : Rep F S ls S') : ls.length ≤ (cat ls).length := by
  induction h with
  | nil S => simp
  | cons h t ih => simp only [cat, List.flatMap_cons, List.length_append, List.length_cons, List.length_nil] at ih ⊢; omega
theorem cat_length_le {F : Nat → St → FA → Res} {S S' : St} {ls : List ByteArray} (h : Rep F S ls S') : (cat ls).length ≤ 201 * ls.length := by
  induction h with
  | nil S => simp [cat]
  | @cons S S' s ls h t ih =>
    have h1 := doF_size h
    have h2 : s.data.toList.length = s.size := by simp
    simp only [cat, List.flatMap_cons, List.length_append, List.length_cons, List.length_nil] at ih ⊢
    omega
theorem bs_list (s : ByteArray) : bs s.data.toList = s := ByteArray.ext (by simp [bs])
/-- The loop of Open over lines of which each can be done. -/
theorem openLoop_cat {F : Nat → St → FA → Res} {S S' : St} {ls : List ByteArray} (h : Rep F S ls S') : ∀ (p : List UInt8) (acc : List ByteArray) (at_ fuel : Nat), ls.length ≤ fuel →
    openLoop F fuel (cat ls ++ p) S acc at_ = openLoop F (fuel - ls.length) p S' (acc ++ ls) (at_ + (cat ls).length) := by
  induction h with
  | nil S => intro p acc at_ fuel hf; simp [cat]
  | @cons S S' s ls h t ih =>
    intro p acc at_ fuel hf
    simp only [List.length_cons] at hf
    obtain ⟨k, rfl⟩ : ∃ k, fuel = k + 1 := ⟨fuel - 1, by omega⟩
    have e : cat (s :: ls) ++ p = s.data.toList ++ 10 :: (cat ls ++ p) := by simp [cat]
    rw [e]
    show (match cutNL (s.data.toList ++ 10 :: (cat ls ++ p)) with | none => (S, acc, at_) | some (a, b) => if (doF F S (bs a)).err = 0 then openLoop F k b (doF F S (bs a)).st (acc ++ [bs a]) (at_ + (a.length + 1)) else (S, acc, at_)) = _
    rw [cutNL_at _ _ (doF_no10 h)]
    simp only [bs_list, h, if_true]
    rw [ih p _ _ k (by omega)]
    simp only [List.length_cons, List.append_assoc, List.cons_append, List.nil_append]
    congr 1
    · omega
    · simp only [cat, List.flatMap_cons, List.length_append, List.length_cons, List.length_nil]
      omega
theorem openLoop_end {F : Nat → St → FA → Res} {S : St} {acc : List ByteArray} {at_ fuel : Nat} {p : List UInt8} (hp : (10 : UInt8) ∉ p) : openLoop F fuel p S acc at_ = (S, acc, at_) := by
  cases fuel with
  | zero => rfl
  | succ k =>
    show (match cutNL p with | none => (S, acc, at_) | some (a, b) => _) = _
    rw [cutNL_no _ hp]
/-- All lines, and nothing behind them. -/
theorem openLoop_all {F : Nat → St → FA → Res} {S S' : St} {ls : List ByteArray} (h : Rep F S ls S') {fuel : Nat} (hf : ls.length ≤ fuel) : openLoop F fuel (cat ls) S [] 0 = (S', ls, (cat ls).length) := by
  have := openLoop_cat h [] [] 0 fuel hf
  rw [List.append_nil] at this
  rw [this, openLoop_end (by simp)]
  simp
/-- All lines, and some of the bytes of one more. -/
theorem openLoop_some {F : Nat → St → FA → Res} {S S' : St} {ls : List ByteArray} (h : Rep F S ls S') {s : ByteArray} (hs : (doF F S' s).err = 0) (m : Nat) {fuel : Nat} (hf : ls.length + 1 ≤ fuel) :
    openLoop F fuel (cat ls ++ (s.data.toList ++ [10]).take m) S [] 0 = if s.size < m then ((doF F S' s).st, ls ++ [s], (cat ls).length + (s.size + 1)) else (S', ls, (cat ls).length) := by
  have hz : s.data.toList.length = s.size := by simp
  by_cases hm : s.size < m
  · rw [if_pos hm, List.take_of_length_le (by simp only [List.length_append, List.length_cons, List.length_nil]; omega), ← cat_snoc, openLoop_all (h.snoc hs) (by simp; omega), cat_snoc]
    simp only [List.length_append, List.length_cons, List.length_nil, hz, Nat.zero_add]
  · rw [if_neg hm, List.take_append_of_le_length (by omega), openLoop_cat h _ _ _ _ (by omega), openLoop_end (fun hh => doF_no10 hs (List.mem_of_mem_take hh))]
    simp

/-- A disk that has power, and the bytes of lines, all of them safe. -/
structure Good (g : List Int) (D : Dsk) (S : St) (ls : List ByteArray) : Prop where
  rep : Rep runF (S0 g) ls S
  off : D.off = false
  size : D.size = 200000
  bytes : D.bytes = cat ls
  safe : D.safe = (cat ls).length
theorem crash_all {D : Dsk} (h : D.safe = D.bytes.length) (k : Int) : crashF D k = { D with off := false, left := -1 } := by
  have : crashN D k = D.bytes.length := by unfold crashN; rw [h]; split <;> (try split) <;> omega
  unfold crashF
  rw [this, List.take_length]
  obtain ⟨a, b, c, d, e⟩ := D
  simp only at h
  subst h
  rfl
/-- Open of a disk with lines and some bytes of one more. -/
theorem open_good {g : List Int} (hg : baysB g = true) {S : St} {ls : List ByteArray} (h : Rep runF (S0 g) ls S) {p : List UInt8} {S' : St} {ls' : List ByteArray} (hloop : openLoop runF ((cat ls ++ p).length + 1) (cat ls ++ p) (S0 g) [] 0 = (S', ls', (cat ls').length)) (hr : Rep runF (S0 g) ls' S')
    (hp : cat ls' <+: cat ls ++ p) : ∃ D', openF runF ⟨false, -1, 200000, (cat ls ++ p).length, cat ls ++ p⟩ g = ⟨0, D', S', ls'⟩ ∧ Good g D' S' ls' := by
  unfold openF
  rw [hg]
  simp only [if_true, Bool.false_eq_true, if_false]
  rw [hloop]
  unfold openEnd
  simp only
  have hle := hp.length_le
  have htk : (cat ls ++ p).take (cat ls').length = cat ls' := by
    obtain ⟨q, hq⟩ := hp
    rw [← hq]; simp
  by_cases hlt : (cat ls').length < (cat ls ++ p).length
  · rw [if_pos hlt]
    have hc : cutF ⟨false, -1, 200000, (cat ls ++ p).length, cat ls ++ p⟩ (((cat ls').length : Nat) : Int) = (0, ⟨false, -1, 200000, (cat ls').length, cat ls'⟩) := by
      unfold cutF
      rw [if_neg (by simp only; omega)]
      simp [onF, htk]
    rw [hc]
    simp only [if_true]
    exact ⟨_, rfl, hr, rfl, rfl, rfl, rfl⟩
  · rw [if_neg hlt]
    have : cat ls' = cat ls ++ p := hp.eq_of_length (by omega)
    rw [← this]
    exact ⟨_, rfl, hr, rfl, rfl, rfl, rfl⟩
end Go.Proofs.YthdkamnclbfehaaGreatDoor
