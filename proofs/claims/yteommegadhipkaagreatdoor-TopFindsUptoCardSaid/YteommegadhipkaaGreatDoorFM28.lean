/- The index of a label as plain functions: the order of the suffixes, the bytes before them, the tree of ranks, and where a pattern is found. No Go function stands here. -/
import Derived.WalkKit
import Derived.Sort.AssemblyPlain
import Derived.Lib.Bytealg

/- The index of a label as plain functions: the order of the suffixes, the bytes before them, the tree of ranks, and where a pattern is found. No Go function stands here. -/
namespace Go.Proofs.YteommegadhipkaaGreatDoor
set_option linter.unusedSimpArgs false
set_option linter.unusedVariables false
set_option linter.unnecessarySimpa false
open Go.RowKit

/-! ### comparing bytes is a strict weak order -/
theorem cmpB_refl : ∀ a : List UInt8, Lib.compareBytes a a = 0
  | [] => rfl
  | a :: as => by unfold Lib.compareBytes; simp [UInt8.lt_irrefl, cmpB_refl as]
theorem cmpB_cons_lt {a b : UInt8} {as bs : List UInt8} : Lib.compareBytes (a :: as) (b :: bs) < 0 ↔ a < b ∨ a = b ∧ Lib.compareBytes as bs < 0 := by
  rw [Lib.compareBytes]
  by_cases h : a < b
  · simp [h]
  · by_cases h2 : b < a
    · simp [h, h2]
      intro e; subst e; exact absurd h2 (UInt8.lt_irrefl _)
    · have e : a = b := UInt8.le_antisymm (UInt8.not_lt.1 h2) (UInt8.not_lt.1 h)
      simp [h, h2, e]
theorem cmpB_trans : ∀ a b c : List UInt8, Lib.compareBytes a b < 0 → Lib.compareBytes b c < 0 → Lib.compareBytes a c < 0
  | [], [], _, h, _ => by simp [Lib.compareBytes] at h
  | _ :: _, [], _, h, _ => by simp [Lib.compareBytes] at h
  | _, _ :: _, [], _, h => by simp [Lib.compareBytes] at h
  | [], _ :: _, _ :: _, _, _ => by simp [Lib.compareBytes]
  | a :: as, b :: bs, c :: cs, h1, h2 => by
    rw [cmpB_cons_lt] at *
    rcases h1 with h1 | ⟨rfl, h1⟩
    · rcases h2 with h2 | ⟨rfl, h2⟩
      · exact .inl (UInt8.lt_trans h1 h2)
      · exact .inl h1
    · rcases h2 with h2 | ⟨rfl, h2⟩
      · exact .inl h2
      · exact .inr ⟨rfl, cmpB_trans _ _ _ h1 h2⟩
theorem cmpB_ntrans : ∀ a b c : List UInt8, ¬ Lib.compareBytes a b < 0 → ¬ Lib.compareBytes b c < 0 → ¬ Lib.compareBytes a c < 0
  | _, [], [], h, _ => h
  | [], [], _ :: _, _, h => by simp [Lib.compareBytes] at h
  | [], _ :: _, _, h, _ => by simp [Lib.compareBytes] at h
  | _ :: _, [], _ :: _, _, h => by simp [Lib.compareBytes] at h
  | _ :: _, _ :: _, [], _, _ => by simp [Lib.compareBytes]
  | a :: as, b :: bs, c :: cs, h1, h2 => by
    rw [cmpB_cons_lt] at *
    rintro (h | ⟨rfl, h⟩)
    · have hab : ¬ a < b := fun q => h1 (.inl q)
      have hbc : ¬ b < c := fun q => h2 (.inl q)
      exact hbc (UInt8.lt_of_le_of_lt (UInt8.not_lt.1 hab) h)
    · by_cases hab : a = b
      · subst hab
        have h1' : ¬ Lib.compareBytes as bs < 0 := fun q => h1 (.inr ⟨rfl, q⟩)
        have h2' : ¬ Lib.compareBytes bs cs < 0 := fun q => h2 (.inr ⟨rfl, q⟩)
        exact cmpB_ntrans _ _ _ h1' h2' h
      · have hab' : ¬ a < b := fun q => h1 (.inl q)
        have hbc : ¬ b < a := fun q => h2 (.inl q)
        exact hab (UInt8.le_antisymm (UInt8.not_lt.1 hbc) (UInt8.not_lt.1 hab'))

/-! ### the suffix array -/
def sufC (l : List UInt8) (x y : Fin (l.length + 1)) : Int := Lib.compareBytes (l.drop x.val) (l.drop y.val)
def sufLt (l : List UInt8) (x y : Fin (l.length + 1)) : Bool := decide (sufC l x y < 0)
theorem sufLt_swo (l : List UInt8) : Sort.SWO (sufLt l) where
  irrefl x := by simp [sufLt, sufC, cmpB_refl]
  trans x y z h1 h2 := by
    have h1' := of_decide_eq_true h1
    have h2' := of_decide_eq_true h2
    exact decide_eq_true (cmpB_trans _ _ _ h1' h2')
  ntrans x y z h1 h2 := by
    have h1' := of_decide_eq_false h1
    have h2' := of_decide_eq_false h2
    exact decide_eq_false (cmpB_ntrans _ _ _ h1' h2')
def allF (l : List UInt8) : Array (Fin (l.length + 1)) := Array.ofFn id
/-- The suffixes' places in order (n: what the sort takes for its limit). -/
def sufA (l : List UInt8) (n : Nat) : Array (Fin (l.length + 1)) := Sort.pdq (sufLt l) (allF l) 0 (allF l).size n true true
def sufL (l : List UInt8) (n : Nat) : List Nat := (sufA l n).toList.map Fin.val
theorem allF_size (l : List UInt8) : (allF l).size = l.length + 1 := by simp [allF]
theorem sufA_perm (l : List UInt8) (n : Nat) : (sufA l n).size = l.length + 1 ∧ (sufA l n).toList.Perm (allF l).toList := by
  have h := (Sort.pdq_sorts (sufLt l) (sufLt_swo l) (allF l) 0 (allF l).size n true true (Nat.zero_le _) (Nat.le_refl _) (Or.inl rfl)).1
  obtain ⟨h1, _, h3⟩ := h
  have e1 : (sufA l n).size = (allF l).size := h1
  refine ⟨by rw [e1, allF_size], ?_⟩
  have e2 : ((sufA l n).extract 0 (allF l).size).toList = (sufA l n).toList := by rw [← e1]; simp
  have e3 : ((allF l).extract 0 (allF l).size).toList = (allF l).toList := by simp
  have h4 : ((sufA l n).extract 0 (allF l).size).toList.Perm ((allF l).extract 0 (allF l).size).toList := h3
  rw [e2, e3] at h4
  exact h4
theorem allF_val (l : List UInt8) : (allF l).toList.map Fin.val = List.range (l.length + 1) := by
  apply List.ext_getElem
  · simp [allF]
  · intro i h1 h2
    rw [List.getElem_map, Array.getElem_toList]
    unfold allF
    rw [Array.getElem_ofFn]
    simp
theorem sufL_perm (l : List UInt8) (n : Nat) : (sufL l n).Perm (List.range (l.length + 1)) := by
  rw [← allF_val]
  exact (sufA_perm l n).2.map _
theorem sufL_length (l : List UInt8) (n : Nat) : (sufL l n).length = l.length + 1 := by
  rw [(sufL_perm l n).length_eq, List.length_range]
theorem sufL_le (l : List UInt8) (n : Nat) : ∀ i ∈ sufL l n, i ≤ l.length := fun i h => by
  have := (sufL_perm l n).mem_iff.1 h
  rw [List.mem_range] at this
  omega

/-! ### the transform -/
def befB (l : List UInt8) (i : Nat) : UInt8 := if i = 0 then 10 else l.getD (i - 1) 0
def trF (l : List UInt8) (n : Nat) : List UInt8 := (sufL l n).map (befB l)
theorem trF_length (l : List UInt8) (n : Nat) : (trF l n).length = l.length + 1 := by rw [trF, List.length_map, sufL_length]
theorem range_bef (l : List UInt8) : (List.range (l.length + 1)).map (befB l) = 10 :: l := by
  apply List.ext_getElem
  · simp
  · intro i h1 h2
    cases i with
    | zero => simp [befB]
    | succ i =>
      have : i < l.length := by simpa using h2
      simp [befB, List.getD, this]
theorem trF_perm (l : List UInt8) (n : Nat) : (trF l n).Perm (10 :: l) := by
  rw [← range_bef]
  exact (sufL_perm l n).map _
theorem trF_count (l : List UInt8) (n : Nat) (c : UInt8) (hc : c ≠ 10) : (trF l n).count c = l.count c := by
  rw [(trF_perm l n).count_eq, List.count_cons]
  have : (10 == c) = false := by simpa using fun h => hc h.symm
  simp [this]

/-! ### the tree -/
inductive WT where
  | leaf (al : List UInt8)
  | node (al : List UInt8) (ones : List Nat) (lo hi : WT)
def WT.al : WT → List UInt8
  | .leaf al => al
  | .node al _ _ _ => al
def WT.ones : WT → List Nat
  | .leaf _ => [0]
  | .node _ o _ _ => o
/-- How many of the first i are at least p, for each i. -/
def onesP (p : UInt8) (s : List UInt8) : List Nat := (List.range (s.length + 1)).map fun i => (s.take i).countP (fun c => decide (p ≤ c))
def halfN (al : List UInt8) : Nat := (al.length + 1) / 2
def growF (s al : List UInt8) : WT :=
  if h : al.length < 2 then .leaf al
  else .node al (onesP (al.getD (halfN al) 0) s) (growF (s.filter fun c => !decide (al.getD (halfN al) 0 ≤ c)) (al.take (halfN al))) (growF (s.filter fun c => decide (al.getD (halfN al) 0 ≤ c)) (al.drop (halfN al)))
termination_by al.length
decreasing_by
  · rw [List.length_take]; unfold halfN; omega
  · rw [List.length_drop]; unfold halfN; omega
theorem growF_al (s al : List UInt8) : (growF s al).al = al := by
  rw [growF]; split <;> rfl
def rankL : WT → UInt8 → Nat → Nat
  | .leaf _, _, i => i
  | .node _ o lo hi, c, i => if c ∈ hi.al then rankL hi c (o.getD i 0) else rankL lo c (i - o.getD i 0)
def rankF (t : WT) (c : UInt8) (i : Nat) : Nat := if c ∈ t.al then rankL t c i else 0
theorem onesP_length (p : UInt8) (s : List UInt8) : (onesP p s).length = s.length + 1 := by simp [onesP]
theorem onesP_get (p : UInt8) (s : List UInt8) (i : Nat) (h : i ≤ s.length) : (onesP p s).getD i 0 = (s.take i).countP (fun c => decide (p ≤ c)) := by
  have : i < s.length + 1 := by omega
  simp [onesP, List.getD, this]
theorem onesP_le (p : UInt8) (s : List UInt8) (i : Nat) (h : i ≤ s.length) : (onesP p s).getD i 0 ≤ i := by
  rw [onesP_get p s i h]
  exact Nat.le_trans List.countP_le_length (by simp; omega)
theorem take_filter (q : UInt8 → Bool) : ∀ (s : List UInt8) (i : Nat), (s.filter q).take ((s.take i).countP q) = (s.take i).filter q
  | [], i => by simp
  | x :: s, 0 => by simp
  | x :: s, i + 1 => by
    by_cases h : q x = true
    · simp [h, take_filter q s i]
    · simp [h, take_filter q s i]
theorem countP_not (q : UInt8 → Bool) (s : List UInt8) : s.countP (fun c => !q c) = s.length - s.countP q := by
  have h : s.length = s.countP q + s.countP (fun a => ¬ q a) := List.length_eq_countP_add_countP (p := q) (l := s)
  have e : s.countP (fun a => ¬ q a) = s.countP (fun c => !q c) := by congr 1; funext c; cases q c <;> rfl
  rw [e] at h
  omega
/-- The rank is the number of a byte among the first ones. -/
theorem rankL_count : ∀ (k : Nat) (s al : List UInt8) (c : UInt8) (i : Nat), al.length ≤ k → al.Pairwise (· < ·) → (∀ x ∈ s, x ∈ al) → c ∈ al → i ≤ s.length → rankL (growF s al) c i = (s.take i).count c := by
  intro k
  induction k with
  | zero => intro s al c i hk _ _ hc _; rw [List.eq_nil_of_length_eq_zero (Nat.le_zero.1 hk)] at hc; cases hc
  | succ k ih =>
    intro s al c i hk hp hs hc hi
    rw [growF]
    by_cases h2 : al.length < 2
    · rw [dif_pos h2]
      simp only [rankL]
      have e : al = [c] := by
        match al, hc, h2 with
        | [x], hc, _ => simp at hc; rw [hc]
      have : ∀ x ∈ s.take i, x = c := fun x hx => by
        have := hs x (List.mem_of_mem_take hx)
        rw [e] at this; simpa using this
      rw [List.eq_replicate_of_mem this, List.count_replicate_self, List.length_take]
      omega
    · rw [dif_neg h2]
      simp only [rankL, growF_al]
      have hh1 : halfN al < al.length := by unfold halfN; omega
      have hh0 : 1 ≤ halfN al := by unfold halfN; omega
      obtain ⟨p, hpe⟩ : ∃ p, al.getD (halfN al) 0 = p := ⟨_, rfl⟩
      have hpg : al[halfN al] = p := by rw [← hpe]; simp [List.getD, hh1]
      rw [hpe]
      have hsplit : al.take (halfN al) ++ al.drop (halfN al) = al := List.take_append_drop _ _
      have hpd : al.drop (halfN al) = p :: al.drop (halfN al + 1) := by rw [List.drop_eq_getElem_cons hh1, hpg]
      have hpp := hp
      rw [← hsplit, List.pairwise_append] at hpp
      obtain ⟨hpt, hpdr, hcross⟩ := hpp
      have hlow : ∀ x ∈ al.take (halfN al), x < p := fun x hx => hcross x hx p (by rw [hpd]; simp)
      have hhigh : ∀ x ∈ al.drop (halfN al), p ≤ x := fun x hx => by
        rw [hpd] at hx hpdr
        rcases List.mem_cons.1 hx with rfl | hx
        · exact UInt8.le_refl _
        · exact UInt8.le_of_lt ((List.pairwise_cons.1 hpdr).1 x hx)
      have hin : ∀ x ∈ al, (x ∈ al.drop (halfN al) ↔ p ≤ x) := fun x hx => by
        refine ⟨hhigh x, fun hpx => ?_⟩
        rw [← hsplit] at hx
        rcases List.mem_append.1 hx with h | h
        · exact absurd (hlow x h) (UInt8.not_lt.2 hpx)
        · exact h
      have hone := onesP_get p s i hi
      by_cases hcd : c ∈ al.drop (halfN al)
      · rw [if_pos hcd, hone]
        have hpc := (hin c hc).1 hcd
        have hm : ∀ x ∈ s.filter (fun x => decide (p ≤ x)), x ∈ al.drop (halfN al) := fun x hx => by
          obtain ⟨h1, h3⟩ := List.mem_filter.1 hx
          exact (hin x (hs x h1)).2 (by simpa using h3)
        have hlen : (s.take i).countP (fun c => decide (p ≤ c)) ≤ (s.filter fun x => decide (p ≤ x)).length := by
          rw [← List.countP_eq_length_filter]
          exact (List.take_sublist i s).countP_le
        rw [ih (s.filter fun x => decide (p ≤ x)) _ c _ (by rw [List.length_drop]; omega) hpdr hm hcd hlen, take_filter, List.count_filter (by simpa using hpc)]
      · rw [if_neg hcd, hone]
        have hpc : ¬ p ≤ c := fun h => hcd ((hin c hc).2 h)
        have hct : c ∈ al.take (halfN al) := by
          rw [← hsplit] at hc
          rcases List.mem_append.1 hc with h | h
          · exact h
          · exact absurd h hcd
        have ei : i - (s.take i).countP (fun c => decide (p ≤ c)) = (s.take i).countP (fun c => !decide (p ≤ c)) := by
          rw [countP_not, List.length_take, Nat.min_eq_left hi]
        have hm : ∀ x ∈ s.filter (fun x => !decide (p ≤ x)), x ∈ al.take (halfN al) := fun x hx => by
          obtain ⟨h1, h3⟩ := List.mem_filter.1 hx
          have hxa := hs x h1
          rw [← hsplit] at hxa
          rcases List.mem_append.1 hxa with h | h
          · exact h
          · exact absurd (hhigh x h) (by simpa using h3)
        have hlen : (s.take i).countP (fun c => !decide (p ≤ c)) ≤ (s.filter fun x => !decide (p ≤ x)).length := by
          rw [← List.countP_eq_length_filter]
          exact (List.take_sublist i s).countP_le
        rw [ei, ih (s.filter fun x => !decide (p ≤ x)) _ c _ (by rw [List.length_take]; omega) hpt hm hct hlen, take_filter, List.count_filter (by simpa using hpc)]
theorem rankF_count {s al : List UInt8} (hp : al.Pairwise (· < ·)) (hs : ∀ x ∈ s, x ∈ al) (c : UInt8) {i : Nat} (hi : i ≤ s.length) : rankF (growF s al) c i = (s.take i).count c := by
  unfold rankF
  rw [growF_al]
  by_cases h : c ∈ al
  · rw [if_pos h]; exact rankL_count _ s al c i (Nat.le_refl _) hp hs h hi
  · rw [if_neg h, List.count_eq_zero_of_not_mem]
    exact fun hm => h (hs c (List.mem_of_mem_take hm))

/-! ### where the suffixes that begin with a byte start, and where a pattern is found -/
def startF (l : List UInt8) (c : Nat) : Nat := 1 + l.countP (fun x => decide (x.toNat < c))
def befF (l : List UInt8) (n : Nat) (c : UInt8) (i : Nat) : Nat := startF l c.toNat + ((trF l n).take i).count c
/-- From the last byte on. -/
def findF (l : List UInt8) (n : Nat) : List UInt8 → Nat × Nat
  | [] => (0, l.length + 1)
  | c :: p => (befF l n c (findF l n p).1, befF l n c (findF l n p).2)
theorem startF_count (l : List UInt8) (c : UInt8) : startF l c.toNat + l.count c ≤ l.length + 1 := by
  unfold startF
  have h : ∀ l : List UInt8, l.countP (fun x => decide (x.toNat < c.toNat)) + l.count c ≤ l.length := by
    intro l
    induction l with
    | nil => simp
    | cons x l ih =>
      rw [List.countP_cons, List.count_cons, List.length_cons]
      by_cases hx : x = c
      · subst hx; simp; omega
      · have : (x == c) = false := by simpa using hx
        rw [this]
        split <;> simp <;> omega
  have := h l
  omega
theorem befF_le (l : List UInt8) (n : Nat) (c : UInt8) (i : Nat) (hc : c ≠ 10) : befF l n c i ≤ l.length + 1 := by
  unfold befF
  have h1 := startF_count l c
  have h2 : ((trF l n).take i).count c ≤ (trF l n).count c := (List.take_sublist _ _).count_le _
  rw [trF_count l n c hc] at h2
  omega
theorem findF_le (l : List UInt8) (n : Nat) : ∀ p : List UInt8, (∀ c ∈ p, c ≠ 10) → (findF l n p).1 ≤ l.length + 1 ∧ (findF l n p).2 ≤ l.length + 1
  | [], _ => ⟨Nat.zero_le _, Nat.le_refl _⟩
  | c :: p, h => ⟨befF_le l n c _ (h c (by simp)), befF_le l n c _ (h c (by simp))⟩
/-- What is located, not yet sorted. -/
def locR (l : List UInt8) (n : Nat) (p : List UInt8) : List Nat := ((sufL l n).take (max (findF l n p).1 (findF l n p).2)).drop (findF l n p).1
end Go.Proofs.YteommegadhipkaaGreatDoor
