/- Arguments of a law, opened: slices of structs, strings, numbers. -/
import Derived.Test.YtkkjonkcjlnohaaGreatDoorSM6
import Derived.Deep.Slices

/- Arguments of a law, opened: slices of structs, strings, numbers. -/
namespace Go.Proofs.YtkkjonkcjlnohaaGreatDoor
set_option linter.unusedSimpArgs false
set_option linter.unusedVariables false
set_option linter.unnecessarySimpa false
open Go Go.ChangeShapes Go.WideShapes Go.ChangeAt Go.WideMaps Go.WideElems Go.RowKit

theorem flatten_len {size : Nat} : ∀ (xss : List (List Value)), (∀ c ∈ xss, c.length = size) → xss.flatten.length = xss.length * size := by
  intro xss
  induction xss with
  | nil => intro _; simp
  | cons c cs ih =>
    intro h
    rw [List.flatten_cons, List.length_append, ih (fun x hx => h x (List.mem_cons_of_mem _ hx)), h c (List.mem_cons_self ..), List.length_cons, Nat.add_mul]
    omega
theorem flatten_at {size : Nat} (h0 : 0 < size) : ∀ (xss : List (List Value)), (∀ c ∈ xss, c.length = size) → ∀ (j : Nat) (u : Value), xss.flatten[j]? = some u → ∃ i r c, j = i * size + r ∧ r < size ∧ xss[i]? = some c ∧ c[r]? = some u := by
  intro xss
  induction xss with
  | nil => intro _ j u h; simp at h
  | cons c cs ih =>
    intro hc j u h
    have hcl := hc c (List.mem_cons_self ..)
    rw [List.flatten_cons] at h
    by_cases hj : j < size
    · rw [List.getElem?_append_left (by omega)] at h
      exact ⟨0, j, c, by omega, hj, rfl, h⟩
    · rw [List.getElem?_append_right (by omega), hcl] at h
      obtain ⟨i, r, c', e, hr, h1, h2⟩ := ih (fun x hx => hc x (List.mem_cons_of_mem _ hx)) _ u h
      exact ⟨i + 1, r, c', by rw [Nat.add_mul]; omega, hr, by simpa using h1, h2⟩

theorem weights_all {H : Type} {e : TypeId} {n : Nat} : ∀ (l : List (DataW H)) (d : DataW H), d ∈ l → n ∈ d.weights Tryz.prog e → n ∈ DataW.weightsAll Tryz.prog e l := by
  intro l
  induction l with
  | nil => intro d h; cases h
  | cons a l ih =>
    intro d h hn
    unfold DataW.weightsAll
    rcases List.mem_cons.1 h with rfl | h
    · exact List.mem_append_left _ hn
    · exact List.mem_append_right _ (ih d h hn)
set_option maxRecDepth 100000 in
theorem rd_arg {H : Type} {enc : TypeId × Value → H} {W : World} {base size : Nat} {t e : TypeId} {v : Value} {d : DataW H} {ps : List MemPlace} (ht : Tryz.prog.underlying t = some (.slice e)) (hc : Tryz.prog.cellsOf e = size) (h0 : 0 < size)
    (hval : Value.okWide Tryz.prog W .any base t v) (h : DataW.Trod enc Tryz.prog W 0 (fun _ => true) true t v d ps) (hwt : ∀ n ∈ d.weights Tryz.prog t, n ≤ reachBytes) (G : List Value → Prop)
    (hG : ∀ n cs y, DataW.trod enc Tryz.prog W 0 (fun _ => true) true n e cs = some y → cs.length = size → (∀ m ∈ y.1.weights Tryz.prog e, m ≤ reachBytes) → G cs ∧ ∀ u ∈ cs, u.oneCell' = true) :
    ∃ xss : List (List Value), (∀ c ∈ xss, G c) ∧ xss.length ≤ maxLen ∧ Rd W size v xss.length xss.flatten := by
  obtain ⟨ao, len, cap, rfl⟩ := okWide_slice ht hval
  obtain ⟨fuel, hf⟩ := h
  have hs : ∀ a, ao = some a → a.spot = none := fun a e => by
    subst e
    simp only [Value.okWide, ht, Cell.okWide, Cell.ok] at hval
    exact hval.2.2.2.1
  rcases Deep.open_slice ht hf with ⟨hcs, _⟩ | ⟨a, len', cap', m, n, D, Pl, hcs, _, hl, hm, hmm, hx, hel⟩
  · simp [Value.cells] at hcs
    obtain ⟨rfl, rfl, rfl⟩ := hcs
    exact ⟨[], (fun c hc => absurd hc (List.not_mem_nil)), Nat.zero_le _, Rd.nil _ _⟩
  · simp [Value.cells] at hcs
    obtain ⟨rfl, rfl, rfl⟩ := hcs
    simp only [if_true] at hmm
    rw [hc] at hel
    obtain ⟨b, o, sp⟩ := a
    obtain rfl : sp = none := hs _ rfl
    have hfi : ∀ i, i < len → ∃ cs', W.cells? 0 ((⟨b, o, none⟩ : Addr).add (i * size)) size = some cs' ∧ cs'.length = size ∧ (G cs' ∧ ∀ u ∈ cs', u.oneCell' = true) ∧ ∀ r, r < size → W.cell? ⟨b, o + (i * size + r), none⟩ = cs'[r]? := fun i hi => by
      obtain ⟨cs', h1, h2⟩ := hel i (by omega)
      obtain ⟨_, h3, h4⟩ := World.cells?_some h1
      have hd : d = .slice ((List.range len).map D) ((List.range (m - len)).map fun j => D (len + j)) := (Prod.mk.inj hx).1
      have hw : ∀ k ∈ (D i).weights Tryz.prog e, k ≤ reachBytes := fun k hk => hwt k (by
        rw [hd]
        unfold DataW.weights
        rw [ht]
        exact List.mem_cons_of_mem _ (List.mem_append_left _ (weights_all _ (D i) (List.mem_map.2 ⟨i, List.mem_range.2 hi, rfl⟩) hk)))
      refine ⟨cs', h1, h3, hG _ _ _ h2 h3 hw, fun r hr => ?_⟩
      rw [← h4 r hr, add_lit, add_lit, Nat.add_assoc]
    obtain ⟨f, hf'⟩ : ∃ f : Nat → List Value, ∀ i, i < len → (f i).length = size ∧ (G (f i) ∧ ∀ u ∈ f i, u.oneCell' = true) ∧ ∀ r, r < size → W.cell? ⟨b, o + (i * size + r), none⟩ = (f i)[r]? :=
      ⟨fun i => (W.cells? 0 ((⟨b, o, none⟩ : Addr).add (i * size)) size).getD [], fun i hi => by
        obtain ⟨cs', h1, h2, h3, h4⟩ := hfi i hi
        simp only [h1, Option.getD_some]
        exact ⟨h2, h3, h4⟩⟩
    have hmem : ∀ c ∈ (List.range len).map f, ∃ i, i < len ∧ f i = c := fun c hc' => by
      obtain ⟨i, hi, e⟩ := List.mem_map.1 hc'
      exact ⟨i, List.mem_range.1 hi, e⟩
    have hlen : ∀ c ∈ (List.range len).map f, c.length = size := fun c hc' => by
      obtain ⟨i, hi, rfl⟩ := hmem c hc'
      exact (hf' i hi).1
    have hll : ((List.range len).map f).length = len := by simp
    refine ⟨(List.range len).map f, fun c hc' => ?_, by rw [hll]; omega, ?_⟩
    · obtain ⟨i, hi, rfl⟩ := hmem c hc'
      exact (hf' i hi).2.1.1
    · refine ⟨flatten_len _ hlen, fun u hu => ?_, .inr ⟨b, o, cap, by rw [hll], by rw [hll]; exact hl, by omega, fun j u hu => ?_⟩⟩
      · obtain ⟨c, hc', hu'⟩ := List.mem_flatten.1 hu
        obtain ⟨i, hi, rfl⟩ := hmem c hc'
        exact (hf' i hi).2.1.2 u hu'
      · obtain ⟨i, r, c, rfl, hr, h1, h2⟩ := flatten_at h0 _ hlen j u hu
        have hi : i < len := by
          have := (List.getElem?_eq_some_iff.1 h1).1
          rwa [hll] at this
        have hci : f i = c := by
          rw [List.getElem?_map, List.getElem?_range hi] at h1
          exact Option.some.inj h1
        rw [(hf' i hi).2.2 r hr, hci]
        exact h2
/-- A list of rows that each come of something. -/
theorem map_of {A : Type} (f : A → List Value) (P : A → Prop) : ∀ (xss : List (List Value)), (∀ c ∈ xss, ∃ a, c = f a ∧ P a) → ∃ l : List A, xss = l.map f ∧ ∀ a ∈ l, P a := by
  intro xss
  induction xss with
  | nil => intro _; exact ⟨[], rfl, (fun a ha => absurd ha (List.not_mem_nil))⟩
  | cons c cs ih =>
    intro h
    obtain ⟨a, rfl, ha⟩ := h c (List.mem_cons_self ..)
    obtain ⟨l, rfl, hl⟩ := ih (fun x hx => h x (List.mem_cons_of_mem _ hx))
    exact ⟨a :: l, rfl, fun x hx => by
      rcases List.mem_cons.1 hx with rfl | hx
      · exact ha
      · exact hl x hx⟩
end Go.Proofs.YtkkjonkcjlnohaaGreatDoor
