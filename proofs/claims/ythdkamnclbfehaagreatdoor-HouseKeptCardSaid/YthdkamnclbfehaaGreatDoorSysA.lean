/- What the commands keep of a state; the system of commands. -/
import Derived.Test.YthdkamnclbfehaaGreatDoorRep
namespace Go.Proofs.YthdkamnclbfehaaGreatDoor
set_option linter.unusedSimpArgs false
set_option linter.unusedVariables false
set_option linter.unnecessarySimpa false
open Go.RowKit

theorem size_bs (l : List UInt8) : (bs l).size = l.length := by simp [bs, ByteArray.size]
theorem touchNote_size {i j : Int} (hi : i64b i) (hj : i64b j) : (touchNote i j).size ≤ 100 := by
  have h1 := itoaB_size i hi.1 hi.2
  have h2 := itoaB_size j hj.1 hj.2
  unfold touchNote
  simp only [ByteArray.size_append, size_bs, List.length_cons, List.length_nil]
  omega
theorem testNote_size {i : Int} {w : ByteArray} (hi : i64b i) (hw : w.size ≤ 10) : (testNote i w).size ≤ 100 := by
  have h1 := itoaB_size i hi.1 hi.2
  unfold testNote
  simp only [ByteArray.size_append, size_bs, List.length_cons, List.length_nil]
  omega
theorem Inv.touch {k : Nat} {S : St} {i j : Int} (h : Inv k S) (hi : i64b i) (hj : i64b j) {c n : Nat} (hc : S.contacts.length ≤ c) (hn : S.notes.length ≤ n) :
    (touchS S i j).contacts.length ≤ c + 1 ∧ (touchS S i j).notes.length ≤ n + 1 ∧ ∀ x ∈ (touchS S i j).notes, x.size ≤ 100 := by
  refine ⟨by simp [touchS]; omega, by simp [touchS]; omega, fun x hx => ?_⟩
  simp only [touchS, List.mem_append, List.mem_singleton] at hx
  rcases hx with e | e
  · exact h.no x e
  · rw [e]; exact touchNote_size hi hj
theorem wrap_i64b (x : Int) : i64b (wrap64 x) := by unfold i64b wrap64; omega
theorem Lot.ok_set {l : List Lot} (h : ∀ x ∈ l, x.ok) {i : Nat} {y : Lot} (hy : y.ok) : ∀ x ∈ l.set i y, x.ok := fun x hx => (List.mem_or_eq_of_mem_set hx).elim (h x) (fun e => e ▸ hy)
theorem numB.b {n : Int} (h : numB n) : i64b n := ⟨by have := h.1; omega, h.2⟩

theorem inv_next {k : Nat} {S : St} (h : Inv k S) {line : ByteArray} (he : (doF runF S line).err = 0) : Inv (k + 1) (doF runF S line).st := by
  unfold doF at he ⊢
  cases hf : formF line with
  | none => rw [hf] at he; cases he
  | some x =>
    obtain ⟨so, f, a⟩ := x
    rw [hf] at he
    simp only at he ⊢
    cases hok : a.ok with
    | false => rw [hok] at he; cases he
    | true =>
      rw [hok] at he
      simp only [if_true] at he ⊢
      have hs := said_of hf hok
      by_cases hz : (runF f S a).err = 0
      · rw [if_pos hz]
        clear he
        cases hs with
        | take e n w ha hn hw =>
          subst e ha
          change (takeF S ⟨[n], w, true⟩).err = 0 at hz
          change Inv (k + 1) (takeF S ⟨[n], w, true⟩).st
          unfold takeF at hz ⊢
          by_cases h1 : S.lots.length = 20
          · rw [if_pos h1] at hz; cases hz
          rw [if_neg h1] at hz ⊢
          by_cases h2 : (FA.mk [n] w true).n.headD 0 = 0
          · rw [if_pos h2] at hz; cases hz
          rw [if_neg h2]
          refine ⟨h.b, by have := h.l; simp [addS]; omega, by have := h.c; simp only [addS]; omega, by have := h.t; simp only [addS]; omega, by have := h.n; simp only [addS]; omega, fun x hx => ?_, h.no⟩
          simp only [addS, List.mem_append, List.mem_singleton] at hx
          rcases hx with e | e
          · exact h.lo x e
          · rw [e]; exact ⟨hw, hn.b, by simp⟩
        | blend e i j q ha hi hj hq =>
          subst e ha
          change (blendF S ⟨[i, j, q], bs [], true⟩).err = 0 at hz
          change Inv (k + 1) (blendF S ⟨[i, j, q], bs [], true⟩).st
          unfold blendF at hz ⊢
          simp only [List.getD_cons_zero, List.getD_cons_succ] at hz ⊢
          by_cases h1 : S.lots.length = 20
          · rw [if_pos h1] at hz; cases hz
          rw [if_neg h1] at hz ⊢
          by_cases h2 : allLots S [i, j] = true
          · rw [if_pos h2] at hz ⊢
            by_cases h3 : i = j ∨ q = 0
            · rw [if_pos h3] at hz; cases hz
            rw [if_neg h3] at hz ⊢
            cases hx : S.lots[(i - 1).toNat]? with
            | none => rw [hx] at hz; cases hz
            | some x =>
              cases hy : S.lots[(j - 1).toNat]? with
              | none => rw [hx, hy] at hz; cases hz
              | some y =>
                rw [hx, hy] at hz
                simp only at hz ⊢
                by_cases h4 : (x.closed || (y.closed || decide (min x.grams y.grams < q))) = true
                · rw [if_pos h4] at hz; cases hz
                rw [if_neg h4]
                have hxo := h.lo x (List.mem_of_getElem? hx)
                have hyo := h.lo y (List.mem_of_getElem? hy)
                have hL : i64b ((S.lots.length : Int) + 1) := by have := h.l; unfold i64b; omega
                have hc := h.c
                have hn := h.n
                refine ⟨h.b, ?_, ?_, by have := h.t; show S.tests.length ≤ k + 1; omega, ?_, ?_, ?_⟩
                · have := h.l
                  simp [blendT, touchS, addS, blendS]; omega
                · simp [blendT, touchS, addS, blendS]; omega
                · simp [blendT, touchS, addS, blendS]; omega
                · intro z hz'
                  simp only [blendT, touchS, addS, List.mem_append, List.mem_singleton] at hz'
                  rcases hz' with e | e
                  · exact Lot.ok_set (y := { y with grams := wrap64 (y.grams - q) }) (Lot.ok_set (y := { x with grams := wrap64 (x.grams - q) }) h.lo ⟨hxo.s, wrap_i64b _, hxo.b⟩) ⟨hyo.s, wrap_i64b _, hyo.b⟩ z e
                  · rw [e]; exact ⟨by simp only [size_bs]; decide, wrap_i64b _, by simp⟩
                · intro z hz'
                  simp only [blendT, touchS, addS, blendS, List.mem_append, List.mem_singleton] at hz'
                  rcases hz' with (e | e) | e
                  · exact h.no z e
                  · rw [e]; exact touchNote_size hL hi.b
                  · rw [e]; exact touchNote_size hL hj.b
          · rw [if_neg h2] at hz; cases hz
        | put e i b ha hi hb =>
          subst e ha
          change (putF S ⟨[i, b], bs [], true⟩).err = 0 at hz
          change Inv (k + 1) (putF S ⟨[i, b], bs [], true⟩).st
          unfold putF at hz ⊢
          simp only [List.getD_cons_zero, List.getD_cons_succ] at hz ⊢
          by_cases h1 : hasLot S i = true
          · rw [if_pos h1] at hz ⊢
            by_cases h2 : 7 < b
            · rw [if_pos h2] at hz; cases hz
            rw [if_neg h2] at hz ⊢
            cases hx : S.lots[(i - 1).toNat]? with
            | none => rw [hx] at hz; cases hz
            | some x =>
              rw [hx] at hz
              simp only at hz ⊢
              by_cases h3 : x.closed = true
              · rw [if_pos h3] at hz; cases hz
              rw [if_neg h3] at hz ⊢
              by_cases h4 : (List.range S.lots.length).any (clashAt S i b x) = true
              · rw [if_pos h4] at hz; cases hz
              rw [if_neg h4]
              have hxo := h.lo x (List.mem_of_getElem? hx)
              exact ⟨h.b, by have := h.l; simp; omega, by have := h.c; simp only; omega, by have := h.t; simp only; omega, by have := h.n; simp only; omega, Lot.ok_set h.lo ⟨hxo.s, hxo.g, by have := hb.1; simp only; omega⟩, h.no⟩
          · rw [if_neg h1] at hz; cases hz
        | touch e i j ha hi hj =>
          subst e ha
          change (touchF S ⟨[i, j], bs [], true⟩).err = 0 at hz
          change Inv (k + 1) (touchF S ⟨[i, j], bs [], true⟩).st
          unfold touchF at hz ⊢
          simp only [List.getD_cons_zero, List.getD_cons_succ] at hz ⊢
          by_cases h1 : allLots S [i, j] = true
          · rw [if_pos h1] at hz ⊢
            by_cases h2 : i = j
            · rw [if_pos h2] at hz; cases hz
            rw [if_neg h2]
            obtain ⟨t1, t2, t3⟩ := h.touch hi.b hj.b h.c h.n
            exact ⟨h.b, h.l, by simp only; omega, by have := h.t; show S.tests.length ≤ k + 1; omega, by simp only; omega, h.lo, t3⟩
          · rw [if_neg h1] at hz; cases hz
        | test e i w ha hi hw =>
          subst e ha
          change (testF S ⟨[i], w, true⟩).err = 0 at hz
          change Inv (k + 1) (testF S ⟨[i], w, true⟩).st
          unfold testF at hz ⊢
          simp only [List.getD_cons_zero, List.getD_cons_succ] at hz ⊢
          have hwz : w.size ≤ 10 := by rcases hw with e | e <;> rw [e] <;> simp [goodB, badBs, bs, ByteArray.size]
          have hT : ∀ g, Inv (k + 1) (testS S i g w) := fun g => ⟨h.b, h.l, by have := h.c; show S.contacts.length ≤ _; omega, by have := h.t; simp [testS]; omega, by have := h.n; simp [testS]; omega, h.lo, fun x hx => by
            simp only [testS, List.mem_append, List.mem_singleton] at hx
            rcases hx with e | e
            · exact h.no x e
            · rw [e]; exact testNote_size hi.b hwz⟩
          by_cases h1 : hasLot S i = true
          · rw [if_pos h1]
            split
            · exact hT 1
            · exact hT 0
          · rw [if_neg h1] at hz; cases hz
        | close e i ha hi =>
          subst e ha
          change (shutF S ⟨[i], bs [], true⟩).err = 0 at hz
          change Inv (k + 1) (shutF S ⟨[i], bs [], true⟩).st
          unfold shutF at hz ⊢
          simp only [List.getD_cons_zero, List.getD_cons_succ] at hz ⊢
          by_cases h1 : hasLot S i = true
          · rw [if_pos h1] at hz ⊢
            cases hx : S.lots[(i - 1).toNat]? with
            | none => rw [hx] at hz; cases hz
            | some x =>
              rw [hx] at hz
              simp only at hz ⊢
              by_cases h3 : x.closed = true
              · rw [if_pos h3] at hz; cases hz
              rw [if_neg h3]
              have hxo := h.lo x (List.mem_of_getElem? hx)
              exact ⟨h.b, by have := h.l; simp; omega, by have := h.c; simp only; omega, by have := h.t; simp only; omega, by have := h.n; simp only; omega, Lot.ok_set h.lo ⟨hxo.s, hxo.g, by simp⟩, h.no⟩
          · rw [if_neg h1] at hz; cases hz
      · rw [if_neg hz] at he; exact absurd he hz
theorem sys_all {n K : Nat} (hK : K ≤ 1000000) : Sys runF Inv n K :=
  ⟨fun k S line hk h _ => run_ok h (by omega) line, fun k S hk h => h.small (by omega), fun k S line hk h _ he => inv_next h he⟩
theorem inv_S0 {g : List Int} (h : g.length = 8) : Inv 0 (S0 g) := ⟨h, by simp [S0], by simp [S0], by simp [S0], by simp [S0], by simp [S0], by simp [S0]⟩
theorem baysB_8 {g : List Int} (h : baysB g = true) : g.length = 8 := by
  unfold baysB at h
  simp only [Bool.and_eq_true, decide_eq_true_eq, beq_iff_eq] at h
  first | exact h.2 | exact h.1 | omega
theorem rep_inv {g : List Int} (hg : g.length = 8) {S : St} {ls : List ByteArray} (h : Rep runF (S0 g) ls S) : Inv ls.length S := by
  suffices ∀ S0 k, Inv k S0 → Rep runF S0 ls S → Inv (k + ls.length) S by have := this _ 0 (inv_S0 hg) h; rwa [Nat.zero_add] at this
  clear h
  induction ls with
  | nil => intro S0 k hI h; cases h; exact hI
  | cons s ls ih =>
    intro S0 k hI h
    cases h with
    | cons he t =>
      have := ih _ _ (inv_next hI he) t
      rwa [show k + (s :: ls).length = k + 1 + ls.length by simp; omega]
end Go.Proofs.YthdkamnclbfehaaGreatDoor
