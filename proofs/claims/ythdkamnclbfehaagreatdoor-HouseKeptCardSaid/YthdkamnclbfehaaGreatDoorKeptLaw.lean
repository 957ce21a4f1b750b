/- What Do of a house, then Crash of its disk and Open again, leave of its lines: plain Lean. -/
import Derived.Test.YthdkamnclbfehaaGreatDoorSysA
namespace Go.Proofs.YthdkamnclbfehaaGreatDoor
set_option linter.unusedSimpArgs false
set_option linter.unusedVariables false
set_option linter.unnecessarySimpa false
open Go.RowKit

/-- What Do of a line answers, and what its disk is opened as after a crash. -/
structure KStep (g : List Int) (ls : List ByteArray) (s : ByteArray) (r : HRes) : Prop where
  ls1 : r.err = 0 → r.ls = ls ++ [s]
  ls2 : r.err ≠ 0 → r.ls = ls
  len : r.ls.length ≤ ls.length + 1
  good : r.err ≠ 10 → r.lost = false ∧ Good g r.D r.st r.ls
  crash : ∀ k, ∃ D' S' ls', openF runF (crashF r.D k) g = ⟨0, D', S', ls'⟩ ∧ Good g D' S' ls' ∧ (ls' = r.ls ∨ r.err = 10 ∧ ls' = r.ls ++ [s]) ∧ ls'.length ≤ ls.length + 1
theorem good_fuse {g : List Int} {D : Dsk} {S : St} {ls : List ByteArray} (h : Good g D S ls) (k : Int) : Good g (fuseF D k) S ls := by
  have e : fuseF D k = { D with left := if k < 0 then -1 else k } := by unfold fuseF; rw [if_neg (by rw [h.off]; simp)]
  rw [e]
  exact ⟨h.rep, h.off, h.size, h.bytes, h.safe⟩
/-- A good disk crashes and opens as it was. -/
theorem good_crash {g : List Int} (hg : baysB g = true) {D : Dsk} {S : St} {ls : List ByteArray} (h : Good g D S ls) (k : Int) : ∃ D', openF runF (crashF D k) g = ⟨0, D', S, ls⟩ ∧ Good g D' S ls := by
  rw [crash_all (by rw [h.safe, h.bytes])]
  have e : ({ D with off := false, left := -1 } : Dsk) = ⟨false, -1, 200000, (cat ls ++ ([] : List UInt8)).length, cat ls ++ []⟩ := by rw [h.size, h.safe, h.bytes, List.append_nil]
  rw [e]
  refine open_good hg h.rep ?_ h.rep (List.prefix_append _ _)
  rw [List.append_nil]
  exact openLoop_all h.rep (by have := cat_length_ge h.rep; omega)
/-- A disk with the bytes of the lines and of one more that can be done, of which some are not safe, crashes and opens with the lines or these and the one. -/
theorem part_crash {g : List Int} (hg : baysB g = true) {S : St} {ls : List ByteArray} (h : Rep runF (S0 g) ls S) {s : ByteArray} (hs : (doF runF S s).err = 0) {D : Dsk} (hz : D.size = 200000) {m : Nat} (hb : D.bytes = cat ls ++ (s.data.toList ++ [10]).take m) (hsf : D.safe = (cat ls).length) (k : Int) :
    ∃ D' S' ls', openF runF (crashF D k) g = ⟨0, D', S', ls'⟩ ∧ Good g D' S' ls' ∧ (ls' = ls ∨ ls' = ls ++ [s]) := by
  obtain ⟨m', hm'⟩ : ∃ m', crashF D k = ⟨false, -1, 200000, (cat ls ++ (s.data.toList ++ [10]).take m').length, cat ls ++ (s.data.toList ++ [10]).take m'⟩ := by
    have hle : (cat ls).length ≤ crashN D k ∧ crashN D k ≤ D.bytes.length := by
      have : (cat ls).length ≤ D.bytes.length := by rw [hb, List.length_append]; omega
      unfold crashN
      rw [hsf]
      split
      · omega
      · split <;> omega
    refine ⟨min (crashN D k - (cat ls).length) m, ?_⟩
    have e1 : D.bytes.take (crashN D k) = cat ls ++ (s.data.toList ++ [10]).take (min (crashN D k - (cat ls).length) m) := by
      rw [hb, List.take_append, List.take_of_length_le hle.1, List.take_take]
    have e2 : (cat ls ++ (s.data.toList ++ [10]).take (min (crashN D k - (cat ls).length) m)).length = crashN D k := by
      rw [← e1, List.length_take]; omega
    unfold crashF
    rw [e1, e2, hz]
  rw [hm']
  have hl := openLoop_some h hs m' (fuel := (cat ls ++ (s.data.toList ++ [10]).take m').length + 1)
  by_cases hm : s.size < m'
  · have hzz : s.data.toList.length = s.size := by simp
    have hfull : (s.data.toList ++ [10]).take m' = s.data.toList ++ [10] := List.take_of_length_le (by simp only [List.length_append, List.length_cons, List.length_nil]; omega)
    obtain ⟨D', h1, h2⟩ := open_good hg h (p := (s.data.toList ++ [10]).take m') (S' := (doF runF S s).st) (ls' := ls ++ [s]) (by
      rw [hl (by rw [hfull]; have := cat_length_ge h; simp only [List.length_append, List.length_cons, List.length_nil]; omega), if_pos hm, cat_snoc]
      simp only [List.length_append, List.length_cons, List.length_nil, hzz]) (h.snoc hs) (by rw [hfull, cat_snoc]; exact List.prefix_refl _)
    exact ⟨D', _, _, h1, h2, .inr rfl⟩
  · obtain ⟨D', h1, h2⟩ := open_good hg h (p := (s.data.toList ++ [10]).take m') (S' := S) (ls' := ls) (by
      have ht : (s.data.toList ++ [10]).take m' = s.data.toList.take m' := List.take_append_of_le_length (by simp; omega)
      rw [ht, openLoop_cat h _ _ _ _ (by have := cat_length_ge h; simp only [List.length_append]; omega), openLoop_end (fun hh => doF_no10 hs (List.mem_of_mem_take hh))]
      simp) h (List.prefix_append _ _)
    exact ⟨D', _, _, h1, h2, .inl rfl⟩
theorem kept_step {g : List Int} (hg : baysB g = true) {D : Dsk} {S : St} {ls : List ByteArray} (h : Good g D S ls) (hl : ls.length ≤ 900) (s : ByteArray) : KStep g ls s (hdoF runF D S ls false s) := by
  have hB : ∀ e, e ≠ 0 → KStep g ls s ⟨e, bs [], D, S, ls, false⟩ := fun e he => by
    refine ⟨fun x => absurd x he, fun _ => rfl, Nat.le_succ _, fun _ => ⟨rfl, h⟩, fun k => ?_⟩
    obtain ⟨D', h1, h2⟩ := good_crash hg h k
    exact ⟨D', S, ls, h1, h2, .inl rfl, Nat.le_succ _⟩
  unfold hdoF
  rw [if_neg (by simp)]
  by_cases he : (doF runF S s).err = 0
  · rw [if_pos he]
    have hsz := doF_size he
    have hcl := cat_length_le h.rep
    have hzz : s.data.toList.length = s.size := by simp
    have hfit : ¬ D.size < D.bytes.length + (s.data.toList ++ [10]).length := by rw [h.size, h.bytes]; simp only [List.length_append, List.length_cons, List.length_nil]; omega
    have ho := h.off
    by_cases h0 : D.left = 0
    · have ea : appendF D (s.data.toList ++ [10]) = (10, { D with off := true }) := by unfold appendF; rw [if_neg hfit]; simp [onF, h0]
      rw [ea]
      dsimp only
      rw [if_neg (by decide)]
      refine ⟨fun x => absurd x (show (10 : Int) ≠ 0 by decide), fun _ => rfl, Nat.le_succ _, fun x => absurd rfl x, fun k => ?_⟩
      obtain ⟨D', S', ls', h1, h2, h3⟩ := part_crash hg h.rep he (D := { D with off := true }) h.size (m := 0) (by simp [h.bytes]) h.safe k
      exact ⟨D', S', ls', h1, h2, h3.imp id (fun e => ⟨rfl, e⟩), by rcases h3 with e | e <;> rw [e] <;> simp⟩
    · have ea : appendF D (s.data.toList ++ [10]) = (0, { D with left := if D.left < 0 then -1 else D.left - 1, bytes := D.bytes ++ (s.data.toList ++ [10]) }) := by unfold appendF; rw [if_neg hfit]; simp [onF, h0, ho]
      rw [ea]
      dsimp only
      rw [if_pos rfl]
      by_cases h1 : D.left = 1
      · have es : syncF { D with left := if D.left < 0 then -1 else D.left - 1, bytes := D.bytes ++ (s.data.toList ++ [10]) } = (10, { D with off := true, left := 0, bytes := D.bytes ++ (s.data.toList ++ [10]) }) := by
          unfold syncF onF; rw [h1]; simp
        rw [es]
        dsimp only
        rw [if_neg (by decide)]
        refine ⟨fun x => absurd x (show (10 : Int) ≠ 0 by decide), fun _ => rfl, Nat.le_succ _, fun x => absurd rfl x, fun k => ?_⟩
        obtain ⟨D', S', ls', q1, q2, q3⟩ := part_crash hg h.rep he (D := { D with off := true, left := 0, bytes := D.bytes ++ (s.data.toList ++ [10]) }) h.size (m := s.size + 1) (by rw [List.take_of_length_le (by simp)]; simp [h.bytes]) h.safe k
        exact ⟨D', S', ls', q1, q2, q3.imp id (fun e => ⟨rfl, e⟩), by rcases q3 with e | e <;> rw [e] <;> simp⟩
      · obtain ⟨x, es⟩ : ∃ x, syncF { D with left := if D.left < 0 then -1 else D.left - 1, bytes := D.bytes ++ (s.data.toList ++ [10]) } = (0, { D with left := x, bytes := D.bytes ++ (s.data.toList ++ [10]), safe := (D.bytes ++ (s.data.toList ++ [10])).length }) := by
          unfold syncF onF
          by_cases hn : D.left < 0
          · refine ⟨-1, ?_⟩; simp [hn, ho]
          · have hn2 : ¬ (D.left - 1 = 0) := by omega
            have hn3 : ¬ (D.left - 1 < 0) := by omega
            refine ⟨D.left - 1 - 1, ?_⟩; simp [hn, hn2, hn3, ho]
        rw [es]
        dsimp only
        rw [if_pos rfl]
        have hG : Good g { D with left := x, bytes := D.bytes ++ (s.data.toList ++ [10]), safe := (D.bytes ++ (s.data.toList ++ [10])).length } (doF runF S s).st (ls ++ [s]) :=
          ⟨h.rep.snoc he, ho, h.size, by simp [h.bytes, cat_snoc], by simp [h.bytes, cat_snoc]⟩
        refine ⟨fun _ => rfl, fun x => absurd rfl x, by simp, fun _ => ⟨rfl, hG⟩, fun k => ?_⟩
        obtain ⟨D', q1, q2⟩ := good_crash hg hG k
        exact ⟨D', _, _, q1, q2, .inl rfl, by simp⟩
  · rw [if_neg he]
    exact hB _ he
end Go.Proofs.YthdkamnclbfehaaGreatDoor
