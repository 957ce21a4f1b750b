/- house.state.take. -/
import Derived.Test.YthdkamnclbfehaaGreatDoorAdd
import Derived.Test.YthdkamnclbfehaaGreatDoorForm
namespace Go.Proofs.YthdkamnclbfehaaGreatDoor
set_option linter.unusedSimpArgs false
set_option linter.unusedVariables false
set_option linter.unnecessarySimpa false
open Go.RowKit

/-- What a command leaves: an error, the state, and the reply. -/
structure Res where
  err : Int
  st : St
  out : ByteArray
def RunPost (base : Nat) (w : World) (V : StV) (r : Res) (e : Ending) (w' : World) : Prop :=
  e = .returned (.tuple #[.string r.out, .int .i64 r.err]) ∧ ∃ V', (r.err = 0 → OSt base w' V' r.st) ∧ Chg base w V V' w'
/-- The words that a command is given. -/
structure Args (base : Nat) (w : World) (vn : Value) (a : FA) : Prop where
  rd : Rd w 1 vn a.n.length (icells a.n)
  lt : ∀ k, vn.ownBlock = some k → k < base
def takeF (S : St) (a : FA) : Res :=
  if S.lots.length = 20 then ⟨9, S, bs []⟩ else if a.n.headD 0 = 0 then ⟨2, S, bs []⟩ else ⟨0, addS S ⟨a.word, a.n.headD 0, -1, false⟩, bs [116, 97, 107, 101] ++ (bs [32] ++ itoaB ((S.lots.length : Int) + 1))⟩

set_option maxHeartbeats 2000000 in
set_option maxRecDepth 100000 in
theorem take_any {base : Nat} {w : World} {V : StV} {S : St} {vn : Value} {a : FA} (hG : GW base w) (h : OSt base w V S) (hl : S.lots.length ≤ 20) (ha : Args base w vn a) (hn : a.n.length = 1) :
    Calls Tryz.prog 255 #[.pointer (some ⟨V.b, 0, none⟩), .agg #[vn, .string a.word]] w (RunPost base w V (takeF S a)) := by
  obtain ⟨x, hx⟩ : ∃ x, a.n = [x] := List.length_eq_one_iff.1 hn
  obtain ⟨an, word, aok⟩ := a
  simp only at hx hn
  subst hx
  have hard := ha.rd
  rcases hard.2.2 with ⟨_, h1⟩ | ⟨nb, no, nc, rfl, hnc1, hnc2, hcells⟩
  · simp at h1
  have hn0 := hcells 0 (.int .i64 x) (by simp [icells])
  rw [Nat.add_zero] at hn0
  simp only [List.length_singleton] at *
  obtain ⟨w0, hw0⟩ : ∃ w0, w0 = w.alloc (.cells #[.slice (some ⟨nb, no, none⟩) 1 nc, .string word] 134) := ⟨_, rfl⟩
  have hk0 : Keep (fun _ => False) w w0 := by rw [hw0]; exact (Keep.refl _ _).alloc _
  have hb0 : Blk w0 w.heap.size #[.slice (some ⟨nb, no, none⟩) 1 nc, .string word] 134 := by rw [hw0]; exact Blk.new _ _ _
  have h0 := h.keep hk0 (fun _ _ h => h)
  obtain ⟨lo, lc, hvl, hlc, _⟩ := ownsRow_shape h.ol
  have hnlt := World.block_lt_of_cell? w _ hn0
  simp only at hnlt
  have hnb : nb < base := ha.lt nb rfl
  have c1 := h0.blk.cell 1
  simp [StV.cells] at c1
  rw [hvl, hw0] at c1
  have HKR : Hid (Keep (fun k => base ≤ k ∧ V.fp k) w0 w0) := Lib.hid (Keep.refl _ _)
  have HC : Hid (∀ W, Keep (fun k => base ≤ k ∧ V.fp k) w0 W → W.cell? ⟨w.heap.size, 0, none⟩ = some (.slice (some ⟨nb, no, none⟩) 1 nc) ∧ W.cell? ⟨w.heap.size, 1, none⟩ = some (.string word) ∧ W.cell? ⟨nb, no, none⟩ = some (.int .i64 x)) :=
    Lib.hid fun W hk => by
      have hB := hb0.keep hk (fun e => by have := h.fp_lt _ e.2; omega)
      refine ⟨hB.cell 0, hB.cell 1, (hk.cell (p := ⟨nb, no, none⟩) (Nat.lt_of_lt_of_le hnlt hk0.size) (fun e => by have := e.1; simp at this; omega)).trans ((hk0.cell (p := ⟨nb, no, none⟩) hnlt (fun h => h)).trans hn0)⟩
  obtain ⟨a0, a1, a2⟩ := HC.out w0 (Keep.refl _ _)
  have b0 := a0
  have b1 := a1
  have b2 := a2
  rw [hw0] at b0 b1 b2
  have hG0 := hG.keep hk0 (fun _ _ h => h)
  have HG0 := Lib.hid hG0; clear hG0
  have H0 := Lib.hid h0; clear h0
  have H := Lib.hid h; clear h
  have HK0 := Lib.hid hk0; clear hk0
  have HW0 := Lib.hid hw0; clear hw0
  clear hn0 hb0 hard hcells ha hvl hn
  by_cases h20 : S.lots.length = 20
  · have e20 : ((S.lots.length : Int) == 20) = true := by simp; omega
    have HF := Lib.hid (show takeF S ⟨[x], word, aok⟩ = ⟨9, S, bs []⟩ by unfold takeF; rw [if_pos h20])
    go_enter Tryz.func255, Tryz.ntmps255
    go_wp2
    rw [← HW0.out]
    go_ret2
    exact ⟨by rw [HF.out]; rfl, V, (fun e => by rw [HF.out] at e; cases e), (Chg.refl base w V).after HK0.out⟩
  have e20 : ((S.lots.length : Int) == 20) = false := by simp; omega
  by_cases hx0 : x = 0
  · have ex0 : (x == 0) = true := by simp [hx0]
    have HF := Lib.hid (show takeF S ⟨[x], word, aok⟩ = ⟨2, S, bs []⟩ by unfold takeF; rw [if_neg h20, if_pos (by simp [hx0])])
    subst hx0
    go_enter Tryz.func255, Tryz.ntmps255
    go_wp2
    rw [← HW0.out]
    go_ret2
    exact ⟨by rw [HF.out]; rfl, V, (fun e => by rw [HF.out] at e; cases e), (Chg.refl base w V).after HK0.out⟩
  have ex0 : (x == 0) = false := by simp [hx0]
  have HF := Lib.hid (show takeF S ⟨[x], word, aok⟩ = ⟨0, addS S ⟨word, x, -1, false⟩, bs [116, 97, 107, 101] ++ (bs [32] ++ itoaB ((S.lots.length : Int) + 1))⟩ by unfold takeF; rw [if_neg h20, if_neg (by simpa using hx0)]; rfl)
  have hit : (9223372036854775807 < 4 + (1 + (itoaB ((S.lots.length : Int) + 1)).size)) = False := eq_false (by have := itoaB_size ((S.lots.length : Int) + 1) (by omega) (by omega); omega)
  go_enter Tryz.func255, Tryz.ntmps255
  go_wp2
  rw [← HW0.out]
  clear b0 b1 b2 c1
  go_region_held3 (fun W => W.cell? ⟨w.heap.size, 0, none⟩ = some (.slice (some ⟨nb, no, none⟩) 1 nc) ∧ W.cell? ⟨w.heap.size, 1, none⟩ = some (.string word) ∧ W.cell? ⟨nb, no, none⟩ = some (.int .i64 x))
    (first | exact ⟨a0, a1, a2⟩ | (refine HC.out _ ?_; repeat (first | exact HKR.out | apply Keep.drew)))
    ((go_at_call 261; have hh := add_any (x := ⟨word, x, -1, false⟩) (HG0.out.keep (Keep.refl (fun _ => False) w0).drew (fun _ _ h => h)) (H0.out.keep (Keep.refl (fun _ => False) w0).drew (fun _ _ h => h)) (by omega); refine Calls.mono hh ?_; clear hh; rintro e W1 ⟨V1, rfl, ho1, hc1⟩; have HKR := Lib.hid (((Keep.refl (fun k => base ≤ k ∧ V.fp k) w0).drew).trans hc1.keep (fun _ _ h => h)); have HO1 := Lib.hid ho1; clear ho1; have HC1 := Lib.hid hc1; clear hc1; dsimp only))
  go_wp2
  go_ret2
  exact ⟨by rw [HF.out]; rfl, V1, fun _ => by rw [HF.out]; exact HO1.out, (HC1.out.before (HK0.out.drew))⟩
end Go.Proofs.YthdkamnclbfehaaGreatDoor
