/- house.state.touch. -/
import Derived.Test.YthdkamnclbfehaaGreatDoorTouched
namespace Go.Proofs.YthdkamnclbfehaaGreatDoor
set_option linter.unusedSimpArgs false
set_option linter.unusedVariables false
set_option linter.unnecessarySimpa false
open Go.RowKit

def touchF (S : St) (a : FA) : Res :=
  if allLots S a.n then (if a.n.getD 0 0 = a.n.getD 1 0 then ⟨7, S, bs []⟩ else ⟨0, touchS S (a.n.getD 0 0) (a.n.getD 1 0), bs [116, 111, 117, 99, 104]⟩) else ⟨5, S, bs []⟩
def i64b (x : Int) : Prop := -9223372036854775808 ≤ x ∧ x ≤ 9223372036854775807

set_option maxHeartbeats 2000000 in
set_option maxRecDepth 100000 in
theorem touch_any {base : Nat} {w : World} {V : StV} {S : St} {vn : Value} {a : FA} (hG : GW base w) (h : OSt base w V S) (hl : S.small) (ha : Args base w vn a) (hn : a.n.length = 2) (hb : ∀ x ∈ a.n, i64b x) :
    Calls Tryz.prog 258 #[.pointer (some ⟨V.b, 0, none⟩), .agg #[vn, .string a.word]] w (RunPost base w V (touchF S a)) := by
  obtain ⟨x, y, hx⟩ : ∃ x y, a.n = [x, y] := by
    match a.n, hn with
    | [x, y], _ => exact ⟨x, y, rfl⟩
  obtain ⟨an, word, aok⟩ := a
  simp only at hx hn hb
  subst hx
  have hard := ha.rd
  rcases hard.2.2 with ⟨_, h1⟩ | ⟨nb, no, nc, rfl, hnc1, hnc2, hcells⟩
  · simp at h1
  have hn0 := hcells 0 (.int .i64 x) (by simp [icells])
  have hn1 := hcells 1 (.int .i64 y) (by simp [icells])
  rw [Nat.add_zero] at hn0
  have hnlt := World.block_lt_of_cell? w _ hn0
  change Calls Tryz.prog 258 #[.pointer (some ⟨V.b, 0, none⟩), .agg #[.slice (some ⟨nb, no, none⟩) 2 nc, .string word]] w (RunPost base w V (touchF S ⟨[x, y], word, aok⟩))
  simp only at hnlt
  have hnb : nb < base := ha.lt nb rfl
  obtain ⟨w0, hw0⟩ : ∃ w0, w0 = w.alloc (.cells #[.slice (some ⟨nb, no, none⟩) 2 nc, .string word] 134) := ⟨_, rfl⟩
  have hk0 : Keep (fun _ => False) w w0 := by rw [hw0]; exact (Keep.refl _ _).alloc _
  have hb0 : Blk w0 w.heap.size #[.slice (some ⟨nb, no, none⟩) 2 nc, .string word] 134 := by rw [hw0]; exact Blk.new _ _ _
  have h0 := h.keep hk0 (fun _ _ h => h)
  have HKR : Hid (Keep (fun k => base ≤ k ∧ V.fp k) w0 w0) := Lib.hid (Keep.refl _ _)
  have HC : Hid (∀ W, Keep (fun k => base ≤ k ∧ V.fp k) w0 W → W.cell? ⟨w.heap.size, 0, none⟩ = some (.slice (some ⟨nb, no, none⟩) 2 nc) ∧ W.cell? ⟨nb, no, none⟩ = some (.int .i64 x) ∧ W.cell? ⟨nb, no + 1, none⟩ = some (.int .i64 y)) :=
    Lib.hid fun W hk => by
      have hB := hb0.keep hk (fun e => by have := h.fp_lt _ e.2; omega)
      refine ⟨hB.cell 0, (hk.cell (p := ⟨nb, no, none⟩) (Nat.lt_of_lt_of_le hnlt hk0.size) (fun e => by have := e.1; simp at this; omega)).trans ((hk0.cell (p := ⟨nb, no, none⟩) hnlt (fun h => h)).trans hn0), (hk.cell (p := ⟨nb, no + 1, none⟩) (Nat.lt_of_lt_of_le hnlt hk0.size) (fun e => by have := e.1; simp at this; omega)).trans ((hk0.cell (p := ⟨nb, no + 1, none⟩) hnlt (fun h => h)).trans hn1)⟩
  obtain ⟨b0, b1, b2⟩ := HC.out w0 (Keep.refl _ _)
  rw [hw0] at b0 b1 b2
  have hth := there_any (h0.at h0.lt) hl.l ((show Rd w 1 (.slice (some ⟨nb, no, none⟩) 2 nc) [x, y].length (icells [x, y]) from hard).keep hk0 (fun _ _ h => h)) (by simp)
  have HG0 := Lib.hid (hG.keep hk0 (fun _ _ h => h))
  have H0 := Lib.hid h0; clear h0
  have H := Lib.hid h; clear h
  have HK0 := Lib.hid hk0; clear hk0
  have HW0 := Lib.hid hw0; clear hw0
  have HL := Lib.hid hl; clear hl
  have hbx := hb x (by simp)
  have hby := hb y (by simp)
  have HBX := Lib.hid hbx
  have HBY := Lib.hid hby
  clear hn0 hn1 hb0 hard hcells ha hn hb hbx hby
  cases hall : allLots S [x, y] with
  | false =>
    have HF := Lib.hid (show touchF S ⟨[x, y], word, aok⟩ = ⟨5, S, bs []⟩ by unfold touchF; simp only []; rw [hall]; rfl)
    rw [hall] at hth
    have HT := Lib.hid hth; clear hth hall
    go_enter Tryz.func258, Tryz.ntmps258
    go_wp2_with (go_at_call 262; rw [← HW0.out]; refine HT.out.mono ?_; rintro e w1 ⟨rfl, hk1⟩; have HK1 := Lib.hid hk1; clear hk1)
    go_ret2
    exact ⟨by rw [HF.out]; rfl, V, (fun e => by rw [HF.out] at e; cases e), (Chg.refl base w V).after (HK0.out.trans HK1.out (fun _ _ h => h))⟩
  | true =>
    rw [hall] at hth
    have HT := Lib.hid hth; clear hth
    by_cases hxy : x = y
    · have HF := Lib.hid (show touchF S ⟨[x, y], word, aok⟩ = ⟨7, S, bs []⟩ by unfold touchF; simp only []; rw [hall, if_pos rfl]; exact if_pos hxy)
      have exy : (x == y) = true := by simpa using hxy
      clear hall hxy
      go_enter Tryz.func258, Tryz.ntmps258
      go_wp2_with (go_at_call 262; rw [← HW0.out]; refine HT.out.mono ?_; rintro e w1 ⟨rfl, hk1⟩; have HK1 := Lib.hid hk1; obtain ⟨a0, a1, a2⟩ := HC.out w1 (hk1.mono (fun _ _ h => h.elim)); clear hk1)
      go_quiet (fail)
      go_wp2
      go_ret2
      exact ⟨by rw [HF.out]; rfl, V, (fun e => by rw [HF.out] at e; cases e), (Chg.refl base w V).after ((HK0.out.trans HK1.out (fun _ _ h => h)).trans ((Keep.refl (fun _ => False) w1).drewN nq) (fun _ _ h => h))⟩
    · have HF := Lib.hid (show touchF S ⟨[x, y], word, aok⟩ = ⟨0, touchS S x y, bs [116, 111, 117, 99, 104]⟩ by unfold touchF; simp only []; rw [hall, if_pos rfl]; exact if_neg hxy)
      have exy : (x == y) = false := by simpa using hxy
      clear hall hxy
      go_enter Tryz.func258, Tryz.ntmps258
      go_wp2_with (go_at_call 262; rw [← HW0.out]; refine HT.out.mono ?_; rintro e w1 ⟨rfl, hk1⟩; have HK1 := Lib.hid hk1; obtain ⟨a0, a1, a2⟩ := HC.out w1 (hk1.mono (fun _ _ h => h.elim)); clear hk1)
      go_quiet (fail)
      go_wp2
      have HKR : Hid (Keep (fun k => base ≤ k ∧ V.fp k) w0 ((w1.drewN nq).drew)) := Lib.hid (((HK1.out.drewN nq).drew).mono (fun _ _ h => h.elim))
      go_region_held3 (fun W => W.cell? ⟨w.heap.size, 0, none⟩ = some (.slice (some ⟨nb, no, none⟩) 2 nc) ∧ W.cell? ⟨nb, no, none⟩ = some (.int .i64 x) ∧ W.cell? ⟨nb, no + 1, none⟩ = some (.int .i64 y))
        (first | exact ⟨a0, a1, a2⟩ | (refine HC.out _ ?_; repeat (first | exact HKR.out | apply Keep.drew)))
        ((go_at_call 264; have hh := addTouch_any (i := x) (j := y) (HG0.out.keep ((HK1.out.drewN nq).drew) (fun _ _ h => h)) (H0.out.keep ((HK1.out.drewN nq).drew) (fun _ _ h => h)) HL.out.c HL.out.n HBX.out HBY.out; refine Calls.mono hh ?_; clear hh; rintro e W1 ⟨V1, rfl, ho1, hc1⟩; have HKR := Lib.hid (HKR.out.trans hc1.keep (fun _ _ h => h)); have HO1 := Lib.hid ho1; clear ho1; have HC1 := Lib.hid hc1; clear hc1; dsimp only))
      go_wp2
      go_ret2
      exact ⟨by rw [HF.out]; rfl, V1, fun _ => by rw [HF.out]; exact HO1.out, (HC1.out.before ((HK0.out.trans HK1.out (fun _ _ h => h)).drewN nq |>.drew))⟩
end Go.Proofs.YthdkamnclbfehaaGreatDoor
