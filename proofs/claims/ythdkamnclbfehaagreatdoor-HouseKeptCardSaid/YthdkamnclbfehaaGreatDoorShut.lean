/- house.state.shut. -/
import Derived.Test.YthdkamnclbfehaaGreatDoorLots
namespace Go.Proofs.YthdkamnclbfehaaGreatDoor
set_option linter.unusedSimpArgs false
set_option linter.unusedVariables false
set_option linter.unnecessarySimpa false
open Go.RowKit

theorem hasLot_at {S : St} {i : Int} (h : hasLot S i = true) : ∃ k : Nat, i = (k : Int) + 1 ∧ k < S.lots.length := by
  unfold hasLot at h
  simp at h
  exact ⟨(i - 1).toNat, by omega, by omega⟩
theorem lotPtr_at {V : StV} {g cap n k : Nat} (hv : V.vl = .slice (some ⟨g, 0, none⟩) n cap) : lotPtr V ((k : Int) + 1) = .pointer (some ⟨g, k * 4, none⟩) := by
  unfold lotPtr
  rw [hv]
  simp only []
  rw [show ((k : Int) + 1 - 1).toNat = k by omega, Nat.zero_add]

set_option maxHeartbeats 2000000 in
set_option maxRecDepth 100000 in
theorem shut_any {base : Nat} {w : World} {V : StV} {S : St} {vn : Value} {a : FA} (hG : GW base w) (h : OSt base w V S) (hl : S.small) (ha : Args base w vn a) (hn : a.n.length = 1) :
    Calls Tryz.prog 260 #[.pointer (some ⟨V.b, 0, none⟩), .agg #[vn, .string a.word]] w (RunPost base w V (shutF S a)) := by
  obtain ⟨nb, no, nc, rfl, hnc, hC⟩ := args_open h ha (by omega)
  have hd : ∃ x, a.n = [x] := List.length_eq_one_iff.1 hn
  obtain ⟨x, hx⟩ := hd
  obtain ⟨an, word, aok⟩ := a
  simp only at hx hn hnc hC
  subst hx
  change Calls Tryz.prog 260 #[.pointer (some ⟨V.b, 0, none⟩), .agg #[.slice (some ⟨nb, no, none⟩) 1 nc, .string word]] w (RunPost base w V (shutF S ⟨[x], word, aok⟩))
  have hC' : ∀ W, Keep (fun k => base ≤ k ∧ V.fp k) (w.alloc (.cells #[.slice (some ⟨nb, no, none⟩) 1 nc, .string word] 134)) W → W.cell? ⟨w.heap.size, 0, none⟩ = some (.slice (some ⟨nb, no, none⟩) 1 nc) ∧ W.cell? ⟨nb, no, none⟩ = some (.int .i64 x) := fun W hk => by
    obtain ⟨h1, _, h3⟩ := hC W hk
    exact ⟨h1, h3 0 (by simp)⟩
  obtain ⟨b0, b2⟩ := hC' _ (Keep.refl _ _)
  have hnc1 : 1 ≤ nc := hnc
  obtain ⟨w0, hw0⟩ : ∃ w0, w0 = w.alloc (.cells #[.slice (some ⟨nb, no, none⟩) 1 nc, .string word] 134) := ⟨_, rfl⟩
  have hk0 : Keep (fun _ => False) w w0 := by rw [hw0]; exact (Keep.refl _ _).alloc _
  have h0 := h.keep hk0 (fun _ _ h => h)
  have hlot := lot_any (i := x) (h0.at h0.lt) hl.l
  unfold LotPost at hlot
  have HW0 := Lib.hid hw0
  have HK0 := Lib.hid hk0; clear hk0
  clear hC hC' ha hnc hn
  cases hb : hasLot S x with
  | false =>
    have HF := Lib.hid (show shutF S ⟨[x], word, aok⟩ = ⟨5, S, bs []⟩ by unfold shutF; simp only [List.getD_cons_zero]; rw [hb]; rfl)
    rw [hb, if_neg (by simp)] at hlot
    have HLT := Lib.hid hlot; clear hlot hb h h0 hw0
    go_enter Tryz.func260, Tryz.ntmps260
    go_wp2_with (go_at_call 263; rw [← HW0.out]; refine HLT.out.mono ?_; rintro e w1 ⟨rfl, rfl⟩)
    go_ret2
    exact ⟨by rw [HF.out]; rfl, V, (fun e => by rw [HF.out] at e; cases e), (Chg.refl base w V).after HK0.out⟩
  | true =>
    obtain ⟨k, rfl, hk⟩ := hasLot_at hb
    obtain ⟨g, cap, hv, hglt, hgb, hgne⟩ := h.lotRow (by omega)
    rw [hb, if_pos rfl, lotPtr_at hv] at hlot
    have hget : S.lots[((k : Int) + 1 - 1).toNat]? = some S.lots[k] := by rw [show ((k : Int) + 1 - 1).toNat = k by omega]; exact List.getElem?_eq_getElem hk
    have HLT := Lib.hid hlot; clear hlot
    obtain ⟨⟨_, _, c2, c3⟩, hfr⟩ := h0.lotCell hv hk
    have f2 := hfr (k * 4 + 2)
    have f3 := hfr (k * 4 + 3)
    clear hfr
    cases hcl : S.lots[k].closed with
    | true =>
      have HF := Lib.hid (show shutF S ⟨[(k : Int) + 1], word, aok⟩ = ⟨7, S, bs []⟩ by unfold shutF; simp only [List.getD_cons_zero]; rw [hb, hget]; simp only [if_true]; rw [hcl]; rfl)
      rw [hcl] at c3
      clear hb h h0 hw0 hget
      go_enter Tryz.func260, Tryz.ntmps260
      go_wp2_with (go_at_call 263; rw [← HW0.out]; refine HLT.out.mono ?_; rintro e w1 ⟨rfl, rfl⟩)
      go_ret2
      exact ⟨by rw [HF.out]; rfl, V, (fun e => by rw [HF.out] at e; cases e), (Chg.refl base w V).after HK0.out⟩
    | false =>
      have HF := Lib.hid (show shutF S ⟨[(k : Int) + 1], word, aok⟩ = ⟨0, { S with lots := S.lots.set k { S.lots[k] with bay := -1, closed := true } }, bs [99, 108, 111, 115, 101]⟩ by unfold shutF; simp only [List.getD_cons_zero]; rw [hb, hget]; simp only [if_true]; rw [hcl, show ((k : Int) + 1 - 1).toNat = k by omega]; rfl)
      rw [hcl] at c3
      have H0 := Lib.hid h0; clear hb h h0 hw0 hget
      go_enter Tryz.func260, Tryz.ntmps260
      go_wp2_with (go_at_call 263; rw [← HW0.out]; refine HLT.out.mono ?_; rintro e w1 ⟨rfl, rfl⟩)
      go_ret2
      obtain ⟨h1, hc1⟩ := H0.out.setLot hv hk 3 (by omega) { S.lots[k] with closed := true } (.bool true) rfl
      obtain ⟨h2, hc2⟩ := h1.setLot (g := g) (cap := cap) (by simpa using hv) (i := k) (by simpa using hk) 2 (by omega) { S.lots[k] with bay := -1, closed := true } (.int .i64 (-1)) (by simp [lotCell])
      refine ⟨by rw [HF.out]; rfl, V, fun _ => ?_, (hc1.trans hc2).before HK0.out⟩
      rw [HF.out]
      simpa using h2
end Go.Proofs.YthdkamnclbfehaaGreatDoor
