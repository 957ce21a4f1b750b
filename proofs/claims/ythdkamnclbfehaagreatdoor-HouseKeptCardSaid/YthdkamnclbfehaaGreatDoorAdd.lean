/- house.state.add. -/
import Derived.Test.YthdkamnclbfehaaGreatDoorOst
import Derived.Test.YthdkamnclbfehaaGreatDoorHeld
import Derived.Test.YthdkamnclbfehaaGreatDoorAtoi
namespace Go.Proofs.YthdkamnclbfehaaGreatDoor
set_option linter.unusedSimpArgs false
set_option linter.unusedVariables false
set_option linter.unnecessarySimpa false
open Go.RowKit
def addS (S : St) (x : Lot) : St := { S with lots := S.lots ++ [x] }
def AddPost (base : Nat) (w : World) (V : StV) (S : St) (x : Lot) (e : Ending) (w' : World) : Prop :=
  ∃ V', e = .returned (.string (⟨#[32]⟩ ++ itoaB ((S.lots.length : Int) + 1))) ∧ OSt base w' V' (addS S x) ∧ Chg base w V V' w'
set_option maxHeartbeats 1000000 in
set_option maxRecDepth 100000 in
theorem add_any {base : Nat} {w : World} {V : StV} {S : St} {x : Lot} (hG : GW base w) (h : OSt base w V S) (hl : S.lots.length ≤ 1000) :
    Calls Tryz.prog 261 #[.pointer (some ⟨V.b, 0, none⟩), .agg #[.string x.spice, .int .i64 x.grams, .int .i64 x.bay, .bool x.closed]] w (AddPost base w V S x) := by
  obtain ⟨b, vb, vl, vc, vt, vn⟩ := V
  obtain ⟨lo, lc, hvl, hlc, _⟩ := ownsRow_shape h.ol
  simp only at hvl
  subst hvl
  have hblt := h.blk.lt
  simp only at hblt
  obtain ⟨w0, hw0⟩ : ∃ w0, w0 = w.alloc (.cells #[.string x.spice, .int .i64 x.grams, .int .i64 x.bay, .bool x.closed] 214) := ⟨_, rfl⟩
  have hk0 : Keep (fun _ => False) w w0 := by rw [hw0]; exact (Keep.refl _ _).alloc _
  have hn0 : Blk w0 w.heap.size #[.string x.spice, .int .i64 x.grams, .int .i64 x.bay, .bool x.closed] 214 := by rw [hw0]; exact Blk.new _ _ _
  have h0 := h.keep hk0 (fun _ _ h => h)
  have hz0 : w0.heap.size = w.heap.size + 1 := by rw [hw0]; simp
  have c1 := h0.blk.cell 1
  have f1 := h0.blk.free 1
  simp [StV.cells] at c1 f1
  have HLB := Lib.hid (fun k e => (h.ol.lt k e).2)
  have HW0 := Lib.hid hw0; clear hw0
  have H0 := Lib.hid h0; clear h0
  have H := Lib.hid h; clear h
  have HK0 := Lib.hid hk0; clear hk0
  have hlot : Hid (∀ W, Keep (fun k => k = b ∨ (Value.slice lo S.lots.length lc).ownBlock = some k) w0 W → W.cell? ⟨w.heap.size, 0, none⟩ = some (.string x.spice) ∧ W.cell? ⟨w.heap.size, 1, none⟩ = some (.int .i64 x.grams) ∧ W.cell? ⟨w.heap.size, 2, none⟩ = some (.int .i64 x.bay) ∧ W.cell? ⟨w.heap.size, 3, none⟩ = some (.bool x.closed)) :=
    Lib.hid fun W hk => by
      have hn := hn0.keep hk (fun e => e.elim (fun e => by omega) (fun e => by have := HLB.out _ e; omega))
      exact ⟨hn.cell 0, hn.cell 1, hn.cell 2, hn.cell 3⟩
  have HKR : Hid (Keep (fun k => k = b ∨ (Value.slice lo S.lots.length lc).ownBlock = some k) w0 w0) := Lib.hid (Keep.refl _ _)
  obtain ⟨w1, hw1⟩ : ∃ w1, w1 = w0.alloc (.cells #[.string x.spice, .int .i64 x.grams, .int .i64 x.bay, .bool x.closed] 214) := ⟨_, rfl⟩
  have hk1 : Keep (fun _ => False) w0 w1 := by rw [hw1]; exact (Keep.refl _ _).alloc _
  have H1 := Lib.hid (H0.out.keep hk1 (fun _ _ h => h))
  have HSRC : Hid (Src Tryz.prog 4 111 (.slice (some ⟨w.heap.size + 1, 0, none⟩) 1 1) 1 (lotCell x) w1.drew) := Lib.hid (by
    have := Rd.new w0 4 1 (lotCell x) 214 rfl (by simp [lotCell, Value.oneCell']) (by unfold maxLen; omega)
    rw [hz0] at this
    rw [hw1]; exact this.drew.src Tryz.underlying111)
  have HK1 := Lib.hid hk1; clear hk1
  have HW1 := Lib.hid hw1; clear hw1
  have hlot1 := (H.out.ol.lt)
  have HOL : Hid (w1.drew.ownsRow base 214 4 (.slice lo S.lots.length lc) S.lots.length (lotCells S.lots)) := Lib.hid H1.out.ol
  go_enter Tryz.func261, Tryz.ntmps261
  go_wp2
  rw [← HW0.out]
  refine wp_region_noPanic ?_
  refine wp_region_held_drew (S := fun W => W.cell? ⟨w.heap.size, 0, none⟩ = some (.string x.spice) ∧ W.cell? ⟨w.heap.size, 1, none⟩ = some (.int .i64 x.grams) ∧ W.cell? ⟨w.heap.size, 2, none⟩ = some (.int .i64 x.bay) ∧ W.cell? ⟨w.heap.size, 3, none⟩ = some (.bool x.closed)) (by kernel_rfl) (hlot.out _ HKR.out.drew) (fun hHeld => ?_)
  refine wpAnyH_take (i := 0) (oi := _) (v := ?_) rfl (by kernel_rfl) (by kernel_rfl) (by kernel_rfl) (fun _ _ _ h => h) (Or.inl ⟨by rfl, ?_⟩) (by assumption) ?_
  rotate_left
  · (intro w hSw; (try dsimp only at hSw); go_simp) <;> with_reducible rfl
  (try simp only [List.getElem_toArray, List.getElem_cons_zero, List.getElem_cons_succ, Act.put, List.setIfInBounds_toArray, List.set_cons_zero, List.set_cons_succ])
  refine wpAnyH_take (i := 1) (oi := _) (v := ?_) rfl (by kernel_rfl) (by kernel_rfl) (by kernel_rfl) (fun _ _ _ h => h) (Or.inl ⟨by rfl, ?_⟩) (by assumption) ?_
  rotate_left
  · (intro w hSw; (try dsimp only at hSw); go_simp) <;> with_reducible rfl
  (try simp only [List.getElem_toArray, List.getElem_cons_zero, List.getElem_cons_succ, Act.put, List.setIfInBounds_toArray, List.set_cons_zero, List.set_cons_succ])
  refine wpAnyH_take (i := 2) (oi := _) (v := ?_) rfl (by kernel_rfl) (by kernel_rfl) (by kernel_rfl) (fun _ _ _ h => h) (Or.inl ⟨by rfl, ?_⟩) (by assumption) ?_
  rotate_left
  · (intro w hSw; (try dsimp only at hSw); go_simp) <;> with_reducible rfl
  (try simp only [List.getElem_toArray, List.getElem_cons_zero, List.getElem_cons_succ, Act.put, List.setIfInBounds_toArray, List.set_cons_zero, List.set_cons_succ])
  refine wpAnyH_take (i := 3) (oi := _) (v := ?_) rfl (by kernel_rfl) (by kernel_rfl) (by kernel_rfl) (fun _ _ _ h => h) (Or.inl ⟨by rfl, ?_⟩) (by assumption) ?_
  rotate_left
  · (intro w hSw; (try dsimp only at hSw); go_simp) <;> with_reducible rfl
  (try simp only [List.getElem_toArray, List.getElem_cons_zero, List.getElem_cons_succ, Act.put, List.setIfInBounds_toArray, List.set_cons_zero, List.set_cons_succ])
  refine wpAnyH_take (i := 5) (oi := _) (v := ?_) rfl (by kernel_rfl) (by kernel_rfl) (by kernel_rfl) (fun _ _ _ h => h) (Or.inl ⟨by rfl, ?_⟩) (by assumption) ?_
  rotate_left
  · (intro w hSw; (try dsimp only at hSw); go_simp) <;> with_reducible rfl
  (try simp only [List.getElem_toArray, List.getElem_cons_zero, List.getElem_cons_succ, Act.put, List.setIfInBounds_toArray, List.set_cons_zero, List.set_cons_succ])
  refine wpAnyH_ready (rs := [4, 6]) (by kernel_rfl) (by simp) ?_
  refine AllReadyH.cons (o := _) rfl (fun K hK => ?_) (AllReadyH.cons (o := _) rfl (fun K hK => ?_) AllReadyH.nil)
  · go_simp
    refine hK.out _ _ ?_ (fun hHeld => ?_)
    · ((try dsimp only); refine hlot.out _ ?_; repeat (first | exact HKR.out | apply Keep.drew | apply Keep.alloc | refine Keep.setCell ?_ _ _ (fun _ => .inl rfl)))
    clear hK K
    (try simp only [List.getElem_toArray, List.getElem_cons_zero, List.getElem_cons_succ, Act.put, List.setIfInBounds_toArray, List.set_cons_zero, List.set_cons_succ])
    refine wpAnyH_ready (rs := [6]) (by kernel_rfl) (by simp) ?_
    refine AllReadyH.cons (o := _) rfl (fun K hK => ?_) AllReadyH.nil
    go_simp
    refine hK.out _ _ ?_ (fun hHeld => ?_)
    · ((try dsimp only); refine hlot.out _ ?_; repeat (first | exact HKR.out | apply Keep.drew | apply Keep.alloc | refine Keep.setCell ?_ _ _ (fun _ => .inl rfl)))
    clear hK K
    (try simp only [List.getElem_toArray, List.getElem_cons_zero, List.getElem_cons_succ, Act.put, List.setIfInBounds_toArray, List.set_cons_zero, List.set_cons_succ])
    refine wpAnyH_ready (rs := [7]) (by kernel_rfl) (by simp) ?_
    refine AllReadyH.cons (o := _) rfl (fun K hK => ?_) AllReadyH.nil
    rw [if_pos (by rfl)]
    rw [← HW1.out]
    refine oper_app (w := w1.drew) (.tmp 9) (.tmp 11) 111 111 rfl 214 zLot 4 40 Tryz.underlying111 info214 rfl HOL.out rfl HSRC.out rfl (by unfold maxLen; omega) (by omega) H1.out.lt (fun v' w7 happ => ?_)
    obtain ⟨ao7, cap7, rfl, _⟩ := ownsRow_shape happ.own
    have HKR := Lib.hid ((HK1.out.drew.mono (fun _ _ h => h.elim)).trans happ.keep (fun _ _ h => .inr h) : Keep (fun k => k = b ∨ (Value.slice lo S.lots.length lc).ownBlock = some k) w0 w7)
    have c1 := (happ.keep.cell (p := ⟨b, 1, none⟩) H1.out.blk.lt H1.out.lne).trans (H1.out.blk.cell 1)
    have f1 := (happ.keep.frozen (p := ⟨b, 1, none⟩) H1.out.blk.lt H1.out.lne).trans (H1.out.blk.free 1)
    simp [StV.cells] at c1
    have HA := Lib.hid happ
    clear happ
    refine hK.out _ _ ?_ (fun hHeld => ?_)
    · ((try dsimp only); refine hlot.out _ ?_; repeat (first | exact HKR.out | apply Keep.drew | apply Keep.alloc | refine Keep.setCell ?_ _ _ (fun _ => .inl rfl)))
    clear hK K
    (try simp only [List.getElem_toArray, List.getElem_cons_zero, List.getElem_cons_succ, Act.put, List.setIfInBounds_toArray, List.set_cons_zero, List.set_cons_succ])
    refine wpAnyH_take (i := 8) (oi := _) (v := ?_) rfl (by kernel_rfl) (by kernel_rfl) (by kernel_rfl) (fun _ _ _ h => h) (Or.inl ⟨by rfl, ?_⟩) (by assumption) ?_
    rotate_left
    · (intro w hSw; (try dsimp only at hSw); go_simp) <;> with_reducible rfl
    (try simp only [List.getElem_toArray, List.getElem_cons_zero, List.getElem_cons_succ, Act.put, List.setIfInBounds_toArray, List.set_cons_zero, List.set_cons_succ])
    refine wpAnyH_take (i := 9) (oi := _) (v := ?_) rfl (by kernel_rfl) (by kernel_rfl) (by kernel_rfl) (fun _ _ _ h => h) (Or.inl ⟨by rfl, ?_⟩) (by assumption) ?_
    rotate_left
    · (intro w hSw; (try dsimp only at hSw); go_simp) <;> with_reducible rfl
    (try simp only [List.getElem_toArray, List.getElem_cons_zero, List.getElem_cons_succ, Act.put, List.setIfInBounds_toArray, List.set_cons_zero, List.set_cons_succ])
    refine wpAnyH_ready (rs := [10]) (by kernel_rfl) (by simp) ?_
    refine AllReadyH.cons (o := _) rfl (fun K hK => ?_) AllReadyH.nil
    go_simp
    refine hK.out _ _ ?_ (fun hHeld => ?_)
    · ((try dsimp only); refine hlot.out _ ?_; repeat (first | exact HKR.out | apply Keep.drew | apply Keep.alloc | refine Keep.setCell ?_ _ _ (fun _ => .inl rfl)))
    clear hK K
    (try simp only [List.getElem_toArray, List.getElem_cons_zero, List.getElem_cons_succ, Act.put, List.setIfInBounds_toArray, List.set_cons_zero, List.set_cons_succ])
    refine wpAnyH_done (by kernel_rfl) ?_ _
    refine NoPanic.normal ?_
    have h7 := (H1.out.keep (Keep.refl (fun _ => False) w1).drew (fun _ _ h => h)).setLots (w1 := w7) (v' := .slice ao7 (S.lots.length + 1) cap7) (ls := S.lots ++ [x]) (HA.out.keep) (by have := HA.out.own; simpa [lotCells, lotCell] using this) HA.out.fresh
    have hk7 : Keep (fun k => k = b ∨ (Value.slice lo S.lots.length lc).ownBlock = some k) w0 (w7.setCell ⟨b, 1, none⟩ (.slice ao7 (S.lots.length + 1) cap7)) := HKR.out.setCell _ _ (fun _ => .inl rfl)
    obtain ⟨w8, hw8⟩ : ∃ w8, w8 = w7.setCell ⟨b, 1, none⟩ (.slice ao7 (S.lots.length + 1) cap7) := ⟨_, rfl⟩
    rw [← hw8] at h7 hk7
    rw [← hw8]
    clear hw8 c1 f1
    have c1 := h7.blk.cell 1
    simp [StV.cells] at c1
    have H7 := Lib.hid h7; clear h7
    have HK7 := Lib.hid hk7; clear hk7
    have HK8 := Lib.hid ((HK0.out.mono (T := fun k => base ≤ k ∧ StV.fp ⟨b, vb, .slice lo S.lots.length lc, vc, vt, vn⟩ k) (fun _ _ h => h.elim)).trans HK7.out (fun k _ e => e.elim (fun e => ⟨e ▸ H.out.ge, .inl e⟩) (fun e => ⟨H.out.fp_ge.1 k e, .inr (.inr (.inl e))⟩)))
    have hit : (9223372036854775807 < 1 + (itoaB ((S.lots.length : Int) + 1)).size) = False := eq_false (by have := itoaB_size ((S.lots.length : Int) + 1) (by omega) (by omega); omega)
    go_wp2_with (go_at_call 96; have hh := itoa_any (w := w8) (n := (S.lots.length : Int) + 1) (hG.keep HK8.out (fun i hi e => by have := e.1; omega)).glob (by omega) (by omega); refine Calls.mono hh ?_; clear hh; rintro e w9 ⟨rfl, hk9⟩; have HK9 := Lib.hid hk9; clear hk9)
    go_ret
    refine ⟨_, rfl, H7.out.keep HK9.out (fun _ _ h => h), rfl, rfl, fun k hk => ?_, HK8.out.trans HK9.out (fun _ _ h => h.elim)⟩
    rcases hk with e | e | e | e
    · exact .inl (.inl e)
    · exact .inl (.inr (.inl e))
    · rcases HA.out.fresh with h1 | ⟨g, h1, h2⟩
      · exact .inl (.inr (.inr (.inl (h1.symm.trans e))))
      · have h3 : g = k := Option.some.inj (h1.symm.trans e)
        have h4 := HK1.out.size
        have h5 := HK0.out.size
        have h6 : w1.heap.size ≤ g := h2
        exact .inr (by omega)
    · exact .inl (.inr (.inr (.inr e)))
  · go_simp
    refine hK.out _ _ ?_ (fun hHeld => ?_)
    · ((try dsimp only); refine hlot.out _ ?_; repeat (first | exact HKR.out | apply Keep.drew | apply Keep.alloc | refine Keep.setCell ?_ _ _ (fun _ => .inl rfl)))
    clear hK K
    (try simp only [List.getElem_toArray, List.getElem_cons_zero, List.getElem_cons_succ, Act.put, List.setIfInBounds_toArray, List.set_cons_zero, List.set_cons_succ])
    refine wpAnyH_ready (rs := [4]) (by kernel_rfl) (by simp) ?_
    refine AllReadyH.cons (o := _) rfl (fun K hK => ?_) AllReadyH.nil
    go_simp
    refine hK.out _ _ ?_ (fun hHeld => ?_)
    · ((try dsimp only); refine hlot.out _ ?_; repeat (first | exact HKR.out | apply Keep.drew | apply Keep.alloc | refine Keep.setCell ?_ _ _ (fun _ => .inl rfl)))
    clear hK K
    (try simp only [List.getElem_toArray, List.getElem_cons_zero, List.getElem_cons_succ, Act.put, List.setIfInBounds_toArray, List.set_cons_zero, List.set_cons_succ])
    refine wpAnyH_ready (rs := [7]) (by kernel_rfl) (by simp) ?_
    refine AllReadyH.cons (o := _) rfl (fun K hK => ?_) AllReadyH.nil
    rw [if_pos (by rfl)]
    rw [← HW1.out]
    refine oper_app (w := w1.drew) (.tmp 9) (.tmp 11) 111 111 rfl 214 zLot 4 40 Tryz.underlying111 info214 rfl HOL.out rfl HSRC.out rfl (by unfold maxLen; omega) (by omega) H1.out.lt (fun v' w7 happ => ?_)
    obtain ⟨ao7, cap7, rfl, _⟩ := ownsRow_shape happ.own
    have HKR := Lib.hid ((HK1.out.drew.mono (fun _ _ h => h.elim)).trans happ.keep (fun _ _ h => .inr h) : Keep (fun k => k = b ∨ (Value.slice lo S.lots.length lc).ownBlock = some k) w0 w7)
    have c1 := (happ.keep.cell (p := ⟨b, 1, none⟩) H1.out.blk.lt H1.out.lne).trans (H1.out.blk.cell 1)
    have f1 := (happ.keep.frozen (p := ⟨b, 1, none⟩) H1.out.blk.lt H1.out.lne).trans (H1.out.blk.free 1)
    simp [StV.cells] at c1
    have HA := Lib.hid happ
    clear happ
    refine hK.out _ _ ?_ (fun hHeld => ?_)
    · ((try dsimp only); refine hlot.out _ ?_; repeat (first | exact HKR.out | apply Keep.drew | apply Keep.alloc | refine Keep.setCell ?_ _ _ (fun _ => .inl rfl)))
    clear hK K
    (try simp only [List.getElem_toArray, List.getElem_cons_zero, List.getElem_cons_succ, Act.put, List.setIfInBounds_toArray, List.set_cons_zero, List.set_cons_succ])
    refine wpAnyH_take (i := 8) (oi := _) (v := ?_) rfl (by kernel_rfl) (by kernel_rfl) (by kernel_rfl) (fun _ _ _ h => h) (Or.inl ⟨by rfl, ?_⟩) (by assumption) ?_
    rotate_left
    · (intro w hSw; (try dsimp only at hSw); go_simp) <;> with_reducible rfl
    (try simp only [List.getElem_toArray, List.getElem_cons_zero, List.getElem_cons_succ, Act.put, List.setIfInBounds_toArray, List.set_cons_zero, List.set_cons_succ])
    refine wpAnyH_take (i := 9) (oi := _) (v := ?_) rfl (by kernel_rfl) (by kernel_rfl) (by kernel_rfl) (fun _ _ _ h => h) (Or.inl ⟨by rfl, ?_⟩) (by assumption) ?_
    rotate_left
    · (intro w hSw; (try dsimp only at hSw); go_simp) <;> with_reducible rfl
    (try simp only [List.getElem_toArray, List.getElem_cons_zero, List.getElem_cons_succ, Act.put, List.setIfInBounds_toArray, List.set_cons_zero, List.set_cons_succ])
    refine wpAnyH_ready (rs := [10]) (by kernel_rfl) (by simp) ?_
    refine AllReadyH.cons (o := _) rfl (fun K hK => ?_) AllReadyH.nil
    go_simp
    refine hK.out _ _ ?_ (fun hHeld => ?_)
    · ((try dsimp only); refine hlot.out _ ?_; repeat (first | exact HKR.out | apply Keep.drew | apply Keep.alloc | refine Keep.setCell ?_ _ _ (fun _ => .inl rfl)))
    clear hK K
    (try simp only [List.getElem_toArray, List.getElem_cons_zero, List.getElem_cons_succ, Act.put, List.setIfInBounds_toArray, List.set_cons_zero, List.set_cons_succ])
    refine wpAnyH_done (by kernel_rfl) ?_ _
    refine NoPanic.normal ?_
    have h7 := (H1.out.keep (Keep.refl (fun _ => False) w1).drew (fun _ _ h => h)).setLots (w1 := w7) (v' := .slice ao7 (S.lots.length + 1) cap7) (ls := S.lots ++ [x]) (HA.out.keep) (by have := HA.out.own; simpa [lotCells, lotCell] using this) HA.out.fresh
    have hk7 : Keep (fun k => k = b ∨ (Value.slice lo S.lots.length lc).ownBlock = some k) w0 (w7.setCell ⟨b, 1, none⟩ (.slice ao7 (S.lots.length + 1) cap7)) := HKR.out.setCell _ _ (fun _ => .inl rfl)
    obtain ⟨w8, hw8⟩ : ∃ w8, w8 = w7.setCell ⟨b, 1, none⟩ (.slice ao7 (S.lots.length + 1) cap7) := ⟨_, rfl⟩
    rw [← hw8] at h7 hk7
    rw [← hw8]
    clear hw8 c1 f1
    have c1 := h7.blk.cell 1
    simp [StV.cells] at c1
    have H7 := Lib.hid h7; clear h7
    have HK7 := Lib.hid hk7; clear hk7
    have HK8 := Lib.hid ((HK0.out.mono (T := fun k => base ≤ k ∧ StV.fp ⟨b, vb, .slice lo S.lots.length lc, vc, vt, vn⟩ k) (fun _ _ h => h.elim)).trans HK7.out (fun k _ e => e.elim (fun e => ⟨e ▸ H.out.ge, .inl e⟩) (fun e => ⟨H.out.fp_ge.1 k e, .inr (.inr (.inl e))⟩)))
    have hit : (9223372036854775807 < 1 + (itoaB ((S.lots.length : Int) + 1)).size) = False := eq_false (by have := itoaB_size ((S.lots.length : Int) + 1) (by omega) (by omega); omega)
    go_wp2_with (go_at_call 96; have hh := itoa_any (w := w8) (n := (S.lots.length : Int) + 1) (hG.keep HK8.out (fun i hi e => by have := e.1; omega)).glob (by omega) (by omega); refine Calls.mono hh ?_; clear hh; rintro e w9 ⟨rfl, hk9⟩; have HK9 := Lib.hid hk9; clear hk9)
    go_ret
    refine ⟨_, rfl, H7.out.keep HK9.out (fun _ _ h => h), rfl, rfl, fun k hk => ?_, HK8.out.trans HK9.out (fun _ _ h => h.elim)⟩
    rcases hk with e | e | e | e
    · exact .inl (.inl e)
    · exact .inl (.inr (.inl e))
    · rcases HA.out.fresh with h1 | ⟨g, h1, h2⟩
      · exact .inl (.inr (.inr (.inl (h1.symm.trans e))))
      · have h3 : g = k := Option.some.inj (h1.symm.trans e)
        have h4 := HK1.out.size
        have h5 := HK0.out.size
        have h6 : w1.heap.size ≤ g := h2
        exact .inr (by omega)
    · exact .inl (.inr (.inr (.inr e)))
end Go.Proofs.YthdkamnclbfehaaGreatDoor
