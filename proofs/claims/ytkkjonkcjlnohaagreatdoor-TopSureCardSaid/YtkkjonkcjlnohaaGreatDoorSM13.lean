/- house.state.add. -/
import Derived.Test.YtkkjonkcjlnohaaGreatDoorSM9
import Derived.Test.YtkkjonkcjlnohaaGreatDoorSM10
import Derived.Test.YtkkjonkcjlnohaaGreatDoorSM12

/- house.state.add. -/
namespace Go.Proofs.YtkkjonkcjlnohaaGreatDoor
set_option linter.unusedSimpArgs false
set_option linter.unusedVariables false
set_option linter.unnecessarySimpa false
open Go.RowKit
def addS (S : St) (x : Lot) : St := { S with lots := S.lots ++ [x] }
def AddPost (base : Nat) (w : World) (V : StV) (S : St) (x : Lot) (e : Ending) (w' : World) : Prop :=
  ∃ V', e = .returned (.string (⟨#[32]⟩ ++ itoaB ((S.lots.length : Int) + 1))) ∧ OSt base w' V' (addS S x) ∧ Chg base w V V' w'
set_option maxHeartbeats 1000000 in
set_option maxRecDepth 100000 in
theorem add_any {base : Nat} {w : World} {V : StV} {S : St} {x : Lot} (hG : GW base w) (h : OSt base w V S) (hl : S.lots.length ≤ 1000) :
    Calls Tryz.prog 405 #[.pointer (some ⟨V.b, 0, none⟩), .agg #[.string x.spice, .int .i64 x.grams, .int .i64 x.bay, .bool x.closed]] w (AddPost base w V S x) := by
  obtain ⟨b, vb, vl, vc, vt, vn⟩ := V
  obtain ⟨lo, lc, hvl, hlc, _⟩ := ownsRow_shape h.ol
  simp only at hvl
  subst hvl
  have hblt := h.blk.lt
  simp only at hblt
  obtain ⟨w0, hw0⟩ : ∃ w0, w0 = w.alloc (.cells #[.string x.spice, .int .i64 x.grams, .int .i64 x.bay, .bool x.closed] 125) := ⟨_, rfl⟩
  have hk0 : Keep (fun _ => False) w w0 := by rw [hw0]; exact (Keep.refl _ _).alloc _
  have hn0 : Blk w0 w.heap.size #[.string x.spice, .int .i64 x.grams, .int .i64 x.bay, .bool x.closed] 125 := by rw [hw0]; exact Blk.new _ _ _
  have h0 := h.keep hk0 (fun _ _ h => h)
  have hz0 : w0.heap.size = w.heap.size + 1 := by rw [hw0]; simp
  have c1 := h0.blk.cell 1
  have f1 := h0.blk.free 1
  simp [StV.cells] at c1 f1
  have HLB := Lib.hid (fun k e => (h.ol.lt k e).2)
  have HW0 := Lib.hid hw0; clear hw0
  have H0 := Lib.hid h0; clear h0
  have H := Lib.hid h; clear h
  have HK0 := Lib.hid hk0; clear hk0
  have hlot : Hid (∀ W, Keep (fun k => k = b ∨ (Value.slice lo S.lots.length lc).ownBlock = some k) w0 W → W.cell? ⟨w.heap.size, 0, none⟩ = some (.string x.spice) ∧ W.cell? ⟨w.heap.size, 1, none⟩ = some (.int .i64 x.grams) ∧ W.cell? ⟨w.heap.size, 2, none⟩ = some (.int .i64 x.bay) ∧ W.cell? ⟨w.heap.size, 3, none⟩ = some (.bool x.closed)) :=
    Lib.hid fun W hk => by
      have hn := hn0.keep hk (fun e => e.elim (fun e => by omega) (fun e => by have := HLB.out _ e; omega))
      exact ⟨hn.cell 0, hn.cell 1, hn.cell 2, hn.cell 3⟩
  have HKR : Hid (Keep (fun k => k = b ∨ (Value.slice lo S.lots.length lc).ownBlock = some k) w0 w0) := Lib.hid (Keep.refl _ _)
  obtain ⟨w1, hw1⟩ : ∃ w1, w1 = w0.alloc (.cells #[.string x.spice, .int .i64 x.grams, .int .i64 x.bay, .bool x.closed] 125) := ⟨_, rfl⟩
  have hk1 : Keep (fun _ => False) w0 w1 := by rw [hw1]; exact (Keep.refl _ _).alloc _
  have H1 := Lib.hid (H0.out.keep hk1 (fun _ _ h => h))
  have HSRC : Hid (Src Tryz.prog 4 87 (.slice (some ⟨w.heap.size + 1, 0, none⟩) 1 1) 1 (lotCell x) w1.drew) := Lib.hid (by
    have := Rd.new w0 4 1 (lotCell x) 125 rfl (by simp [lotCell, Value.oneCell']) (by unfold maxLen; omega)
    rw [hz0] at this
    rw [hw1]; exact this.drew.src Tryz.underlying87)
  have HK1 := Lib.hid hk1; clear hk1
  have HW1 := Lib.hid hw1; clear hw1
  have hlot1 := (H.out.ol.lt)
  have HOL : Hid (w1.drew.ownsRow base 125 4 (.slice lo S.lots.length lc) S.lots.length (lotCells S.lots)) := Lib.hid H1.out.ol
  go_enter Tryz.func405, Tryz.ntmps405
  go_wp2
  rw [← HW0.out]
  refine wp_region_noPanic ?_
  refine wp_region_held_drew (S := fun W => W.cell? ⟨w.heap.size, 0, none⟩ = some (.string x.spice) ∧ W.cell? ⟨w.heap.size, 1, none⟩ = some (.int .i64 x.grams) ∧ W.cell? ⟨w.heap.size, 2, none⟩ = some (.int .i64 x.bay) ∧ W.cell? ⟨w.heap.size, 3, none⟩ = some (.bool x.closed)) (by kernel_rfl) (hlot.out _ HKR.out.drew) (fun hHeld => ?_)
  refine wpAnyH_take (i := 0) (oi := _) (v := ?_) rfl (by kernel_rfl) (by kernel_rfl) (by kernel_rfl) (fun _ _ _ h => h) (Or.inl ⟨by rfl, ?_⟩) (by assumption) ?_
  rotate_left
  · (intro w hSw; (try dsimp only at hSw); go_simp) <;> with_reducible rfl
  (try simp only [List.getElem_toArray, List.getElem_cons_zero, List.getElem_cons_succ, Act.put, List.setIfInBounds_toArray, List.set_cons_zero, List.set_cons_succ])
  refine wpAnyH_take (i := 1) (oi := _) (v := ?_) rfl (by kernel_rfl) (by kernel_rfl) (by kernel_rfl) (fun _ _ _ h => h) (Or.inl ⟨by rfl, ?_⟩) (by assumption) ?_
  rotate_left
  · (intro w hSw; (try dsimp only at hSw); go_simp) <;> with_reducible rfl
  (try simp only [List.getElem_toArray, List.getElem_cons_zero, List.getElem_cons_succ, Act.put, List.setIfInBounds_toArray, List.set_cons_zero, List.set_cons_succ])
  refine wpAnyH_take (i := 2) (oi := _) (v := ?_) rfl (by kernel_rfl) (by kernel_rfl) (by kernel_rfl) (fun _ _ _ h => h) (Or.inl ⟨by rfl, ?_⟩) (by assumption) ?_
  rotate_left
  · (intro w hSw; (try dsimp only at hSw); go_simp) <;> with_reducible rfl
  (try simp only [List.getElem_toArray, List.getElem_cons_zero, List.getElem_cons_succ, Act.put, List.setIfInBounds_toArray, List.set_cons_zero, List.set_cons_succ])
  refine wpAnyH_take (i := 3) (oi := _) (v := ?_) rfl (by kernel_rfl) (by kernel_rfl) (by kernel_rfl) (fun _ _ _ h => h) (Or.inl ⟨by rfl, ?_⟩) (by assumption) ?_
  rotate_left
  · (intro w hSw; (try dsimp only at hSw); go_simp) <;> with_reducible rfl
  (try simp only [List.getElem_toArray, List.getElem_cons_zero, List.getElem_cons_succ, Act.put, List.setIfInBounds_toArray, List.set_cons_zero, List.set_cons_succ])
  refine wpAnyH_take (i := 5) (oi := _) (v := ?_) rfl (by kernel_rfl) (by kernel_rfl) (by kernel_rfl) (fun _ _ _ h => h) (Or.inl ⟨by rfl, ?_⟩) (by assumption) ?_
  rotate_left
  · (intro w hSw; (try dsimp only at hSw); go_simp) <;> with_reducible rfl
  (try simp only [List.getElem_toArray, List.getElem_cons_zero, List.getElem_cons_succ, Act.put, List.setIfInBounds_toArray, List.set_cons_zero, List.set_cons_succ])
  refine wpAnyH_ready (rs := [4, 6]) (by kernel_rfl) (by simp) ?_
  refine AllReadyH.cons (o := _) rfl (fun K hK => ?_) (AllReadyH.cons (o := _) rfl (fun K hK => ?_) AllReadyH.nil)
  · go_simp
    refine hK.out _ _ ?_ (fun hHeld => ?_)
    · ((try dsimp only); refine hlot.out _ ?_; repeat (first | exact HKR.out | apply Keep.drew | apply Keep.alloc | refine Keep.setCell ?_ _ _ (fun _ => .inl rfl)))
    clear hK K
    (try simp only [List.getElem_toArray, List.getElem_cons_zero, List.getElem_cons_succ, Act.put, List.setIfInBounds_toArray, List.set_cons_zero, List.set_cons_succ])
    refine wpAnyH_ready (rs := [6]) (by kernel_rfl) (by simp) ?_
    refine AllReadyH.cons (o := _) rfl (fun K hK => ?_) AllReadyH.nil
    go_simp
    refine hK.out _ _ ?_ (fun hHeld => ?_)
    · ((try dsimp only); refine hlot.out _ ?_; repeat (first | exact HKR.out | apply Keep.drew | apply Keep.alloc | refine Keep.setCell ?_ _ _ (fun _ => .inl rfl)))
    clear hK K
    (try simp only [List.getElem_toArray, List.getElem_cons_zero, List.getElem_cons_succ, Act.put, List.setIfInBounds_toArray, List.set_cons_zero, List.set_cons_succ])
    refine wpAnyH_ready (rs := [7]) (by kernel_rfl) (by simp) ?_
    refine AllReadyH.cons (o := _) rfl (fun K hK => ?_) AllReadyH.nil
    rw [if_pos (by rfl)]
    rw [← HW1.out]
    refine oper_app (w := w1.drew) (.tmp 9) (.tmp 11) 87 87 rfl 125 zLot 4 40 Tryz.underlying87 info214 rfl HOL.out rfl HSRC.out rfl (by unfold maxLen; omega) (by omega) H1.out.lt (fun v' w7 happ => ?_)
    obtain ⟨ao7, cap7, rfl, _⟩ := ownsRow_shape happ.own
    have HKR := Lib.hid ((HK1.out.drew.mono (fun _ _ h => h.elim)).trans happ.keep (fun _ _ h => .inr h) : Keep (fun k => k = b ∨ (Value.slice lo S.lots.length lc).ownBlock = some k) w0 w7)
    have c1 := (happ.keep.cell (p := ⟨b, 1, none⟩) H1.out.blk.lt H1.out.lne).trans (H1.out.blk.cell 1)
    have f1 := (happ.keep.frozen (p := ⟨b, 1, none⟩) H1.out.blk.lt H1.out.lne).trans (H1.out.blk.free 1)
    simp [StV.cells] at c1
    have HA := Lib.hid happ
    clear happ
    refine hK.out _ _ ?_ (fun hHeld => ?_)
    · ((try dsimp only); refine hlot.out _ ?_; repeat (first | exact HKR.out | apply Keep.drew | apply Keep.alloc | refine Keep.setCell ?_ _ _ (fun _ => .inl rfl)))
    clear hK K
    (try simp only [List.getElem_toArray, List.getElem_cons_zero, List.getElem_cons_succ, Act.put, List.setIfInBounds_toArray, List.set_cons_zero, List.set_cons_succ])
    refine wpAnyH_take (i := 8) (oi := _) (v := ?_) rfl (by kernel_rfl) (by kernel_rfl) (by kernel_rfl) (fun _ _ _ h => h) (Or.inl ⟨by rfl, ?_⟩) (by assumption) ?_
    rotate_left
    · (intro w hSw; (try dsimp only at hSw); go_simp) <;> with_reducible rfl
    (try simp only [List.getElem_toArray, List.getElem_cons_zero, List.getElem_cons_succ, Act.put, List.setIfInBounds_toArray, List.set_cons_zero, List.set_cons_succ])
    refine wpAnyH_take (i := 9) (oi := _) (v := ?_) rfl (by kernel_rfl) (by kernel_rfl) (by kernel_rfl) (fun _ _ _ h => h) (Or.inl ⟨by rfl, ?_⟩) (by assumption) ?_
    rotate_left
    · (intro w hSw; (try dsimp only at hSw); go_simp) <;> with_reducible rfl
    (try simp only [List.getElem_toArray, List.getElem_cons_zero, List.getElem_cons_succ, Act.put, List.setIfInBounds_toArray, List.set_cons_zero, List.set_cons_succ])
    refine wpAnyH_ready (rs := [10]) (by kernel_rfl) (by simp) ?_
    refine AllReadyH.cons (o := _) rfl (fun K hK => ?_) AllReadyH.nil
    go_simp
    refine hK.out _ _ ?_ (fun hHeld => ?_)
    · ((try dsimp only); refine hlot.out _ ?_; repeat (first | exact HKR.out | apply Keep.drew | apply Keep.alloc | refine Keep.setCell ?_ _ _ (fun _ => .inl rfl)))
    clear hK K
    (try simp only [List.getElem_toArray, List.getElem_cons_zero, List.getElem_cons_succ, Act.put, List.setIfInBounds_toArray, List.set_cons_zero, List.set_cons_succ])
    refine wpAnyH_done (by kernel_rfl) ?_ _
    refine NoPanic.normal ?_
    have h7 := (H1.out.keep (Keep.refl (fun _ => False) w1).drew (fun _ _ h => h)).setLots (w1 := w7) (v' := .slice ao7 (S.lots.length + 1) cap7) (ls := S.lots ++ [x]) (HA.out.keep) (by have := HA.out.own; simpa [lotCells, lotCell] using this) HA.out.fresh
    have hk7 : Keep (fun k => k = b ∨ (Value.slice lo S.lots.length lc).ownBlock = some k) w0 (w7.setCell ⟨b, 1, none⟩ (.slice ao7 (S.lots.length + 1) cap7)) := HKR.out.setCell _ _ (fun _ => .inl rfl)
    obtain ⟨w8, hw8⟩ : ∃ w8, w8 = w7.setCell ⟨b, 1, none⟩ (.slice ao7 (S.lots.length + 1) cap7) := ⟨_, rfl⟩
    rw [← hw8] at h7 hk7
    rw [← hw8]
    clear hw8 c1 f1
    have c1 := h7.blk.cell 1
    simp [StV.cells] at c1
    have H7 := Lib.hid h7; clear h7
    have HK7 := Lib.hid hk7; clear hk7
    have HK8 := Lib.hid ((HK0.out.mono (T := fun k => base ≤ k ∧ StV.fp ⟨b, vb, .slice lo S.lots.length lc, vc, vt, vn⟩ k) (fun _ _ h => h.elim)).trans HK7.out (fun k _ e => e.elim (fun e => ⟨e ▸ H.out.ge, .inl e⟩) (fun e => ⟨H.out.fp_ge.1 k e, .inr (.inr (.inl e))⟩)))
    have hit : (9223372036854775807 < 1 + (itoaB ((S.lots.length : Int) + 1)).size) = False := eq_false (by have := itoaB_size ((S.lots.length : Int) + 1) (by omega) (by omega); omega)
    go_wp2_with (go_at_call 64; have hh := itoa_any (w := w8) (n := (S.lots.length : Int) + 1) (hG.keep HK8.out (fun i hi e => by have := e.1; omega)).glob (by omega) (by omega); refine Calls.mono hh ?_; clear hh; rintro e w9 ⟨rfl, hk9⟩; have HK9 := Lib.hid hk9; clear hk9)
    go_ret
    refine ⟨_, rfl, H7.out.keep HK9.out (fun _ _ h => h), rfl, rfl, fun k hk => ?_, HK8.out.trans HK9.out (fun _ _ h => h.elim)⟩
    rcases hk with e | e | e | e
    · exact .inl (.inl e)
    · exact .inl (.inr (.inl e))
    · rcases HA.out.fresh with h1 | ⟨g, h1, h2⟩
      · exact .inl (.inr (.inr (.inl (h1.symm.trans e))))
      · have h3 : g = k := Option.some.inj (h1.symm.trans e)
        have h4 := HK1.out.size
        have h5 := HK0.out.size
        have h6 : w1.heap.size ≤ g := h2
        exact .inr (by omega)
    · exact .inl (.inr (.inr (.inr e)))
  · go_simp
    refine hK.out _ _ ?_ (fun hHeld => ?_)
    · ((try dsimp only); refine hlot.out _ ?_; repeat (first | exact HKR.out | apply Keep.drew | apply Keep.alloc | refine Keep.setCell ?_ _ _ (fun _ => .inl rfl)))
    clear hK K
    (try simp only [List.getElem_toArray, List.getElem_cons_zero, List.getElem_cons_succ, Act.put, List.setIfInBounds_toArray, List.set_cons_zero, List.set_cons_succ])
    refine wpAnyH_ready (rs := [4]) (by kernel_rfl) (by simp) ?_
    refine AllReadyH.cons (o := _) rfl (fun K hK => ?_) AllReadyH.nil
    go_simp
    refine hK.out _ _ ?_ (fun hHeld => ?_)
    · ((try dsimp only); refine hlot.out _ ?_; repeat (first | exact HKR.out | apply Keep.drew | apply Keep.alloc | refine Keep.setCell ?_ _ _ (fun _ => .inl rfl)))
    clear hK K
    (try simp only [List.getElem_toArray, List.getElem_cons_zero, List.getElem_cons_succ, Act.put, List.setIfInBounds_toArray, List.set_cons_zero, List.set_cons_succ])
    refine wpAnyH_ready (rs := [7]) (by kernel_rfl) (by simp) ?_
    refine AllReadyH.cons (o := _) rfl (fun K hK => ?_) AllReadyH.nil
    rw [if_pos (by rfl)]
    rw [← HW1.out]
    refine oper_app (w := w1.drew) (.tmp 9) (.tmp 11) 87 87 rfl 125 zLot 4 40 Tryz.underlying87 info214 rfl HOL.out rfl HSRC.out rfl (by unfold maxLen; omega) (by omega) H1.out.lt (fun v' w7 happ => ?_)
    obtain ⟨ao7, cap7, rfl, _⟩ := ownsRow_shape happ.own
    have HKR := Lib.hid ((HK1.out.drew.mono (fun _ _ h => h.elim)).trans happ.keep (fun _ _ h => .inr h) : Keep (fun k => k = b ∨ (Value.slice lo S.lots.length lc).ownBlock = some k) w0 w7)
    have c1 := (happ.keep.cell (p := ⟨b, 1, none⟩) H1.out.blk.lt H1.out.lne).trans (H1.out.blk.cell 1)
    have f1 := (happ.keep.frozen (p := ⟨b, 1, none⟩) H1.out.blk.lt H1.out.lne).trans (H1.out.blk.free 1)
    simp [StV.cells] at c1
    have HA := Lib.hid happ
    clear happ
    refine hK.out _ _ ?_ (fun hHeld => ?_)
    · ((try dsimp only); refine hlot.out _ ?_; repeat (first | exact HKR.out | apply Keep.drew | apply Keep.alloc | refine Keep.setCell ?_ _ _ (fun _ => .inl rfl)))
    clear hK K
    (try simp only [List.getElem_toArray, List.getElem_cons_zero, List.getElem_cons_succ, Act.put, List.setIfInBounds_toArray, List.set_cons_zero, List.set_cons_succ])
    refine wpAnyH_take (i := 8) (oi := _) (v := ?_) rfl (by kernel_rfl) (by kernel_rfl) (by kernel_rfl) (fun _ _ _ h => h) (Or.inl ⟨by rfl, ?_⟩) (by assumption) ?_
    rotate_left
    · (intro w hSw; (try dsimp only at hSw); go_simp) <;> with_reducible rfl
    (try simp only [List.getElem_toArray, List.getElem_cons_zero, List.getElem_cons_succ, Act.put, List.setIfInBounds_toArray, List.set_cons_zero, List.set_cons_succ])
    refine wpAnyH_take (i := 9) (oi := _) (v := ?_) rfl (by kernel_rfl) (by kernel_rfl) (by kernel_rfl) (fun _ _ _ h => h) (Or.inl ⟨by rfl, ?_⟩) (by assumption) ?_
    rotate_left
    · (intro w hSw; (try dsimp only at hSw); go_simp) <;> with_reducible rfl
    (try simp only [List.getElem_toArray, List.getElem_cons_zero, List.getElem_cons_succ, Act.put, List.setIfInBounds_toArray, List.set_cons_zero, List.set_cons_succ])
    refine wpAnyH_ready (rs := [10]) (by kernel_rfl) (by simp) ?_
    refine AllReadyH.cons (o := _) rfl (fun K hK => ?_) AllReadyH.nil
    go_simp
    refine hK.out _ _ ?_ (fun hHeld => ?_)
    · ((try dsimp only); refine hlot.out _ ?_; repeat (first | exact HKR.out | apply Keep.drew | apply Keep.alloc | refine Keep.setCell ?_ _ _ (fun _ => .inl rfl)))
    clear hK K
    (try simp only [List.getElem_toArray, List.getElem_cons_zero, List.getElem_cons_succ, Act.put, List.setIfInBounds_toArray, List.set_cons_zero, List.set_cons_succ])
    refine wpAnyH_done (by kernel_rfl) ?_ _
    refine NoPanic.normal ?_
    have h7 := (H1.out.keep (Keep.refl (fun _ => False) w1).drew (fun _ _ h => h)).setLots (w1 := w7) (v' := .slice ao7 (S.lots.length + 1) cap7) (ls := S.lots ++ [x]) (HA.out.keep) (by have := HA.out.own; simpa [lotCells, lotCell] using this) HA.out.fresh
    have hk7 : Keep (fun k => k = b ∨ (Value.slice lo S.lots.length lc).ownBlock = some k) w0 (w7.setCell ⟨b, 1, none⟩ (.slice ao7 (S.lots.length + 1) cap7)) := HKR.out.setCell _ _ (fun _ => .inl rfl)
    obtain ⟨w8, hw8⟩ : ∃ w8, w8 = w7.setCell ⟨b, 1, none⟩ (.slice ao7 (S.lots.length + 1) cap7) := ⟨_, rfl⟩
    rw [← hw8] at h7 hk7
    rw [← hw8]
    clear hw8 c1 f1
    have c1 := h7.blk.cell 1
    simp [StV.cells] at c1
    have H7 := Lib.hid h7; clear h7
    have HK7 := Lib.hid hk7; clear hk7
    have HK8 := Lib.hid ((HK0.out.mono (T := fun k => base ≤ k ∧ StV.fp ⟨b, vb, .slice lo S.lots.length lc, vc, vt, vn⟩ k) (fun _ _ h => h.elim)).trans HK7.out (fun k _ e => e.elim (fun e => ⟨e ▸ H.out.ge, .inl e⟩) (fun e => ⟨H.out.fp_ge.1 k e, .inr (.inr (.inl e))⟩)))
    have hit : (9223372036854775807 < 1 + (itoaB ((S.lots.length : Int) + 1)).size) = False := eq_false (by have := itoaB_size ((S.lots.length : Int) + 1) (by omega) (by omega); omega)
    go_wp2_with (go_at_call 64; have hh := itoa_any (w := w8) (n := (S.lots.length : Int) + 1) (hG.keep HK8.out (fun i hi e => by have := e.1; omega)).glob (by omega) (by omega); refine Calls.mono hh ?_; clear hh; rintro e w9 ⟨rfl, hk9⟩; have HK9 := Lib.hid hk9; clear hk9)
    go_ret
    refine ⟨_, rfl, H7.out.keep HK9.out (fun _ _ h => h), rfl, rfl, fun k hk => ?_, HK8.out.trans HK9.out (fun _ _ h => h.elim)⟩
    rcases hk with e | e | e | e
    · exact .inl (.inl e)
    · exact .inl (.inr (.inl e))
    · rcases HA.out.fresh with h1 | ⟨g, h1, h2⟩
      · exact .inl (.inr (.inr (.inl (h1.symm.trans e))))
      · have h3 : g = k := Option.some.inj (h1.symm.trans e)
        have h4 := HK1.out.size
        have h5 := HK0.out.size
        have h6 : w1.heap.size ≤ g := h2
        exact .inr (by omega)
    · exact .inl (.inr (.inr (.inr e)))
end Go.Proofs.YtkkjonkcjlnohaaGreatDoor

/- house.form: what a change says. -/
namespace Go.Proofs.YtkkjonkcjlnohaaGreatDoor
set_option linter.unusedSimpArgs false
set_option linter.unusedVariables false
set_option linter.unnecessarySimpa false
open Go.RowKit

/-- Numbers, the other word, and whether all is well. -/
structure FA where
  n : List Int
  word : ByteArray
  ok : Bool
def goodB : ByteArray := bs [103, 111, 111, 100]
def badBs : ByteArray := bs [98, 97, 100]
def stepF (a : FA) (p : UInt8 × ByteArray) : FA :=
  if p.1 = 115 then ⟨a.n, p.2, a.ok && isSpiceB p.2⟩
  else if p.1 = 116 then ⟨a.n, p.2, a.ok && (decide (p.2 = goodB) || decide (p.2 = badBs))⟩
  else ⟨a.n ++ [atoiN p.2], a.word, a.ok && atoiOk p.2 && decide (p.2.size ≤ 6) && decide (0 ≤ atoiN p.2) && decide (itoaB (atoiN p.2) = p.2)⟩
def foldF (so : List UInt8) (ws : List ByteArray) : FA := (so.zip ws).foldl stepF ⟨[], bs [], true⟩
/-- The command's sorts and function, and the fold; none if it is no change in form and number of words. -/
def formF (s : ByteArray) : Option (List UInt8 × Nat × FA) :=
  if isLineB s then
    match chF ((words s).headD (bs [])).data.toList with
    | some (so, f) => if (words s).length - 1 = so.length then some (so, f, foldF so (words s).tail) else none
    | none => none
  else none
def FormPost (w : World) (s : ByteArray) (e : Ending) (w' : World) : Prop :=
  match formF s with
  | none => e = .returned (.tuple #[.agg #[.string (bs []), .nilFunc], .agg #[.slice none 0 0, .string (bs [])], .bool false]) ∧ Keep (fun _ => False) w w'
  | some (so, f, a) => ∃ vn, e = .returned (.tuple #[.agg #[.string (bs so), .func (.func f) #[] #[]], .agg #[vn, .string a.word], .bool a.ok]) ∧ w'.ownsRow w.heap.size 3 1 vn a.n.length (icells a.n) ∧ Keep (fun _ => False) w w'

@[go_sem] theorem run_store_nilFunc (P : Program) (w : World) (a : Addr) (m : Mode) : (store a .nilFunc m).run P w = stored P w a .nilFunc m := run_store P w a _ m rfl
@[go_sem] theorem run_store_func (P : Program) (w : World) (a : Addr) (m : Mode) (f : Fn) (x y : Array Value) : (store a (.func f x y) m).run P w = stored P w a (.func f x y) m := run_store P w a _ m rfl
theorem form_results (tmps : Array Value) (w : World) {b1 b2 : Nat} {v0 v1 u0 u1 ok : Value} (h2 : tmps[2]?.getD undef = .pointer (some ⟨b1, 0, none⟩)) (h3 : tmps[3]?.getD undef = .pointer (some ⟨b2, 0, none⟩)) (h4 : tmps[4]?.getD undef = ok)
    (c0 : w.cell? ⟨b1, 0, none⟩ = some v0) (c1 : w.cell? ⟨b1, 1, none⟩ = some v1) (d0 : w.cell? ⟨b2, 0, none⟩ = some u0) (d1 : w.cell? ⟨b2, 1, none⟩ = some u1) :
    (results Tryz.f40 tmps).run Tryz.prog w = .ok (.tuple #[.agg #[v0, v1], .agg #[u0, u1], ok]) w := by
  have hr : Tryz.f40.results = #[.cell 2 96, .cell 3 98, .tmp 4] := by kernel_rfl
  unfold results
  rw [hr]
  simp [h2, h3, h4, go_sem, c0, c1, d0, d1]
  try simp [go_sem, c0, c1, d0, d1, Result.andThen]
theorem form_back {R : Ending → World → Prop} {a : Act} {w1 : World} {b1 b2 : Nat} {c1 c2 : Array Value} {v0 v1 u0 u1 ok : Value} (B1 : Blk w1 b1 c1 96) (B2 : Blk w1 b2 c2 98) (s1 : c1.size = 2) (s2 : c2.size = 2) (hne : b1 ≠ b2)
    (h2 : a.tmps[2]?.getD undef = .pointer (some ⟨b1, 0, none⟩)) (h3 : a.tmps[3]?.getD undef = .pointer (some ⟨b2, 0, none⟩)) (h4 : a.tmps[4]?.getD undef = ok) (hd : a.defers = [])
    (hR : ∀ wf, Keep (fun k => k = b1 ∨ k = b2) w1 wf → R (.returned (.tuple #[.agg #[v0, v1], .agg #[u0, u1], ok])) wf) :
    bodyPost Tryz.prog Tryz.f40 R .ret a ((((w1.setCell ⟨b1, 0, none⟩ v0).setCell ⟨b1, 1, none⟩ v1).setCell ⟨b2, 0, none⟩ u0).setCell ⟨b2, 1, none⟩ u1) := by
  have D1 := (((B1.set 0 v0).set 1 v1).setOther ⟨b2, 0, none⟩ u0 hne).setOther ⟨b2, 1, none⟩ u1 hne
  have D2 := (((B2.setOther ⟨b1, 0, none⟩ v0 (fun h => hne h.symm)).setOther ⟨b1, 1, none⟩ v1 (fun h => hne h.symm)).set 0 u0).set 1 u1
  refine bodyPost_ret (form_results _ _ h2 h3 h4 ((D1.cell 0).trans ?_) ((D1.cell 1).trans ?_) ((D2.cell 0).trans ?_) ((D2.cell 1).trans ?_)) hd (hR _ ?_)
  · simp [s1]
  · simp [s1]
  · simp [s2]
  · simp [s2]
  · exact ((((Keep.refl _ _).setCell _ _ (fun _ => .inl rfl)).setCell _ _ (fun _ => .inl rfl)).setCell _ _ (fun _ => .inr rfl)).setCell _ _ (fun _ => .inr rfl)

theorem form_backd {R : Ending → World → Prop} {a : Act} {w1 : World} {b1 b2 : Nat} {c1 c2 : Array Value} {v0 v1 u0 u1 ok : Value} (B1 : Blk w1 b1 c1 96) (B2 : Blk w1 b2 c2 98) (s1 : c1.size = 2) (s2 : c2.size = 2) (hne : b1 ≠ b2)
    (h2 : a.tmps[2]?.getD undef = .pointer (some ⟨b1, 0, none⟩)) (h3 : a.tmps[3]?.getD undef = .pointer (some ⟨b2, 0, none⟩)) (h4 : a.tmps[4]?.getD undef = ok) (hd : a.defers = [])
    (hR : ∀ wf, Keep (fun k => k = b1 ∨ k = b2) w1 wf → R (.returned (.tuple #[.agg #[v0, v1], .agg #[u0, u1], ok])) wf) :
    bodyPost Tryz.prog Tryz.f40 R .ret a ((((w1.setCell ⟨b1, 0, none⟩ v0).setCell ⟨b1, 1, none⟩ v1).setCell ⟨b2, 0, none⟩ u0).setCell ⟨b2, 1, none⟩ u1).drew := by
  have D1 := (((B1.set 0 v0).set 1 v1).setOther ⟨b2, 0, none⟩ u0 hne).setOther ⟨b2, 1, none⟩ u1 hne
  have D2 := (((B2.setOther ⟨b1, 0, none⟩ v0 (fun h => hne h.symm)).setOther ⟨b1, 1, none⟩ v1 (fun h => hne h.symm)).set 0 u0).set 1 u1
  refine bodyPost_ret (form_results _ _ h2 h3 h4 ((D1.drew.cell 0).trans ?_) ((D1.drew.cell 1).trans ?_) ((D2.drew.cell 0).trans ?_) ((D2.drew.cell 1).trans ?_)) hd (hR _ ?_)
  · simp [s1]
  · simp [s1]
  · simp [s2]
  · simp [s2]
  · exact (((((Keep.refl _ _).setCell _ _ (fun _ => .inl rfl)).setCell _ _ (fun _ => .inl rfl)).setCell _ _ (fun _ => .inr rfl)).setCell _ _ (fun _ => .inr rfl)).drew

theorem toList_bs (s : ByteArray) (l : List UInt8) : s.toList = l ↔ s = bs l := by
  rw [ByteArray.toList_eq]
  constructor
  · intro h
    exact ByteArray.ext (by rw [← h]; rfl)
  · intro h; rw [h]; rfl
theorem beq_dec (s t : ByteArray) : (s.toList == t.toList) = decide (s = t) := by
  by_cases h : s = t
  · rw [h]; simp
  · rw [decide_eq_false h]
    exact beq_eq_false_iff_ne.2 (fun h' => h (by rw [ByteArray.toList_eq, ByteArray.toList_eq] at h'; exact ByteArray.ext (Array.toList_inj.1 h')))
theorem chF_len {s so : List UInt8} {f : Nat} (h : chF s = some (so, f)) : 1 ≤ so.length ∧ so.length ≤ 3 := by
  unfold chF at h
  repeat' split at h
  all_goals first | (cases h; simp; done) | (cases h)
theorem splitB_size (sep : ByteArray) (save : Nat) : ∀ (k : Nat) (s : ByteArray), ∀ x ∈ Lib.splitB sep save k s, x.size ≤ s.size := by
  intro k
  induction k with
  | zero => intro s x hx; simp [Lib.splitB] at hx; rw [hx]; exact Nat.le_refl _
  | succ k ih =>
    intro s x hx
    unfold Lib.splitB at hx
    split at hx
    · simp at hx; rw [hx]; exact Nat.le_refl _
    · rcases List.mem_cons.1 hx with h | h
      · rw [h, ByteArray.size_extract]; omega
      · have := ih _ x h
        rw [ByteArray.size_extract] at this; omega
theorem word_size {s : ByteArray} {j : Nat} (hj : j < (words s).length) : ((words s).getD j ByteArray.empty).size ≤ s.size := by
  have e : (words s).getD j ByteArray.empty = (words s)[j] := by simp [List.getD, hj]
  rw [e]
  exact splitB_size _ _ _ _ _ (List.getElem_mem hj)
def SplitPost2 (w0 w1 : World) (s : ByteArray) (bm : Nat) (e : Ending) (w2 : World) : Prop :=
  e = .returned (.slice (some ⟨w1.heap.size, 0, none⟩) (words s).length (words s).length) ∧ Keep (fun _ => False) w0 w2 ∧ w2.cell? ⟨0, 0, none⟩ = some (.map (some bm)) ∧
  (∀ j, j < (words s).length → w2.cell? ⟨w1.heap.size, j, none⟩ = some (.string ((words s).getD j ByteArray.empty))) ∧
  (∀ W, Keep (fun _ => False) w2 W → (Instr.lookup 118 (.map (some bm)) (.string ((words s).getD 0 ByteArray.empty)) true).run Tryz.prog W = .ok (.tuple #[chV ((words s).getD 0 ByteArray.empty).data.toList, .bool (chF ((words s).getD 0 ByteArray.empty).data.toList).isSome]) W)

theorem split2_any {w w0 w1 : World} {s : ByteArray} {bm : Nat} (hG : Glob w) (hk0 : Keep (fun _ => False) w w0) (hk1 : Keep (fun _ => False) w0 w1) (hs : s.size ≤ 4096) (hm : w.cell? ⟨0, 0, none⟩ = some (.map (some bm))) (hbm : bm < w.heap.size) (hch : ChAt bm w.heap[bm]?) :
    Calls Tryz.prog 13 #[.string s, .string ⟨#[32]⟩] w1 (SplitPost2 w0 w1 s bm) := by
  have hk := hk0.trans hk1 (fun _ _ h => h)
  refine (split_any (hG.keep hk) hs).mono ?_
  rintro e w2 ⟨rfl, rfl⟩
  have h9 := hG.size
  refine ⟨rfl, hk1.alloc _, ?_, fun j hj => ?_, fun W hW => ?_⟩
  · rw [((hk.alloc _).cell (p := ⟨0, 0, none⟩) (show 0 < w.heap.size by omega) (fun h => h))]; exact hm
  · have := words_cell w1 s j hj
    rwa [Nat.zero_add] at this
  · have h1 : 0 < (words s).length := by rw [words_length]; omega
    exact hch W (((hk.alloc _).trans hW (fun _ _ h => h)).block bm hbm (fun h => h)) _ (Nat.le_trans (word_size h1) hs)

set_option maxHeartbeats 6000000 in
set_option maxRecDepth 100000 in
theorem form_any {w : World} {s : ByteArray} (hG : Glob w) (hs : s.size ≤ 9223372036854775807) : Calls Tryz.prog 40 #[.string s] w (FormPost w s) := by
  obtain ⟨w0, hw0⟩ : ∃ w0, w0 = (w.alloc (.cells #[.string ⟨#[]⟩, .nilFunc] 96)).alloc (.cells #[.slice none 0 0, .string ⟨#[]⟩] 98) := ⟨_, rfl⟩
  have hk0 : Keep (fun _ => False) w w0 := by rw [hw0]; exact ((Keep.refl _ _).alloc _).alloc _
  have hn1 : Blk w0 w.heap.size #[.string ⟨#[]⟩, .nilFunc] 96 := by rw [hw0]; exact (Blk.new _ _ _).alloc _
  have hn2 : Blk w0 (w.heap.size + 1) #[.slice none 0 0, .string ⟨#[]⟩] 98 := by
    rw [hw0]; have := Blk.new (w.alloc (.cells #[.string ⟨#[]⟩, .nilFunc] 96)) #[.slice none 0 0, .string ⟨#[]⟩] 98
    rwa [World.size_alloc] at this
  have HR : Hid (∀ W, Keep (fun _ => False) w0 W → (W.cell? ⟨w.heap.size, 0, none⟩ = some (.string ⟨#[]⟩) ∧ W.cell? ⟨w.heap.size, 1, none⟩ = some .nilFunc ∧ W.cell? ⟨w.heap.size + 1, 0, none⟩ = some (.slice none 0 0) ∧ W.cell? ⟨w.heap.size + 1, 1, none⟩ = some (.string ⟨#[]⟩)) ∧
      W.frozen? ⟨w.heap.size, 0, none⟩ = false ∧ W.frozen? ⟨w.heap.size, 1, none⟩ = false ∧ W.frozen? ⟨w.heap.size + 1, 0, none⟩ = false ∧ W.frozen? ⟨w.heap.size + 1, 1, none⟩ = false) := Lib.hid fun W hk =>
    ⟨⟨((hn1.keep hk (fun h => h)).cell 0), ((hn1.keep hk (fun h => h)).cell 1), ((hn2.keep hk (fun h => h)).cell 0), ((hn2.keep hk (fun h => h)).cell 1)⟩,
      ((hn1.keep hk (fun h => h)).free 0), ((hn1.keep hk (fun h => h)).free 1), ((hn2.keep hk (fun h => h)).free 0), ((hn2.keep hk (fun h => h)).free 1)⟩
  have HL := Lib.hid (isLine_any (w := w0) (s := s) (hG.keep hk0) hs)
  have HG := Lib.hid hG; clear hG
  have HW0 := Lib.hid hw0; clear hw0
  have HK0 := Lib.hid hk0; clear hk0
  cases hl : isLineB s with
  | false =>
    have HF := Lib.hid (show formF s = none by unfold formF; rw [hl]; rfl)
    rw [hl] at HL; clear hl
    go_enter Tryz.func40, Tryz.ntmps40
    go_wp2_with (go_at_call 44; rw [← HW0.out]; refine HL.out.mono ?_; rintro e w1 ⟨rfl, hk1⟩; obtain ⟨⟨r0, r1, r2, r3⟩, g0, g1, g2, g3⟩ := HR.out w1 hk1; have HK1 := Lib.hid hk1; clear hk1)
    (try simp only [Exit.inBlock, Exit.then])
    refine form_back (hn1.keep HK1.out (fun h => h)) (hn2.keep HK1.out (fun h => h)) rfl rfl (by omega) rfl rfl rfl rfl (fun wf hkf => ?_)
    show FormPost _ _ _ _
    unfold FormPost
    rw [HF.out]
    exact ⟨rfl, (HK0.out.trans HK1.out (fun _ _ h => h)).trans hkf (fun k hk e => by omega)⟩
  | true =>
    have hs2 : s.size ≤ 200 := by unfold isLineB at hl; simp at hl; exact hl.1
    obtain ⟨bm, hm, hbm, hch⟩ := HG.out.changes
    have HSPL : Hid (∀ w1, Keep (fun _ => False) w0 w1 → Calls Tryz.prog 13 #[.string s, .string ⟨#[32]⟩] w1 (SplitPost2 w0 w1 s bm)) := Lib.hid fun w1 hk1 => split2_any HG.out HK0.out hk1 (by omega) hm hbm hch
    clear hm hbm hch
    have hL1 : 1 ≤ (words s).length := by rw [words_length]; omega
    have hL2 : (words s).length ≤ 201 := by
      have := Lib.countB_le ⟨#[32]⟩ (by decide) s.size s (Nat.le_refl _)
      rw [words_length]; omega
    unfold SplitPost2 at HSPL
    have HFX := Lib.hid (show formF s = match chF ((words s).getD 0 ByteArray.empty).data.toList with
      | some (so, f) => if (words s).length - 1 = so.length then some (so, f, foldF so (words s).tail) else none
      | none => none by unfold formF; rw [hl]; rw [if_pos rfl]; cases hw : words s with | nil => rw [hw] at hL1; exact absurd hL1 (by simp) | cons a b => rfl)
    rw [hl] at HL; clear hl
    obtain ⟨ws, hws⟩ : ∃ ws, words s = ws := ⟨_, rfl⟩
    rw [hws] at HSPL hL1 hL2 HFX
    have HWS := Lib.hid hws; clear hws
    obtain ⟨hd, hhd⟩ : ∃ hd, ws.getD 0 ByteArray.empty = hd := ⟨_, rfl⟩
    have HHD := Lib.hid hhd
    have HN1 := Lib.hid hn1; clear hn1
    have HN2 := Lib.hid hn2; clear hn2
    cases hc : chF hd.data.toList with
    | none =>
      have HF := Lib.hid (show formF s = none by rw [HFX.out, hhd, hc])
      rw [hhd] at HSPL
      have hcv : chV hd.data.toList = .agg #[.string ⟨#[]⟩, .nilFunc] := by unfold chV; rw [hc]; rfl
      rw [hc, hcv] at HSPL
      clear hc hhd hcv
      go_enter Tryz.func40, Tryz.ntmps40
      go_wp2_with (first
        | (go_at_call 44; rw [← HW0.out]; refine HL.out.mono ?_; rintro e w1 ⟨rfl, hk1⟩; have HK1 := Lib.hid hk1; clear hk1)
        | (go_at_call 13; refine (HSPL.out w1 HK1.out).mono ?_; rintro e w2 ⟨rfl, hk2, cg, cw, hlk⟩; have HK2 := Lib.hid hk2; clear hk2; have cw0 := cw 0 (by omega); rw [HHD.out] at cw0; have HLK := Lib.hid hlk; (try rw [HHD.out] at HLK); clear hlk; have HCW := Lib.hid cw; clear cw; obtain ⟨⟨r0, r1, r2, r3⟩, g0, g1, g2, g3⟩ := HR.out w2 HK2.out))
      have hz2 : w1.heap.size < w2.heap.size := by
        have := World.block_lt_of_cell? w2 _ cw0
        exact this
      have h9 := HG.out.size
      have hz1 := HK1.out.size
      have hz0 := HK0.out.size
      have HS : Hid (∀ W, Keep (fun k => k = w2.heap.size) w2 W → W.cell? ⟨0, 0, none⟩ = some (.map (some bm)) ∧ W.cell? ⟨w1.heap.size, 0, none⟩ = some (.string hd) ∧ (Instr.lookup 118 (.map (some bm)) (.string hd) true).run Tryz.prog W = .ok (.tuple #[.agg #[.string ⟨#[]⟩, .nilFunc], .bool false]) W) := Lib.hid fun W hk => by
        have hk' : Keep (fun _ => False) w2 W := hk.mono (fun k h1 h2 => by omega)
        exact ⟨(hk'.cell (p := ⟨0, 0, none⟩) (show 0 < w2.heap.size by omega) (fun h => h)).trans cg, (hk'.cell (p := ⟨w1.heap.size, 0, none⟩) hz2 (fun h => h)).trans cw0, by rw [HLK.out W hk']; rfl⟩
      refine wp_region_held_drew (S := fun W => W.cell? ⟨0, 0, none⟩ = some (.map (some bm)) ∧ W.cell? ⟨w1.heap.size, 0, none⟩ = some (.string hd) ∧ (Instr.lookup 118 (.map (some bm)) (.string hd) true).run Tryz.prog W = .ok (.tuple #[.agg #[.string ⟨#[]⟩, .nilFunc], .bool false]) W) (by kernel_rfl) (HS.out _ (Keep.refl _ _).drew) (fun hHeld => ?_)
      have hL0 : 0 < ws.length := hL1
      refine wpAnyH_take (i := 0) (oi := _) (v := ?_) rfl (by kernel_rfl) (by kernel_rfl) (by kernel_rfl) (fun _ _ _ h => h) (Or.inl ⟨by rfl, ?_⟩) (by assumption) ?_
      rotate_left
      · (intro w hSw; (try dsimp only at hSw); go_simp) <;> with_reducible rfl
      (try simp only [List.getElem_toArray, List.getElem_cons_zero, List.getElem_cons_succ, Act.put, List.setIfInBounds_toArray, List.set_cons_zero, List.set_cons_succ])
      refine wpAnyH_take (i := 1) (oi := _) (v := ?_) rfl (by kernel_rfl) (by kernel_rfl) (by kernel_rfl) (fun _ _ _ h => h) (Or.inl ⟨by rfl, ?_⟩) (by assumption) ?_
      rotate_left
      · (intro w hSw; (try dsimp only at hSw); go_simp) <;> with_reducible rfl
      (try simp only [List.getElem_toArray, List.getElem_cons_zero, List.getElem_cons_succ, Act.put, List.setIfInBounds_toArray, List.set_cons_zero, List.set_cons_succ])
      refine wpAnyH_take (i := 2) (oi := _) (v := ?_) rfl (by kernel_rfl) (by kernel_rfl) (by kernel_rfl) (fun _ _ _ h => h) (Or.inl ⟨by rfl, ?_⟩) (by assumption) ?_
      rotate_left
      · (intro w hSw; (try dsimp only at hSw); go_simp) <;> with_reducible rfl
      (try simp only [List.getElem_toArray, List.getElem_cons_zero, List.getElem_cons_succ, Act.put, List.setIfInBounds_toArray, List.set_cons_zero, List.set_cons_succ])
      refine wpAnyH_take (i := 3) (oi := _) (v := ?_) rfl (by kernel_rfl) (by kernel_rfl) (by kernel_rfl) (fun _ _ _ h => h) (Or.inl ⟨by rfl, ?_⟩) (by assumption) ?_
      rotate_left
      · (intro w hSw; (try dsimp only at hSw); go_simp) <;> with_reducible rfl
      (try simp only [List.getElem_toArray, List.getElem_cons_zero, List.getElem_cons_succ, Act.put, List.setIfInBounds_toArray, List.set_cons_zero, List.set_cons_succ])
      refine wpAnyH_take (i := 4) (oi := _) (v := ?_) rfl (by kernel_rfl) (by kernel_rfl) (by kernel_rfl) (fun _ _ _ h => h) (Or.inl ⟨by rfl, ?_⟩) (by assumption) ?_
      rotate_left
      · (intro w hSw; (try dsimp only at hSw); go_simp) <;> with_reducible rfl
      (try simp only [List.getElem_toArray, List.getElem_cons_zero, List.getElem_cons_succ, Act.put, List.setIfInBounds_toArray, List.set_cons_zero, List.set_cons_succ])
      refine wpAnyH_take (i := 5) (oi := _) (v := ?_) rfl (by kernel_rfl) (by kernel_rfl) (by kernel_rfl) (fun _ _ _ h => h) (Or.inl ⟨by rfl, ?_⟩) (by assumption) ?_
      rotate_left
      · (intro w hSw; (try dsimp only at hSw); go_simp) <;> with_reducible rfl
      (try simp only [List.getElem_toArray, List.getElem_cons_zero, List.getElem_cons_succ, Act.put, List.setIfInBounds_toArray, List.set_cons_zero, List.set_cons_succ])
      refine wpAnyH_take (i := 6) (oi := _) (v := ?_) rfl (by kernel_rfl) (by kernel_rfl) (by kernel_rfl) (fun _ _ _ h => h) (Or.inl ⟨by rfl, ?_⟩) (by assumption) ?_
      rotate_left
      · (intro w hSw; (try dsimp only at hSw); go_simp) <;> with_reducible rfl
      (try simp only [List.getElem_toArray, List.getElem_cons_zero, List.getElem_cons_succ, Act.put, List.setIfInBounds_toArray, List.set_cons_zero, List.set_cons_succ])
      refine wpAnyH_take (i := 7) (oi := _) (v := ?_) rfl (by kernel_rfl) (by kernel_rfl) (by kernel_rfl) (fun _ _ _ h => h) (Or.inl ⟨by rfl, ?_⟩) (by assumption) ?_
      rotate_left
      · (intro w hSw; (try dsimp only at hSw); go_simp) <;> with_reducible rfl
      (try simp only [List.getElem_toArray, List.getElem_cons_zero, List.getElem_cons_succ, Act.put, List.setIfInBounds_toArray, List.set_cons_zero, List.set_cons_succ])
      refine wpAnyH_ready (rs := [8]) (by kernel_rfl) (by simp) ?_
      refine AllReadyH.cons (o := _) rfl (fun K hK => ?_) AllReadyH.nil
      go_simp
      refine hK.out _ _ ?_ (fun hHeld => ?_)
      · (refine HS.out _ ?_; repeat (first | exact Keep.refl _ _ | apply Keep.drew | apply Keep.alloc | refine Keep.setCell ?_ _ _ (fun _ => rfl)))
      clear hK K
      (try simp only [List.getElem_toArray, List.getElem_cons_zero, List.getElem_cons_succ, Act.put, List.setIfInBounds_toArray, List.set_cons_zero, List.set_cons_succ])
      refine wpAnyH_ready (rs := [9]) (by kernel_rfl) (by simp) ?_
      refine AllReadyH.cons (o := _) rfl (fun K hK => ?_) AllReadyH.nil
      go_simp
      refine hK.out _ _ ?_ (fun hHeld => ?_)
      · (refine HS.out _ ?_; repeat (first | exact Keep.refl _ _ | apply Keep.drew | apply Keep.alloc | refine Keep.setCell ?_ _ _ (fun _ => rfl)))
      clear hK K
      (try simp only [List.getElem_toArray, List.getElem_cons_zero, List.getElem_cons_succ, Act.put, List.setIfInBounds_toArray, List.set_cons_zero, List.set_cons_succ])
      refine wpAnyH_take (i := 10) (oi := _) (v := ?_) rfl (by kernel_rfl) (by kernel_rfl) (by kernel_rfl) (fun _ _ _ h => h) (Or.inl ⟨by rfl, ?_⟩) (by assumption) ?_
      rotate_left
      · (intro w hSw; (try dsimp only at hSw); go_simp) <;> with_reducible rfl
      (try simp only [List.getElem_toArray, List.getElem_cons_zero, List.getElem_cons_succ, Act.put, List.setIfInBounds_toArray, List.set_cons_zero, List.set_cons_succ])
      refine wpAnyH_done (by kernel_rfl) ?_ _
      have hk3 : Keep (fun _ => False) w0 (w2.alloc (.cells #[.string ⟨#[]⟩, .nilFunc] 96)).drew := (HK2.out.alloc _).drew
      obtain ⟨w3, hw3⟩ : ∃ w3, w3 = (w2.alloc (.cells #[.string ⟨#[]⟩, .nilFunc] 96)).drew := ⟨_, rfl⟩
      rw [← hw3] at hk3
      rw [← hw3]
      clear hw3 r0 r1 r2 r3 g0 g1 g2 g3 cw0 cg HS
      obtain ⟨⟨r0, r1, r2, r3⟩, g0, g1, g2, g3⟩ := HR.out w3 hk3
      have HK3 := Lib.hid hk3; clear hk3
      go_wp2
      (try simp only [Exit.inBlock, Exit.then])
      refine form_back (HN1.out.keep HK3.out (fun h => h)) (HN2.out.keep HK3.out (fun h => h)) rfl rfl (by omega) rfl rfl rfl rfl (fun wf hkf => ?_)
      show FormPost _ _ _ _
      unfold FormPost
      rw [HF.out]
      exact ⟨rfl, (HK0.out.trans HK3.out (fun _ _ h => h)).trans hkf (fun k hk e => by omega)⟩
    | some x =>
      obtain ⟨so, f⟩ := x
      rw [hhd] at HSPL
      have hcv : chV hd.data.toList = .agg #[.string (bs so), .func (.func f) #[] #[]] := by unfold chV; rw [hc]
      have HF := Lib.hid (show formF s = (if ws.length - 1 = so.length then some (so, f, foldF so ws.tail) else none) by rw [HFX.out, hhd, hc])
      rw [hc, hcv] at HSPL
      have HC := Lib.hid hc; clear hc
      have hso : (bs so).size = so.length := by simp [bs, ByteArray.size]
      clear hhd hcv
      go_enter Tryz.func40, Tryz.ntmps40
      go_wp2_with (first
        | (go_at_call 44; rw [← HW0.out]; refine HL.out.mono ?_; rintro e w1 ⟨rfl, hk1⟩; have HK1 := Lib.hid hk1; clear hk1)
        | (go_at_call 13; refine (HSPL.out w1 HK1.out).mono ?_; rintro e w2 ⟨rfl, hk2, cg, cw, hlk⟩; have HK2 := Lib.hid hk2; clear hk2; have cw0 := cw 0 (by omega); rw [HHD.out] at cw0; have HLK := Lib.hid hlk; (try rw [HHD.out] at HLK); clear hlk; have HCW := Lib.hid cw; clear cw; obtain ⟨⟨r0, r1, r2, r3⟩, g0, g1, g2, g3⟩ := HR.out w2 HK2.out))
      have hz2 : w1.heap.size < w2.heap.size := by
        have := World.block_lt_of_cell? w2 _ cw0
        exact this
      have h9 := HG.out.size
      have hz1 := HK1.out.size
      have hz0 := HK0.out.size
      have HS : Hid (∀ W, Keep (fun k => k = w2.heap.size) w2 W → W.cell? ⟨0, 0, none⟩ = some (.map (some bm)) ∧ W.cell? ⟨w1.heap.size, 0, none⟩ = some (.string hd) ∧ (Instr.lookup 118 (.map (some bm)) (.string hd) true).run Tryz.prog W = .ok (.tuple #[.agg #[.string (bs so), .func (.func f) #[] #[]], .bool true]) W) := Lib.hid fun W hk => by
        have hk' : Keep (fun _ => False) w2 W := hk.mono (fun k h1 h2 => by omega)
        exact ⟨(hk'.cell (p := ⟨0, 0, none⟩) (show 0 < w2.heap.size by omega) (fun h => h)).trans cg, (hk'.cell (p := ⟨w1.heap.size, 0, none⟩) hz2 (fun h => h)).trans cw0, by rw [HLK.out W hk']; rfl⟩
      refine wp_region_held_drew (S := fun W => W.cell? ⟨0, 0, none⟩ = some (.map (some bm)) ∧ W.cell? ⟨w1.heap.size, 0, none⟩ = some (.string hd) ∧ (Instr.lookup 118 (.map (some bm)) (.string hd) true).run Tryz.prog W = .ok (.tuple #[.agg #[.string (bs so), .func (.func f) #[] #[]], .bool true]) W) (by kernel_rfl) (HS.out _ (Keep.refl _ _).drew) (fun hHeld => ?_)
      have hL0 : 0 < ws.length := hL1
      refine wpAnyH_take (i := 0) (oi := _) (v := ?_) rfl (by kernel_rfl) (by kernel_rfl) (by kernel_rfl) (fun _ _ _ h => h) (Or.inl ⟨by rfl, ?_⟩) (by assumption) ?_
      rotate_left
      · (intro w hSw; (try dsimp only at hSw); go_simp) <;> with_reducible rfl
      (try simp only [List.getElem_toArray, List.getElem_cons_zero, List.getElem_cons_succ, Act.put, List.setIfInBounds_toArray, List.set_cons_zero, List.set_cons_succ])
      refine wpAnyH_take (i := 1) (oi := _) (v := ?_) rfl (by kernel_rfl) (by kernel_rfl) (by kernel_rfl) (fun _ _ _ h => h) (Or.inl ⟨by rfl, ?_⟩) (by assumption) ?_
      rotate_left
      · (intro w hSw; (try dsimp only at hSw); go_simp) <;> with_reducible rfl
      (try simp only [List.getElem_toArray, List.getElem_cons_zero, List.getElem_cons_succ, Act.put, List.setIfInBounds_toArray, List.set_cons_zero, List.set_cons_succ])
      refine wpAnyH_take (i := 2) (oi := _) (v := ?_) rfl (by kernel_rfl) (by kernel_rfl) (by kernel_rfl) (fun _ _ _ h => h) (Or.inl ⟨by rfl, ?_⟩) (by assumption) ?_
      rotate_left
      · (intro w hSw; (try dsimp only at hSw); go_simp) <;> with_reducible rfl
      (try simp only [List.getElem_toArray, List.getElem_cons_zero, List.getElem_cons_succ, Act.put, List.setIfInBounds_toArray, List.set_cons_zero, List.set_cons_succ])
      refine wpAnyH_take (i := 3) (oi := _) (v := ?_) rfl (by kernel_rfl) (by kernel_rfl) (by kernel_rfl) (fun _ _ _ h => h) (Or.inl ⟨by rfl, ?_⟩) (by assumption) ?_
      rotate_left
      · (intro w hSw; (try dsimp only at hSw); go_simp) <;> with_reducible rfl
      (try simp only [List.getElem_toArray, List.getElem_cons_zero, List.getElem_cons_succ, Act.put, List.setIfInBounds_toArray, List.set_cons_zero, List.set_cons_succ])
      refine wpAnyH_take (i := 4) (oi := _) (v := ?_) rfl (by kernel_rfl) (by kernel_rfl) (by kernel_rfl) (fun _ _ _ h => h) (Or.inl ⟨by rfl, ?_⟩) (by assumption) ?_
      rotate_left
      · (intro w hSw; (try dsimp only at hSw); go_simp) <;> with_reducible rfl
      (try simp only [List.getElem_toArray, List.getElem_cons_zero, List.getElem_cons_succ, Act.put, List.setIfInBounds_toArray, List.set_cons_zero, List.set_cons_succ])
      refine wpAnyH_take (i := 5) (oi := _) (v := ?_) rfl (by kernel_rfl) (by kernel_rfl) (by kernel_rfl) (fun _ _ _ h => h) (Or.inl ⟨by rfl, ?_⟩) (by assumption) ?_
      rotate_left
      · (intro w hSw; (try dsimp only at hSw); go_simp) <;> with_reducible rfl
      (try simp only [List.getElem_toArray, List.getElem_cons_zero, List.getElem_cons_succ, Act.put, List.setIfInBounds_toArray, List.set_cons_zero, List.set_cons_succ])
      refine wpAnyH_take (i := 6) (oi := _) (v := ?_) rfl (by kernel_rfl) (by kernel_rfl) (by kernel_rfl) (fun _ _ _ h => h) (Or.inl ⟨by rfl, ?_⟩) (by assumption) ?_
      rotate_left
      · (intro w hSw; (try dsimp only at hSw); go_simp) <;> with_reducible rfl
      (try simp only [List.getElem_toArray, List.getElem_cons_zero, List.getElem_cons_succ, Act.put, List.setIfInBounds_toArray, List.set_cons_zero, List.set_cons_succ])
      refine wpAnyH_take (i := 7) (oi := _) (v := ?_) rfl (by kernel_rfl) (by kernel_rfl) (by kernel_rfl) (fun _ _ _ h => h) (Or.inl ⟨by rfl, ?_⟩) (by assumption) ?_
      rotate_left
      · (intro w hSw; (try dsimp only at hSw); go_simp) <;> with_reducible rfl
      (try simp only [List.getElem_toArray, List.getElem_cons_zero, List.getElem_cons_succ, Act.put, List.setIfInBounds_toArray, List.set_cons_zero, List.set_cons_succ])
      refine wpAnyH_ready (rs := [8]) (by kernel_rfl) (by simp) ?_
      refine AllReadyH.cons (o := _) rfl (fun K hK => ?_) AllReadyH.nil
      go_simp
      refine hK.out _ _ ?_ (fun hHeld => ?_)
      · (refine HS.out _ ?_; repeat (first | exact Keep.refl _ _ | apply Keep.drew | apply Keep.alloc | refine Keep.setCell ?_ _ _ (fun _ => rfl)))
      clear hK K
      (try simp only [List.getElem_toArray, List.getElem_cons_zero, List.getElem_cons_succ, Act.put, List.setIfInBounds_toArray, List.set_cons_zero, List.set_cons_succ])
      refine wpAnyH_ready (rs := [9]) (by kernel_rfl) (by simp) ?_
      refine AllReadyH.cons (o := _) rfl (fun K hK => ?_) AllReadyH.nil
      go_simp
      refine hK.out _ _ ?_ (fun hHeld => ?_)
      · (refine HS.out _ ?_; repeat (first | exact Keep.refl _ _ | apply Keep.drew | apply Keep.alloc | refine Keep.setCell ?_ _ _ (fun _ => rfl)))
      clear hK K
      (try simp only [List.getElem_toArray, List.getElem_cons_zero, List.getElem_cons_succ, Act.put, List.setIfInBounds_toArray, List.set_cons_zero, List.set_cons_succ])
      refine wpAnyH_take (i := 10) (oi := _) (v := ?_) rfl (by kernel_rfl) (by kernel_rfl) (by kernel_rfl) (fun _ _ _ h => h) (Or.inl ⟨by rfl, ?_⟩) (by assumption) ?_
      rotate_left
      · (intro w hSw; (try dsimp only at hSw); go_simp) <;> with_reducible rfl
      (try simp only [List.getElem_toArray, List.getElem_cons_zero, List.getElem_cons_succ, Act.put, List.setIfInBounds_toArray, List.set_cons_zero, List.set_cons_succ])
      refine wpAnyH_done (by kernel_rfl) ?_ _
      have hk3 : Keep (fun _ => False) w0 (w2.alloc (.cells #[.string (bs so), .func (.func f) #[] #[]] 96)).drew := (HK2.out.alloc _).drew
      have hn3 : Blk (w2.alloc (.cells #[.string (bs so), .func (.func f) #[] #[]] 96)).drew w2.heap.size #[.string (bs so), .func (.func f) #[] #[]] 96 := (Blk.new _ _ _).drew
      have hk23 : Keep (fun _ => False) w2 (w2.alloc (.cells #[.string (bs so), .func (.func f) #[] #[]] 96)).drew := ((Keep.refl _ _).alloc _).drew
      obtain ⟨w3, hw3⟩ : ∃ w3, w3 = (w2.alloc (.cells #[.string (bs so), .func (.func f) #[] #[]] 96)).drew := ⟨_, rfl⟩
      rw [← hw3] at hk3 hn3 hk23
      rw [← hw3]
      clear hw3 r0 r1 r2 r3 g0 g1 g2 g3 cw0 cg HS
      have s0 := hn3.cell 0
      have s1 := hn3.cell 1
      simp at s0 s1
      have HN3 := Lib.hid hn3; clear hn3
      have HK23 := Lib.hid hk23; clear hk23
      have e1 : IntKind.i64.wrap ((ws.length : Int) - 1) = (ws.length : Int) - 1 := IntWalk.i64_in _ (by omega)
      by_cases hlen : ws.length - 1 = so.length
      · have hne : (((ws.length : Int) - 1) != ((bs so).size : Int)) = false := by rw [hso]; simp; omega
        have HK3 := Lib.hid hk3; clear hk3
        have hle1 : (1 : Int) ≤ (ws.length : Int) := by omega
        rw [if_pos hlen] at HF
        have hz3 := HK23.out.size
        have hsl := chF_len HC.out
        have hws1 : (ws.length = 1) = False := eq_false (by omega)
        have hws0 : (so.length = 0) = False := eq_false (by omega)
        have hk34 : Keep (fun _ => False) w3 (w3.alloc (.cells #[.slice none 0 0, .string ⟨#[]⟩] 98)) := (Keep.refl _ _).alloc _
        have hn4 : Blk (w3.alloc (.cells #[.slice none 0 0, .string ⟨#[]⟩] 98)) w3.heap.size #[.slice none 0 0, .string ⟨#[]⟩] 98 := Blk.new _ _ _
        have hz4 : (w3.alloc (.cells #[.slice none 0 0, .string ⟨#[]⟩] 98)).heap.size = w3.heap.size + 1 := by simp
        have HNIL := Lib.hid (World.ownsRow_nil (w3.alloc (.cells #[.slice none 0 0, .string ⟨#[]⟩] 98)) (w3.alloc (.cells #[.slice none 0 0, .string ⟨#[]⟩] 98)).heap.size 3 1)
        go_wp2
        obtain ⟨w4, hw4⟩ : ∃ w4, w4 = (w3.alloc (.cells #[.slice none 0 0, .string ⟨#[]⟩] 98)) := ⟨_, rfl⟩
        rw [← hw4] at hk34 hn4 hz4 HNIL
        rw [← hw4]
        clear hw4 s0 s1
        rw [show (((ws.length : Int) - 1) != (so.length : Int)) = false by rw [← hso]; exact hne]
        clear hne e1 hle1
        have HN4 := Lib.hid hn4; clear hn4
        have HK34 := Lib.hid hk34; clear hk34
        go_loopw [7, 44] (fun o i wr => ∃ (k : Nat) (a : FA) (vn : Value), k ≤ so.length ∧ i = .int .i64 k ∧ o = .bool a.ok ∧ a = ((so.zip ws.tail).take k).foldl stepF ⟨[], bs [], true⟩ ∧ a.n.length ≤ k ∧ wr.ownsRow w4.heap.size 3 1 vn a.n.length (icells a.n) ∧ Blk wr w3.heap.size #[vn, .string a.word] 98 ∧ Keep (fun b => b = w3.heap.size) w4 wr) (fun _ i _ => so.length - (intOf i).toNat)
        · exact ⟨0, ⟨[], bs [], true⟩, .slice none 0 0, by omega, rfl, rfl, by simp, by simp, HNIL.out, HN4.out, Keep.refl _ _⟩
        case round =>
          obtain ⟨k, a, vn, hk, rfl, rfl, ha, hnl, hown, hblk, hkeep⟩ := hrel
          have HA := Lib.hid ha; clear ha
          obtain ⟨ao, cap, hv, hcap, _⟩ := ownsRow_shape hown
          subst hv
          have HO := Lib.hid hown; clear hown
          have HB := Lib.hid hblk; clear hblk
          have HK := Lib.hid hkeep; clear hkeep
          have hz := HK.out.size
          have hl3 := HN3.out.lt
          have hl0 := HN2.out.lt
          have hk0r : Keep (fun b => b = w3.heap.size) w0 wr := ((HK3.out.trans HK34.out (fun _ _ h => h)).mono (fun _ _ h => h.elim)).trans HK.out (fun _ _ h => h)
          have hk0' : Keep (fun _ => False) w0 wr := hk0r.mono (fun k h1 h2 => by omega)
          have HK0R := Lib.hid hk0'; clear hk0r hk0'
          by_cases hlt : k < so.length
          · have B6 := ((HN3.out.keep HK34.out (fun h => h)).keep HK.out (show ¬ w2.heap.size = w3.heap.size by omega))
            have d0 := B6.cell 0
            have d2 := HB.out.cell 0
            have d3 := HB.out.cell 1
            have f2 := HB.out.free 0
            have f3 := HB.out.free 1
            simp at d0 d2 d3
            clear B6
            have hk2r : Keep (fun b => b = w3.heap.size) w2 wr := ((HK23.out.trans HK34.out (fun _ _ h => h)).mono (fun _ _ h => h.elim)).trans HK.out (fun _ _ h => h)
            have cwd := (hk2r.cell (p := ⟨w1.heap.size, k + 1, none⟩) (show w1.heap.size < w2.heap.size by omega) (show ¬ w1.heap.size = w3.heap.size by omega)).trans (HCW.out (k + 1) (by omega))
            clear hk2r
            rw [Nat.add_comm k 1] at cwd
            obtain ⟨wd, hwd⟩ : ∃ wd, ws.getD (1 + k) ByteArray.empty = wd := ⟨_, rfl⟩
            rw [hwd] at cwd
            obtain ⟨c, hcc⟩ : ∃ c, so[k]? = some c := ⟨so[k], List.getElem?_eq_getElem hlt⟩
            have hlti : ((k : Int) < (so.length : Int)) = True := by simp; omega
            have hwk : IntKind.i64.wrap ((k : Int) + 1) = (k : Int) + 1 := IntWalk.i64_in _ (by omega)
            have hzip : ((so.zip ws.tail).take (k + 1)).foldl stepF ⟨[], bs [], true⟩ = stepF a (c, wd) := by
              have hk1 : k < (so.zip ws.tail).length := by rw [List.length_zip, List.length_tail]; omega
              rw [List.take_succ_eq_append_getElem hk1, List.foldl_append, ← HA.out]
              have h1 : so[k] = c := by rw [List.getElem?_eq_getElem hlt] at hcc; exact Option.some.inj hcc
              have h2 : ws.tail[k]'(by rw [List.length_tail]; omega) = wd := by
                rw [← hwd, List.getElem_tail, Nat.add_comm 1 k]
                simp [List.getD, show k + 1 < ws.length by omega]
              simp only [List.getElem_zip, List.foldl_cons, List.foldl_nil, h1, h2]
            have HZ := Lib.hid hzip; clear hzip
            have hcb : (bs so)[k]'(by omega) = c := by
              rw [List.getElem?_eq_getElem hlt] at hcc
              rw [← Option.some.inj hcc]; rfl
            have hwds : wd.size ≤ 200 := by
              have := word_size (s := s) (j := 1 + k) (by rw [HWS.out]; omega)
              rw [HWS.out, hwd] at this; omega
            have hidx : ∀ W, (Instr.index 9 (.string (bs so)) (.int .i64 k)).run Tryz.prog W = .ok (.int .u8 c.toNat) W := fun W => by
              rw [run_index_string W 9 (bs so) .i64 k Tryz.underlying9, dif_pos (by omega)]
              simp only [Int.toNat_natCast, hcb]
            clear hcb hcc hwd
            have HNO : Hid ((Value.slice ao a.n.length cap).ownBlock ≠ some w3.heap.size) := Lib.hid fun h => by have := (ownsRow_lt HO.out _ h).1; rw [hz4] at this; omega
            have hfin : Hid (∀ (a' : FA) (vn : Value) (w6 : World), a' = stepF a (c, wd) → a'.n.length ≤ k + 1 → w6.ownsRow w4.heap.size 3 1 vn a'.n.length (icells a'.n) → Blk w6 w3.heap.size #[vn, .string a'.word] 98 → Keep (fun b => b = w3.heap.size) w4 w6 →
              ∃ (k_1 : Nat) (a : FA) (vn : Value), k_1 ≤ so.length ∧ Value.int .i64 ((k : Int) + 1) = .int .i64 k_1 ∧ Value.bool a'.ok = .bool a.ok ∧ a = ((so.zip ws.tail).take k_1).foldl stepF ⟨[], bs [], true⟩ ∧ a.n.length ≤ k_1 ∧ w6.ownsRow w4.heap.size 3 1 vn a.n.length (icells a.n) ∧ Blk w6 w3.heap.size #[vn, .string a.word] 98 ∧ Keep (fun b => b = w3.heap.size) w4 w6) :=
              Lib.hid fun a' vn w6 h1 h2 h3 h4 h5 => ⟨k + 1, a', vn, hlt, rfl, rfl, by rw [h1, HZ.out], h2, h3, h4, h5⟩
            by_cases hc1 : c = 115
            · subst hc1
              have hidx' : ∀ W, (Instr.index 9 (.string (bs so)) (.int .i64 k)).run Tryz.prog W = .ok (.int .u8 115) W := hidx
              clear hidx
              have hst : stepF a (115, wd) = ⟨a.n, wd, a.ok && isSpiceB wd⟩ := rfl
              have HST := Lib.hid hst; clear hst
              cases hok : a.ok with
              | false =>
                go_wp2
                go_roundw
                case rel => exact hfin.out ⟨a.n, wd, false⟩ _ _ (by rw [HST.out, hok]; rfl) (Nat.le_succ_of_le hnl) (ownsRow_setCell HO.out _ _ HNO.out) (by simpa using HB.out.set 1 (.string wd)) (HK.out.setCell _ _ (fun _ => rfl))
                case measure => simp [intOf]; omega
              | true =>
                go_wp2_with (go_at_call 62; have hh := isSpice_any (w := wr) (s := wd) (by omega); refine Calls.mono hh ?_; clear hh; rintro e w5 ⟨rfl, hk5⟩; have d3 := (hk5.cell (p := ⟨w3.heap.size, 1, none⟩) HB.out.lt (fun h => h)).trans d3; have f3 := (hk5.frozen (p := ⟨w3.heap.size, 1, none⟩) HB.out.lt (fun h => h)).trans f3; have HK5 := Lib.hid hk5; clear hk5)
                go_roundw
                case rel => exact hfin.out ⟨a.n, wd, isSpiceB wd⟩ _ _ (by rw [HST.out, hok]; rfl) (Nat.le_succ_of_le hnl) (ownsRow_setCell (ownsRow_keep HO.out HK5.out (fun _ _ h => h)) _ _ HNO.out) (by simpa using (HB.out.keep HK5.out (fun h => h)).set 1 (.string wd)) ((HK.out.trans HK5.out (fun _ _ h => h.elim)).setCell _ _ (fun _ => rfl))
                case measure => simp [intOf]; omega
            by_cases hc2 : c = 116
            · subst hc2
              have hidx' : ∀ W, (Instr.index 9 (.string (bs so)) (.int .i64 k)).run Tryz.prog W = .ok (.int .u8 116) W := hidx
              clear hidx
              have hst : stepF a (116, wd) = ⟨a.n, wd, a.ok && (decide (wd = goodB) || decide (wd = badBs))⟩ := rfl
              have HST := Lib.hid hst; clear hst
              cases hok : a.ok with
              | false =>
                go_wp2
                go_roundw
                case rel => exact hfin.out ⟨a.n, wd, false⟩ _ _ (by rw [HST.out, hok]; rfl) (Nat.le_succ_of_le hnl) (ownsRow_setCell HO.out _ _ HNO.out) (by simpa using HB.out.set 1 (.string wd)) (HK.out.setCell _ _ (fun _ => rfl))
                case measure => simp [intOf]; omega
              | true =>
                by_cases hg : wd = goodB
                · have hgl : (wd.toList = [103, 111, 111, 100]) = True := eq_true ((toList_bs _ _).2 hg)
                  have HG1 := Lib.hid (show decide (wd = goodB) = true from decide_eq_true hg); clear hg
                  go_wp2
                  go_roundw
                  case rel => exact hfin.out ⟨a.n, wd, true⟩ _ _ (by rw [HST.out, hok, HG1.out]; rfl) (Nat.le_succ_of_le hnl) (ownsRow_setCell HO.out _ _ HNO.out) (by simpa using HB.out.set 1 (.string wd)) (HK.out.setCell _ _ (fun _ => rfl))
                  case measure => simp [intOf]; omega
                · have hgl : (wd.toList = [103, 111, 111, 100]) = False := eq_false (fun h => hg ((toList_bs _ _).1 h))
                  have hbe1 : (wd.toList == [103, 111, 111, 100]) = false := beq_eq_false_iff_ne.2 (fun h => hg ((toList_bs _ _).1 h))
                  have HG1 := Lib.hid (show decide (wd = goodB) = false from decide_eq_false hg); clear hg
                  by_cases hb : wd = badBs
                  · have hbl : (wd.toList = [98, 97, 100]) = True := eq_true ((toList_bs _ _).2 hb)
                    have hbe2 : (wd.toList == [98, 97, 100]) = true := beq_iff_eq.2 ((toList_bs _ _).2 hb)
                    have HG2 := Lib.hid (show decide (wd = badBs) = true from decide_eq_true hb); clear hb
                    go_wp2
                    go_roundw
                    case rel => exact hfin.out ⟨a.n, wd, true⟩ _ _ (by rw [HST.out, hok, HG1.out, HG2.out]; rfl) (Nat.le_succ_of_le hnl) (ownsRow_setCell HO.out _ _ HNO.out) (by simpa using HB.out.set 1 (.string wd)) (HK.out.setCell _ _ (fun _ => rfl))
                    case measure => simp [intOf]; omega
                  · have hbl : (wd.toList = [98, 97, 100]) = False := eq_false (fun h => hb ((toList_bs _ _).1 h))
                    have hbe2 : (wd.toList == [98, 97, 100]) = false := beq_eq_false_iff_ne.2 (fun h => hb ((toList_bs _ _).1 h))
                    have HG2 := Lib.hid (show decide (wd = badBs) = false from decide_eq_false hb); clear hb
                    go_wp2
                    go_roundw
                    case rel => exact hfin.out ⟨a.n, wd, false⟩ _ _ (by rw [HST.out, hok, HG1.out, HG2.out]; rfl) (Nat.le_succ_of_le hnl) (ownsRow_setCell HO.out _ _ HNO.out) (by simpa using HB.out.set 1 (.string wd)) (HK.out.setCell _ _ (fun _ => rfl))
                    case measure => simp [intOf]; omega
            have hcx : ((c.toNat : Int) == 115) = false := by
              have : c.toNat ≠ 115 := fun h => hc1 (UInt8.toNat.inj h)
              simp; omega
            have hcy : ((c.toNat : Int) == 116) = false := by
              have : c.toNat ≠ 116 := fun h => hc2 (UInt8.toNat.inj h)
              simp; omega
            have hst : stepF a (c, wd) = ⟨a.n ++ [atoiN wd], a.word, a.ok && atoiOk wd && decide (wd.size ≤ 6) && decide (0 ≤ atoiN wd) && decide (itoaB (atoiN wd) = wd)⟩ := by
              unfold stepF; rw [if_neg hc1, if_neg hc2]
            have HST := Lib.hid hst; clear hst hc1 hc2
            cases hok : a.ok with
            | false =>
              cases hao : atoiOk wd with
              | false =>
                have HAO := Lib.hid (show atoiOk wd = false from hao)
                clear hao
                go_wp2_with (first | (go_at_call 63; have hh := atoi_any (w := wr) (s := wd) (HG.out.keep (HK0.out.trans HK0R.out (fun _ _ h => h))) (by omega); refine Calls.mono hh ?_; clear hh; rintro e w5 ⟨N, rfl, hk5⟩; rw [HAO.out]; simp only [errV]; have d2 := (hk5.cell (p := ⟨w3.heap.size, 0, none⟩) HB.out.lt (fun h => h)).trans d2; have f2 := (hk5.frozen (p := ⟨w3.heap.size, 0, none⟩) HB.out.lt (fun h => h)).trans f2; have HK5 := Lib.hid hk5; clear hk5) | (at_builtin; refine wpList_app (w := w5.alloc (.cells #[.int .i64 (atoiN wd)] 3)) rfl (.tmp 79) (.tmp 81) 22 22 rfl 3 (.int .i64 0) 1 8 Tryz.underlying22 info3' rfl ((ownsRow_keep HO.out HK5.out (fun _ _ h => h)).alloc _) rfl (Src.new (P := Tryz.prog) Tryz.underlying22 w5 1 [.int .i64 (atoiN wd)] 3 rfl (by simp [Value.oneCell'])) rfl ?hb1 ?hb2 ?hb3 ?hgo))
                case hb1 => first | omega | (simp; omega) | (unfold maxLen; omega) | (unfold maxLen; simp; omega)
                case hb2 => first | omega | (simp; omega) | (unfold maxLen; omega) | (unfold maxLen; simp; omega)
                case hb3 => have z2 := HK5.out.size; have z4 := HK.out.size; simp; omega
                case hgo =>
                intro v' w7 happ
                obtain ⟨ao7, cap7, rfl, _⟩ := ownsRow_shape happ.own
                have hb7 := (((HB.out.keep HK5.out (fun h => h)).alloc (.cells #[.int .i64 (atoiN wd)] 3)).keep happ.keep (fun e => HNO.out e))
                have hne7 : (Value.slice ao7 (a.n.length + 1) cap7).ownBlock ≠ some w3.heap.size := by
                  intro h
                  rcases happ.fresh with h1 | ⟨g, h1, h2⟩
                  · exact HNO.out (h1 ▸ h)
                  · have h5 : g = w3.heap.size := Option.some.inj (h1.symm.trans h)
                    have z1 := HB.out.lt; have z2 := HK5.out.size; rw [World.size_alloc] at h2
                    omega
                have hkf : Keep (fun b => b = w3.heap.size) w4 w7 := ((HK.out.trans HK5.out (fun _ _ h => h.elim)).alloc _).trans happ.keep (fun g hg e => by have h3 := ownsRow_lt HO.out g e; omega)
                have HKF := Lib.hid hkf; clear hkf
                have HNE7 := Lib.hid hne7; clear hne7
                have d2 := hb7.cell 0
                have f2 := hb7.free 0
                simp at d2
                have HB7 := Lib.hid hb7; clear hb7
                have HA7 := Lib.hid happ; clear happ
                go_wp2
                go_roundw
                case rel => exact hfin.out ⟨a.n ++ [atoiN wd], a.word, false⟩ (.slice ao7 (a.n.length + 1) cap7) _ (by rw [HST.out, hok]; rfl) (by simp; omega) (by simpa [icells, hz4] using ownsRow_setCell HA7.out.own ⟨w3.heap.size, 0, none⟩ (.slice ao7 (a.n.length + 1) cap7) HNE7.out) (by simpa using HB7.out.set 0 (.slice ao7 (a.n.length + 1) cap7)) (HKF.out.setCell _ _ (fun _ => rfl))
                case measure => simp [intOf]; omega
              | true =>
                have HAO := Lib.hid (show atoiOk wd = true from hao)
                clear hao
                go_wp2_with (first | (go_at_call 63; have hh := atoi_any (w := wr) (s := wd) (HG.out.keep (HK0.out.trans HK0R.out (fun _ _ h => h))) (by omega); refine Calls.mono hh ?_; clear hh; rintro e w5 ⟨N, rfl, hk5⟩; rw [HAO.out]; simp only [errV]; have d2 := (hk5.cell (p := ⟨w3.heap.size, 0, none⟩) HB.out.lt (fun h => h)).trans d2; have f2 := (hk5.frozen (p := ⟨w3.heap.size, 0, none⟩) HB.out.lt (fun h => h)).trans f2; have HK5 := Lib.hid hk5; clear hk5) | (at_builtin; refine wpList_app (w := w5.alloc (.cells #[.int .i64 (atoiN wd)] 3)) rfl (.tmp 79) (.tmp 81) 22 22 rfl 3 (.int .i64 0) 1 8 Tryz.underlying22 info3' rfl ((ownsRow_keep HO.out HK5.out (fun _ _ h => h)).alloc _) rfl (Src.new (P := Tryz.prog) Tryz.underlying22 w5 1 [.int .i64 (atoiN wd)] 3 rfl (by simp [Value.oneCell'])) rfl ?hb1 ?hb2 ?hb3 ?hgo))
                case hb1 => first | omega | (simp; omega) | (unfold maxLen; omega) | (unfold maxLen; simp; omega)
                case hb2 => first | omega | (simp; omega) | (unfold maxLen; omega) | (unfold maxLen; simp; omega)
                case hb3 => have z2 := HK5.out.size; have z4 := HK.out.size; simp; omega
                case hgo =>
                intro v' w7 happ
                obtain ⟨ao7, cap7, rfl, _⟩ := ownsRow_shape happ.own
                have hb7 := (((HB.out.keep HK5.out (fun h => h)).alloc (.cells #[.int .i64 (atoiN wd)] 3)).keep happ.keep (fun e => HNO.out e))
                have hne7 : (Value.slice ao7 (a.n.length + 1) cap7).ownBlock ≠ some w3.heap.size := by
                  intro h
                  rcases happ.fresh with h1 | ⟨g, h1, h2⟩
                  · exact HNO.out (h1 ▸ h)
                  · have h5 : g = w3.heap.size := Option.some.inj (h1.symm.trans h)
                    have z1 := HB.out.lt; have z2 := HK5.out.size; rw [World.size_alloc] at h2
                    omega
                have hkf : Keep (fun b => b = w3.heap.size) w4 w7 := ((HK.out.trans HK5.out (fun _ _ h => h.elim)).alloc _).trans happ.keep (fun g hg e => by have h3 := ownsRow_lt HO.out g e; omega)
                have HKF := Lib.hid hkf; clear hkf
                have HNE7 := Lib.hid hne7; clear hne7
                have d2 := hb7.cell 0
                have f2 := hb7.free 0
                simp at d2
                have HB7 := Lib.hid hb7; clear hb7
                have HA7 := Lib.hid happ; clear happ
                go_wp2
                go_roundw
                case rel => exact hfin.out ⟨a.n ++ [atoiN wd], a.word, false⟩ (.slice ao7 (a.n.length + 1) cap7) _ (by rw [HST.out, hok]; rfl) (by simp; omega) (by simpa [icells, hz4] using ownsRow_setCell HA7.out.own ⟨w3.heap.size, 0, none⟩ (.slice ao7 (a.n.length + 1) cap7) HNE7.out) (by simpa using HB7.out.set 0 (.slice ao7 (a.n.length + 1) cap7)) (HKF.out.setCell _ _ (fun _ => rfl))
                case measure => simp [intOf]; omega
            | true =>
              cases hao : atoiOk wd with
              | false =>
                have HAO := Lib.hid (show atoiOk wd = false from hao)
                clear hao
                go_wp2_with (first | (go_at_call 63; have hh := atoi_any (w := wr) (s := wd) (HG.out.keep (HK0.out.trans HK0R.out (fun _ _ h => h))) (by omega); refine Calls.mono hh ?_; clear hh; rintro e w5 ⟨N, rfl, hk5⟩; rw [HAO.out]; simp only [errV]; have d2 := (hk5.cell (p := ⟨w3.heap.size, 0, none⟩) HB.out.lt (fun h => h)).trans d2; have f2 := (hk5.frozen (p := ⟨w3.heap.size, 0, none⟩) HB.out.lt (fun h => h)).trans f2; have HK5 := Lib.hid hk5; clear hk5) | (at_builtin; refine wpList_app (w := w5.alloc (.cells #[.int .i64 (atoiN wd)] 3)) rfl (.tmp 79) (.tmp 81) 22 22 rfl 3 (.int .i64 0) 1 8 Tryz.underlying22 info3' rfl ((ownsRow_keep HO.out HK5.out (fun _ _ h => h)).alloc _) rfl (Src.new (P := Tryz.prog) Tryz.underlying22 w5 1 [.int .i64 (atoiN wd)] 3 rfl (by simp [Value.oneCell'])) rfl ?hb1 ?hb2 ?hb3 ?hgo))
                case hb1 => first | omega | (simp; omega) | (unfold maxLen; omega) | (unfold maxLen; simp; omega)
                case hb2 => first | omega | (simp; omega) | (unfold maxLen; omega) | (unfold maxLen; simp; omega)
                case hb3 => have z2 := HK5.out.size; have z4 := HK.out.size; simp; omega
                case hgo =>
                intro v' w7 happ
                obtain ⟨ao7, cap7, rfl, _⟩ := ownsRow_shape happ.own
                have hb7 := (((HB.out.keep HK5.out (fun h => h)).alloc (.cells #[.int .i64 (atoiN wd)] 3)).keep happ.keep (fun e => HNO.out e))
                have hne7 : (Value.slice ao7 (a.n.length + 1) cap7).ownBlock ≠ some w3.heap.size := by
                  intro h
                  rcases happ.fresh with h1 | ⟨g, h1, h2⟩
                  · exact HNO.out (h1 ▸ h)
                  · have h5 : g = w3.heap.size := Option.some.inj (h1.symm.trans h)
                    have z1 := HB.out.lt; have z2 := HK5.out.size; rw [World.size_alloc] at h2
                    omega
                have hkf : Keep (fun b => b = w3.heap.size) w4 w7 := ((HK.out.trans HK5.out (fun _ _ h => h.elim)).alloc _).trans happ.keep (fun g hg e => by have h3 := ownsRow_lt HO.out g e; omega)
                have HKF := Lib.hid hkf; clear hkf
                have HNE7 := Lib.hid hne7; clear hne7
                have d2 := hb7.cell 0
                have f2 := hb7.free 0
                simp at d2
                have HB7 := Lib.hid hb7; clear hb7
                have HA7 := Lib.hid happ; clear happ
                go_wp2
                go_roundw
                case rel => exact hfin.out ⟨a.n ++ [atoiN wd], a.word, false⟩ (.slice ao7 (a.n.length + 1) cap7) _ (by rw [HST.out, hok, HAO.out]; rfl) (by simp; omega) (by simpa [icells, hz4] using ownsRow_setCell HA7.out.own ⟨w3.heap.size, 0, none⟩ (.slice ao7 (a.n.length + 1) cap7) HNE7.out) (by simpa using HB7.out.set 0 (.slice ao7 (a.n.length + 1) cap7)) (HKF.out.setCell _ _ (fun _ => rfl))
                case measure => simp [intOf]; omega
              | true =>
                have HAO := Lib.hid (show atoiOk wd = true from hao)
                clear hao
                by_cases hsz : wd.size ≤ 6
                · have hsd : decide ((wd.size : Int) ≤ 6) = true := decide_eq_true (by omega)
                  have HSZ := Lib.hid (show decide (wd.size ≤ 6) = true from decide_eq_true hsz); clear hsz
                  by_cases hn0 : 0 ≤ atoiN wd
                  · have hnd : decide ((0 : Int) ≤ atoiN wd) = true := decide_eq_true hn0
                    have HND := Lib.hid hnd
                    go_wp2_with (first | (go_at_call 63; have hh := atoi_any (w := wr) (s := wd) (HG.out.keep (HK0.out.trans HK0R.out (fun _ _ h => h))) (by omega); refine Calls.mono hh ?_; clear hh; rintro e w5 ⟨N, rfl, hk5⟩; rw [HAO.out]; simp only [errV]; have d2 := (hk5.cell (p := ⟨w3.heap.size, 0, none⟩) HB.out.lt (fun h => h)).trans d2; have f2 := (hk5.frozen (p := ⟨w3.heap.size, 0, none⟩) HB.out.lt (fun h => h)).trans f2; have HK5 := Lib.hid hk5; clear hk5) | (go_at_call 64; have hh := itoa_any (w := w5) (n := atoiN wd) ((HG.out.keep (HK0.out.trans HK0R.out (fun _ _ h => h))).keep HK5.out) (atoiN_bounds wd).1 (atoiN_bounds wd).2; refine Calls.mono hh ?_; clear hh; rintro e w6 ⟨rfl, hk6⟩; have d2 := (hk6.cell (p := ⟨w3.heap.size, 0, none⟩) (Nat.lt_of_lt_of_le HB.out.lt HK5.out.size) (fun h => h)).trans d2; have f2 := (hk6.frozen (p := ⟨w3.heap.size, 0, none⟩) (Nat.lt_of_lt_of_le HB.out.lt HK5.out.size) (fun h => h)).trans f2; have HK6 := Lib.hid hk6; clear hk6) | (at_builtin; refine wpList_app (w := w6.alloc (.cells #[.int .i64 (atoiN wd)] 3)) rfl (.tmp 79) (.tmp 81) 22 22 rfl 3 (.int .i64 0) 1 8 Tryz.underlying22 info3' rfl ((ownsRow_keep (ownsRow_keep HO.out HK5.out (fun _ _ h => h)) HK6.out (fun _ _ h => h)).alloc _) rfl (Src.new (P := Tryz.prog) Tryz.underlying22 w6 1 [.int .i64 (atoiN wd)] 3 rfl (by simp [Value.oneCell'])) rfl ?hb1 ?hb2 ?hb3 ?hgo))
                    case hb1 => first | omega | (simp; omega) | (unfold maxLen; omega) | (unfold maxLen; simp; omega)
                    case hb2 => first | omega | (simp; omega) | (unfold maxLen; omega) | (unfold maxLen; simp; omega)
                    case hb3 => have z2 := HK5.out.size; have z3 := HK6.out.size; have z4 := HK.out.size; simp; omega
                    case hgo =>
                    intro v' w7 happ
                    obtain ⟨ao7, cap7, rfl, _⟩ := ownsRow_shape happ.own
                    have hb7 := ((((HB.out.keep HK5.out (fun h => h)).keep HK6.out (fun h => h)).alloc (.cells #[.int .i64 (atoiN wd)] 3)).keep happ.keep (fun e => HNO.out e))
                    have hne7 : (Value.slice ao7 (a.n.length + 1) cap7).ownBlock ≠ some w3.heap.size := by
                      intro h
                      rcases happ.fresh with h1 | ⟨g, h1, h2⟩
                      · exact HNO.out (h1 ▸ h)
                      · have h5 : g = w3.heap.size := Option.some.inj (h1.symm.trans h)
                        have z1 := HB.out.lt; have z2 := HK5.out.size; have z3 := HK6.out.size; rw [World.size_alloc] at h2
                        omega
                    have hkf : Keep (fun b => b = w3.heap.size) w4 w7 := (((HK.out.trans HK5.out (fun _ _ h => h.elim)).trans HK6.out (fun _ _ h => h.elim)).alloc _).trans happ.keep (fun g hg e => by have h3 := ownsRow_lt HO.out g e; omega)
                    have HKF := Lib.hid hkf; clear hkf
                    have HNE7 := Lib.hid hne7; clear hne7
                    have d2 := hb7.cell 0
                    have f2 := hb7.free 0
                    simp at d2
                    have HB7 := Lib.hid hb7; clear hb7
                    have HA7 := Lib.hid happ; clear happ
                    go_wp2
                    go_roundw
                    case rel => rw [beq_dec]; exact hfin.out ⟨a.n ++ [atoiN wd], a.word, decide (itoaB (atoiN wd) = wd)⟩ (.slice ao7 (a.n.length + 1) cap7) _ (by rw [HST.out, hok, HAO.out, HSZ.out, HND.out]; simp) (by simp; omega) (by simpa [icells, hz4] using ownsRow_setCell HA7.out.own ⟨w3.heap.size, 0, none⟩ (.slice ao7 (a.n.length + 1) cap7) HNE7.out) (by simpa using HB7.out.set 0 (.slice ao7 (a.n.length + 1) cap7)) (HKF.out.setCell _ _ (fun _ => rfl))
                    case measure => simp [intOf]; omega
                  · have hnd : decide ((0 : Int) ≤ atoiN wd) = false := decide_eq_false hn0
                    have HND := Lib.hid hnd
                    go_wp2_with (first | (go_at_call 63; have hh := atoi_any (w := wr) (s := wd) (HG.out.keep (HK0.out.trans HK0R.out (fun _ _ h => h))) (by omega); refine Calls.mono hh ?_; clear hh; rintro e w5 ⟨N, rfl, hk5⟩; rw [HAO.out]; simp only [errV]; have d2 := (hk5.cell (p := ⟨w3.heap.size, 0, none⟩) HB.out.lt (fun h => h)).trans d2; have f2 := (hk5.frozen (p := ⟨w3.heap.size, 0, none⟩) HB.out.lt (fun h => h)).trans f2; have HK5 := Lib.hid hk5; clear hk5) | (at_builtin; refine wpList_app (w := w5.alloc (.cells #[.int .i64 (atoiN wd)] 3)) rfl (.tmp 79) (.tmp 81) 22 22 rfl 3 (.int .i64 0) 1 8 Tryz.underlying22 info3' rfl ((ownsRow_keep HO.out HK5.out (fun _ _ h => h)).alloc _) rfl (Src.new (P := Tryz.prog) Tryz.underlying22 w5 1 [.int .i64 (atoiN wd)] 3 rfl (by simp [Value.oneCell'])) rfl ?hb1 ?hb2 ?hb3 ?hgo))
                    case hb1 => first | omega | (simp; omega) | (unfold maxLen; omega) | (unfold maxLen; simp; omega)
                    case hb2 => first | omega | (simp; omega) | (unfold maxLen; omega) | (unfold maxLen; simp; omega)
                    case hb3 => have z2 := HK5.out.size; have z4 := HK.out.size; simp; omega
                    case hgo =>
                    intro v' w7 happ
                    obtain ⟨ao7, cap7, rfl, _⟩ := ownsRow_shape happ.own
                    have hb7 := (((HB.out.keep HK5.out (fun h => h)).alloc (.cells #[.int .i64 (atoiN wd)] 3)).keep happ.keep (fun e => HNO.out e))
                    have hne7 : (Value.slice ao7 (a.n.length + 1) cap7).ownBlock ≠ some w3.heap.size := by
                      intro h
                      rcases happ.fresh with h1 | ⟨g, h1, h2⟩
                      · exact HNO.out (h1 ▸ h)
                      · have h5 : g = w3.heap.size := Option.some.inj (h1.symm.trans h)
                        have z1 := HB.out.lt; have z2 := HK5.out.size; rw [World.size_alloc] at h2
                        omega
                    have hkf : Keep (fun b => b = w3.heap.size) w4 w7 := ((HK.out.trans HK5.out (fun _ _ h => h.elim)).alloc _).trans happ.keep (fun g hg e => by have h3 := ownsRow_lt HO.out g e; omega)
                    have HKF := Lib.hid hkf; clear hkf
                    have HNE7 := Lib.hid hne7; clear hne7
                    have d2 := hb7.cell 0
                    have f2 := hb7.free 0
                    simp at d2
                    have HB7 := Lib.hid hb7; clear hb7
                    have HA7 := Lib.hid happ; clear happ
                    go_wp2
                    go_roundw
                    case rel => exact hfin.out ⟨a.n ++ [atoiN wd], a.word, false⟩ (.slice ao7 (a.n.length + 1) cap7) _ (by rw [HST.out, hok, HAO.out, HSZ.out, HND.out]; simp) (by simp; omega) (by simpa [icells, hz4] using ownsRow_setCell HA7.out.own ⟨w3.heap.size, 0, none⟩ (.slice ao7 (a.n.length + 1) cap7) HNE7.out) (by simpa using HB7.out.set 0 (.slice ao7 (a.n.length + 1) cap7)) (HKF.out.setCell _ _ (fun _ => rfl))
                    case measure => simp [intOf]; omega
                · have hsd : decide ((wd.size : Int) ≤ 6) = false := decide_eq_false (by omega)
                  have HSZ := Lib.hid (show decide (wd.size ≤ 6) = false from decide_eq_false hsz); clear hsz
                  go_wp2_with (first | (go_at_call 63; have hh := atoi_any (w := wr) (s := wd) (HG.out.keep (HK0.out.trans HK0R.out (fun _ _ h => h))) (by omega); refine Calls.mono hh ?_; clear hh; rintro e w5 ⟨N, rfl, hk5⟩; rw [HAO.out]; simp only [errV]; have d2 := (hk5.cell (p := ⟨w3.heap.size, 0, none⟩) HB.out.lt (fun h => h)).trans d2; have f2 := (hk5.frozen (p := ⟨w3.heap.size, 0, none⟩) HB.out.lt (fun h => h)).trans f2; have HK5 := Lib.hid hk5; clear hk5) | (at_builtin; refine wpList_app (w := w5.alloc (.cells #[.int .i64 (atoiN wd)] 3)) rfl (.tmp 79) (.tmp 81) 22 22 rfl 3 (.int .i64 0) 1 8 Tryz.underlying22 info3' rfl ((ownsRow_keep HO.out HK5.out (fun _ _ h => h)).alloc _) rfl (Src.new (P := Tryz.prog) Tryz.underlying22 w5 1 [.int .i64 (atoiN wd)] 3 rfl (by simp [Value.oneCell'])) rfl ?hb1 ?hb2 ?hb3 ?hgo))
                  case hb1 => first | omega | (simp; omega) | (unfold maxLen; omega) | (unfold maxLen; simp; omega)
                  case hb2 => first | omega | (simp; omega) | (unfold maxLen; omega) | (unfold maxLen; simp; omega)
                  case hb3 => have z2 := HK5.out.size; have z4 := HK.out.size; simp; omega
                  case hgo =>
                  intro v' w7 happ
                  obtain ⟨ao7, cap7, rfl, _⟩ := ownsRow_shape happ.own
                  have hb7 := (((HB.out.keep HK5.out (fun h => h)).alloc (.cells #[.int .i64 (atoiN wd)] 3)).keep happ.keep (fun e => HNO.out e))
                  have hne7 : (Value.slice ao7 (a.n.length + 1) cap7).ownBlock ≠ some w3.heap.size := by
                    intro h
                    rcases happ.fresh with h1 | ⟨g, h1, h2⟩
                    · exact HNO.out (h1 ▸ h)
                    · have h5 : g = w3.heap.size := Option.some.inj (h1.symm.trans h)
                      have z1 := HB.out.lt; have z2 := HK5.out.size; rw [World.size_alloc] at h2
                      omega
                  have hkf : Keep (fun b => b = w3.heap.size) w4 w7 := ((HK.out.trans HK5.out (fun _ _ h => h.elim)).alloc _).trans happ.keep (fun g hg e => by have h3 := ownsRow_lt HO.out g e; omega)
                  have HKF := Lib.hid hkf; clear hkf
                  have HNE7 := Lib.hid hne7; clear hne7
                  have d2 := hb7.cell 0
                  have f2 := hb7.free 0
                  simp at d2
                  have HB7 := Lib.hid hb7; clear hb7
                  have HA7 := Lib.hid happ; clear happ
                  go_wp2
                  go_roundw
                  case rel => exact hfin.out ⟨a.n ++ [atoiN wd], a.word, false⟩ (.slice ao7 (a.n.length + 1) cap7) _ (by rw [HST.out, hok, HAO.out, HSZ.out]; simp) (by simp; omega) (by simpa [icells, hz4] using ownsRow_setCell HA7.out.own ⟨w3.heap.size, 0, none⟩ (.slice ao7 (a.n.length + 1) cap7) HNE7.out) (by simpa using HB7.out.set 0 (.slice ao7 (a.n.length + 1) cap7)) (HKF.out.setCell _ _ (fun _ => rfl))
                  case measure => simp [intOf]; omega
          · have hke : k = so.length := by omega
            subst hke
            clear hlt
            have HSF : Hid (∀ W, Keep (fun k => k = w.heap.size ∨ k = w.heap.size + 1) wr W → W.cell? ⟨w2.heap.size, 0, none⟩ = some (.string (bs so)) ∧ W.cell? ⟨w2.heap.size, 1, none⟩ = some (.func (.func f) #[] #[]) ∧ W.cell? ⟨w3.heap.size, 0, none⟩ = some (.slice ao a.n.length cap) ∧ W.cell? ⟨w3.heap.size, 1, none⟩ = some (.string a.word)) := Lib.hid fun W hW => by
              have B6 := (((HN3.out.keep HK34.out (fun h => h)).keep HK.out (show ¬ w2.heap.size = w3.heap.size by omega)).keep hW (show ¬ (w2.heap.size = w.heap.size ∨ w2.heap.size = w.heap.size + 1) by omega))
              have B8 := HB.out.keep hW (show ¬ (w3.heap.size = w.heap.size ∨ w3.heap.size = w.heap.size + 1) by omega)
              exact ⟨B6.cell 0, B6.cell 1, B8.cell 0, B8.cell 1⟩
            obtain ⟨d0, d1, d2, d3⟩ := HSF.out wr (Keep.refl _ _)
            have hkd : Keep (fun _ => False) w0 wr.drew := HK0R.out.drew
            obtain ⟨⟨r0, r1, r2, r3⟩, g0, g1, g2, g3⟩ := HR.out wr HK0R.out
            have hir : ((so.length : Int) < (so.length : Int)) = False := by simp
            go_wp2
            go_region_held3 (fun W => W.cell? ⟨w2.heap.size, 0, none⟩ = some (.string (bs so)) ∧ W.cell? ⟨w2.heap.size, 1, none⟩ = some (.func (.func f) #[] #[]) ∧ W.cell? ⟨w3.heap.size, 0, none⟩ = some (.slice ao a.n.length cap) ∧ W.cell? ⟨w3.heap.size, 1, none⟩ = some (.string a.word))
              (first | exact ⟨d0, d1, d2, d3⟩ | ((refine HSF.out _ ?_; repeat (first | exact Keep.refl _ _ | apply Keep.drew | refine Keep.setCell ?_ _ _ (fun _ => .inl rfl) | refine Keep.setCell ?_ _ _ (fun _ => .inr rfl))))) (fail)
            clear d0 d1 d2 d3 r0 r1 r2 r3 g0 g1 g2 g3 hir HSF
            go_wp2
            (try simp only [Exit.inBlock, Exit.then])
            refine form_backd (HN1.out.keep HK0R.out (fun h => h)) (HN2.out.keep HK0R.out (fun h => h)) rfl rfl (by omega) rfl rfl rfl rfl (fun wf hkf => ?_)
            show FormPost _ _ _ _
            unfold FormPost
            rw [HF.out]
            have hfa : a = foldF so ws.tail := by
              rw [HA.out]; unfold foldF; rw [List.take_of_length_le (by rw [List.length_zip]; omega)]
            rw [← hfa]
            refine ⟨_, rfl, ?_, (HK0.out.trans HK0R.out (fun _ _ h => h)).trans hkf (fun k hk e => by omega)⟩
            exact ownsRow_base (ownsRow_keep HO.out hkf (fun g hg e => by have := ownsRow_lt HO.out g hg; omega)) (by omega)
      · have hne : (((ws.length : Int) - 1) != ((bs so).size : Int)) = true := by rw [hso]; simp; omega
        have hne2 : (((ws.length : Int) - 1) != (so.length : Int)) = true := by simp; omega
        have hne3 : (((ws.length : Int) - 1) = (so.length : Int)) = False := by simp; omega
        rw [if_neg hlen] at HF
        obtain ⟨⟨r0, r1, r2, r3⟩, g0, g1, g2, g3⟩ := HR.out w3 hk3
        have HK3 := Lib.hid hk3; clear hk3
        go_wp2
        (try simp only [Exit.inBlock, Exit.then])
        refine form_back (HN1.out.keep HK3.out (fun h => h)) (HN2.out.keep HK3.out (fun h => h)) rfl rfl (by omega) rfl rfl rfl rfl (fun wf hkf => ?_)
        show FormPost _ _ _ _
        unfold FormPost
        rw [HF.out]
        exact ⟨rfl, (HK0.out.trans HK3.out (fun _ _ h => h)).trans hkf (fun k hk e => by omega)⟩
end Go.Proofs.YtkkjonkcjlnohaaGreatDoor

/- house.state.take. -/
namespace Go.Proofs.YtkkjonkcjlnohaaGreatDoor
set_option linter.unusedSimpArgs false
set_option linter.unusedVariables false
set_option linter.unnecessarySimpa false
open Go.RowKit

/-- What a command leaves: an error, the state, and the reply. -/
structure Res where
  err : Int
  st : St
  out : ByteArray
def RunPost (base : Nat) (w : World) (V : StV) (r : Res) (e : Ending) (w' : World) : Prop :=
  e = .returned (.tuple #[.string r.out, .int .i64 r.err]) ∧ ∃ V', (r.err = 0 → OSt base w' V' r.st) ∧ Chg base w V V' w'
/-- The words that a command is given. -/
structure Args (base : Nat) (w : World) (vn : Value) (a : FA) : Prop where
  rd : Rd w 1 vn a.n.length (icells a.n)
  lt : ∀ k, vn.ownBlock = some k → k < base
def takeF (S : St) (a : FA) : Res :=
  if S.lots.length = 20 then ⟨9, S, bs []⟩ else if a.n.headD 0 = 0 then ⟨2, S, bs []⟩ else ⟨0, addS S ⟨a.word, a.n.headD 0, -1, false⟩, bs [116, 97, 107, 101] ++ (bs [32] ++ itoaB ((S.lots.length : Int) + 1))⟩

set_option maxHeartbeats 2000000 in
set_option maxRecDepth 100000 in
theorem take_any {base : Nat} {w : World} {V : StV} {S : St} {vn : Value} {a : FA} (hG : GW base w) (h : OSt base w V S) (hl : S.lots.length ≤ 20) (ha : Args base w vn a) (hn : a.n.length = 1) :
    Calls Tryz.prog 399 #[.pointer (some ⟨V.b, 0, none⟩), .agg #[vn, .string a.word]] w (RunPost base w V (takeF S a)) := by
  obtain ⟨x, hx⟩ : ∃ x, a.n = [x] := List.length_eq_one_iff.1 hn
  obtain ⟨an, word, aok⟩ := a
  simp only at hx hn
  subst hx
  have hard := ha.rd
  rcases hard.2.2 with ⟨_, h1⟩ | ⟨nb, no, nc, rfl, hnc1, hnc2, hcells⟩
  · simp at h1
  have hn0 := hcells 0 (.int .i64 x) (by simp [icells])
  rw [Nat.add_zero] at hn0
  simp only [List.length_singleton] at *
  obtain ⟨w0, hw0⟩ : ∃ w0, w0 = w.alloc (.cells #[.slice (some ⟨nb, no, none⟩) 1 nc, .string word] 98) := ⟨_, rfl⟩
  have hk0 : Keep (fun _ => False) w w0 := by rw [hw0]; exact (Keep.refl _ _).alloc _
  have hb0 : Blk w0 w.heap.size #[.slice (some ⟨nb, no, none⟩) 1 nc, .string word] 98 := by rw [hw0]; exact Blk.new _ _ _
  have h0 := h.keep hk0 (fun _ _ h => h)
  obtain ⟨lo, lc, hvl, hlc, _⟩ := ownsRow_shape h.ol
  have hnlt := World.block_lt_of_cell? w _ hn0
  simp only at hnlt
  have hnb : nb < base := ha.lt nb rfl
  have c1 := h0.blk.cell 1
  simp [StV.cells] at c1
  rw [hvl, hw0] at c1
  have HKR : Hid (Keep (fun k => base ≤ k ∧ V.fp k) w0 w0) := Lib.hid (Keep.refl _ _)
  have HC : Hid (∀ W, Keep (fun k => base ≤ k ∧ V.fp k) w0 W → W.cell? ⟨w.heap.size, 0, none⟩ = some (.slice (some ⟨nb, no, none⟩) 1 nc) ∧ W.cell? ⟨w.heap.size, 1, none⟩ = some (.string word) ∧ W.cell? ⟨nb, no, none⟩ = some (.int .i64 x)) :=
    Lib.hid fun W hk => by
      have hB := hb0.keep hk (fun e => by have := h.fp_lt _ e.2; omega)
      refine ⟨hB.cell 0, hB.cell 1, (hk.cell (p := ⟨nb, no, none⟩) (Nat.lt_of_lt_of_le hnlt hk0.size) (fun e => by have := e.1; simp at this; omega)).trans ((hk0.cell (p := ⟨nb, no, none⟩) hnlt (fun h => h)).trans hn0)⟩
  obtain ⟨a0, a1, a2⟩ := HC.out w0 (Keep.refl _ _)
  have b0 := a0
  have b1 := a1
  have b2 := a2
  rw [hw0] at b0 b1 b2
  have hG0 := hG.keep hk0 (fun _ _ h => h)
  have HG0 := Lib.hid hG0; clear hG0
  have H0 := Lib.hid h0; clear h0
  have H := Lib.hid h; clear h
  have HK0 := Lib.hid hk0; clear hk0
  have HW0 := Lib.hid hw0; clear hw0
  clear hn0 hb0 hard hcells ha hvl hn
  by_cases h20 : S.lots.length = 20
  · have e20 : ((S.lots.length : Int) == 20) = true := by simp; omega
    have HF := Lib.hid (show takeF S ⟨[x], word, aok⟩ = ⟨9, S, bs []⟩ by unfold takeF; rw [if_pos h20])
    go_enter Tryz.func399, Tryz.ntmps399
    go_wp2
    rw [← HW0.out]
    go_ret2
    exact ⟨by rw [HF.out]; rfl, V, (fun e => by rw [HF.out] at e; cases e), (Chg.refl base w V).after HK0.out⟩
  have e20 : ((S.lots.length : Int) == 20) = false := by simp; omega
  by_cases hx0 : x = 0
  · have ex0 : (x == 0) = true := by simp [hx0]
    have HF := Lib.hid (show takeF S ⟨[x], word, aok⟩ = ⟨2, S, bs []⟩ by unfold takeF; rw [if_neg h20, if_pos (by simp [hx0])])
    subst hx0
    go_enter Tryz.func399, Tryz.ntmps399
    go_wp2
    rw [← HW0.out]
    go_ret2
    exact ⟨by rw [HF.out]; rfl, V, (fun e => by rw [HF.out] at e; cases e), (Chg.refl base w V).after HK0.out⟩
  have ex0 : (x == 0) = false := by simp [hx0]
  have HF := Lib.hid (show takeF S ⟨[x], word, aok⟩ = ⟨0, addS S ⟨word, x, -1, false⟩, bs [116, 97, 107, 101] ++ (bs [32] ++ itoaB ((S.lots.length : Int) + 1))⟩ by unfold takeF; rw [if_neg h20, if_neg (by simpa using hx0)]; rfl)
  have hit : (9223372036854775807 < 4 + (1 + (itoaB ((S.lots.length : Int) + 1)).size)) = False := eq_false (by have := itoaB_size ((S.lots.length : Int) + 1) (by omega) (by omega); omega)
  go_enter Tryz.func399, Tryz.ntmps399
  go_wp2
  rw [← HW0.out]
  clear b0 b1 b2 c1
  go_region_held3 (fun W => W.cell? ⟨w.heap.size, 0, none⟩ = some (.slice (some ⟨nb, no, none⟩) 1 nc) ∧ W.cell? ⟨w.heap.size, 1, none⟩ = some (.string word) ∧ W.cell? ⟨nb, no, none⟩ = some (.int .i64 x))
    (first | exact ⟨a0, a1, a2⟩ | (refine HC.out _ ?_; repeat (first | exact HKR.out | apply Keep.drew)))
    ((go_at_call 405; have hh := add_any (x := ⟨word, x, -1, false⟩) (HG0.out.keep (Keep.refl (fun _ => False) w0).drew (fun _ _ h => h)) (H0.out.keep (Keep.refl (fun _ => False) w0).drew (fun _ _ h => h)) (by omega); refine Calls.mono hh ?_; clear hh; rintro e W1 ⟨V1, rfl, ho1, hc1⟩; have HKR := Lib.hid (((Keep.refl (fun k => base ≤ k ∧ V.fp k) w0).drew).trans hc1.keep (fun _ _ h => h)); have HO1 := Lib.hid ho1; clear ho1; have HC1 := Lib.hid hc1; clear hc1; dsimp only))
  go_wp2
  go_ret2
  exact ⟨by rw [HF.out]; rfl, V1, fun _ => by rw [HF.out]; exact HO1.out, (HC1.out.before (HK0.out.drew))⟩
end Go.Proofs.YtkkjonkcjlnohaaGreatDoor

/- house.state.lot, there, touched. -/
namespace Go.Proofs.YtkkjonkcjlnohaaGreatDoor
set_option linter.unusedSimpArgs false
set_option linter.unusedVariables false
set_option linter.unnecessarySimpa false
open Go.RowKit

/-- Is there a lot with a number. -/
def hasLot (S : St) (i : Int) : Bool := decide (1 ≤ i) && decide (i ≤ (S.lots.length : Int))
def lotPtr (V : StV) (i : Int) : Value :=
  match V.vl with
  | .slice (some a) _ _ => .pointer (some ⟨a.block, a.off + (i - 1).toNat * 4, none⟩)
  | _ => .pointer none
def LotPost (w : World) (V : StV) (S : St) (i : Int) (e : Ending) (w' : World) : Prop := e = .returned (if hasLot S i then lotPtr V i else .pointer none) ∧ w = w'

set_option maxHeartbeats 1000000 in
theorem lot_any {w : World} {V : StV} {S : St} {i : Int} (h : StAt w V S) (hl : S.lots.length ≤ 1000000000) : Calls Tryz.prog 407 #[.pointer (some ⟨V.b, 0, none⟩), .int .i64 i] w (LotPost w V S i) := by
  obtain ⟨b, vb, vl, vc, vt, vn⟩ := V
  have c1 := h.blk.cell 1
  simp [StV.cells] at c1
  have hrl := h.rl
  obtain ⟨lo, lc, hvl, hlc, _, hsp⟩ := hrl.shape
  simp only at hvl
  subst hvl
  have hlo : 0 < S.lots.length → ∃ g o, lo = some ⟨g, o, none⟩ := fun hp => by
    rcases hrl.2.2 with ⟨_, e⟩ | ⟨g, o, c, e, _⟩
    · omega
    · injection e with e1
      exact ⟨g, o, e1⟩
  clear h hrl hsp
  by_cases h1 : i < 1
  · have e1 : decide (i < 1) = true := decide_eq_true h1
    have HF := Lib.hid (show hasLot S i = false by unfold hasLot; rw [decide_eq_false (by omega)]; rfl)
    clear h1
    go_enter Tryz.func407, Tryz.ntmps407
    go_wp2
    go_ret
    exact ⟨by rw [HF.out]; rfl, rfl⟩
  have e1 : decide (i < 1) = false := decide_eq_false h1
  by_cases h2 : (S.lots.length : Int) < i
  · have e2 : decide ((S.lots.length : Int) < i) = true := decide_eq_true h2
    have HF := Lib.hid (show hasLot S i = false by unfold hasLot; rw [decide_eq_false (show ¬ i ≤ (S.lots.length : Int) by omega)]; simp)
    go_enter Tryz.func407, Tryz.ntmps407
    go_wp2
    go_ret
    exact ⟨by rw [HF.out]; rfl, rfl⟩
  have e2 : decide ((S.lots.length : Int) < i) = false := decide_eq_false h2
  have HF := Lib.hid (show hasLot S i = true by unfold hasLot; rw [decide_eq_true (by omega), decide_eq_true (by omega)]; rfl)
  obtain ⟨k, rfl⟩ : ∃ k : Nat, i = (k : Int) + 1 := ⟨(i - 1).toNat, by omega⟩
  have hk : k < S.lots.length := by omega
  have hw : IntKind.i64.wrap ((k : Int) + 1 - 1) = (k : Int) := by rw [IntWalk.i64_in _ (by omega)]; omega
  obtain ⟨g, o, rfl⟩ := hlo (by omega)
  clear hlo
  go_enter Tryz.func407, Tryz.ntmps407
  go_wp2
  go_ret
  refine ⟨?_, rfl⟩
  rw [HF.out, if_pos rfl]
  unfold lotPtr
  simp only []
  rw [show ((k : Int) + 1 - 1).toNat = k by omega]
  rfl

theorem enters409 : Enters 409 := enters_of Tryz.func409 (by kernel_rfl) rfl
theorem thereOne_any {w : World} {V : StV} {S : St} {i : Int} {c : Nat} (h : StAt w V S) (hl : S.lots.length ≤ 1000000000) (hc : w.cell? ⟨c, 0, none⟩ = some (.pointer (some ⟨V.b, 0, none⟩))) :
    Calls Tryz.prog 409 #[.int .i64 i, .pointer (some ⟨c, 0, none⟩)] w fun e w' => e = .returned (.bool (!hasLot S i)) ∧ w = w' := by
  have hlot := lot_any (i := i) h hl
  have hp : hasLot S i = true → ∃ a, lotPtr V i = .pointer (some a) := fun hh => by
    unfold lotPtr
    have hrl := h.rl
    rcases hrl.2.2 with ⟨_, e⟩ | ⟨g, o, cp, e, _⟩
    · unfold hasLot at hh; simp at hh; omega
    · rw [e]; exact ⟨_, rfl⟩
  unfold LotPost at hlot
  cases hb : hasLot S i with
  | true =>
    obtain ⟨a, ha⟩ := hp hb
    rw [hb, if_pos rfl, ha] at hlot
    have HL := Lib.hid hlot; clear hlot hp ha h hb
    go_enter Tryz.func409, Tryz.ntmps409
    go_wp2_with (first
      | (go_at_call 407; refine HL.out.mono ?_; rintro e w' ⟨rfl, rfl⟩))
    go_ret
    exact ⟨rfl, rfl⟩
  | false =>
    rw [hb, if_neg (by simp)] at hlot
    have HL := Lib.hid hlot; clear hlot hp h hb
    go_enter Tryz.func409, Tryz.ntmps409
    go_wp2_with (first
      | (go_at_call 407; refine HL.out.mono ?_; rintro e w' ⟨rfl, rfl⟩))
    go_ret
    exact ⟨rfl, rfl⟩
/-- Are all these lots there. -/
def allLots (S : St) (l : List Int) : Bool := l.all (hasLot S)
theorem there_any {w : World} {V : StV} {S : St} {v : Value} {l : List Int} (h : StAt w V S) (hl : S.lots.length ≤ 1000000000) (hv : Rd w 1 v l.length (icells l)) (hll : l.length < 9223372036854775807) :
    Calls Tryz.prog 406 #[.pointer (some ⟨V.b, 0, none⟩), v] w (IdxPost w (.bool (allLots S l))) := by
  obtain ⟨ao, cap, hve, _⟩ := hv.shape
  subst hve
  have hk1 : Keep (fun _ => False) w (w.alloc (.cells #[.pointer (some ⟨V.b, 0, none⟩)] 59)) := (Keep.refl _ _).alloc _
  have hb1 := Blk.new w #[.pointer (some ⟨V.b, 0, none⟩)] 59
  have hcon := containsFunc_any (p := fun i => !hasLot S i) (hv.keep hk1 (fun _ _ h => h)) enters409 (capt := #[.pointer (some ⟨w.heap.size, 0, none⟩)]) (fun w1 hk x _ => (thereOne_any (i := x) ((h.keep hk1 (fun _ _ h => h)).keep hk (fun _ _ h => h)) hl ((hb1.keep hk (fun h => h)).cell 0)).mono (fun e w2 hh => ⟨hh.1, hh.2 ▸ Keep.refl _ _⟩)) hll
  have HC := Lib.hid hcon; clear hcon hb1
  have HK1 := Lib.hid hk1; clear hk1
  have HN := Lib.hid (show (!l.any (fun i => !hasLot S i)) = allLots S l by unfold allLots; rw [List.not_any_eq_all_not]; simp)
  clear h hv
  go_enter Tryz.func406, Tryz.ntmps406
  go_wp2_with (first
    | (go_at_call 143; refine HC.out.mono ?_; rintro e w2 ⟨rfl, hk2⟩; have HK2 := Lib.hid hk2; clear hk2))
  go_ret
  refine ⟨?_, HK1.out.trans HK2.out (fun _ _ h => h)⟩
  rw [← HN.out]; rfl

def touchNote (i j : Int) : ByteArray := ((bs [116, 111, 117, 99, 104, 32] ++ itoaB i) ++ bs [32]) ++ itoaB j
def touchS (S : St) (i j : Int) : St := { S with contacts := S.contacts ++ [(i, j)], notes := S.notes ++ [touchNote i j] }
def TouchedPost (base : Nat) (w : World) (V : StV) (S : St) (i j : Int) (e : Ending) (w' : World) : Prop :=
  ∃ V', e = .returned (.tuple #[]) ∧ OSt base w' V' (touchS S i j) ∧ Chg base w V V' w'
end Go.Proofs.YtkkjonkcjlnohaaGreatDoor

/- house.state.touched: a contact and its line are added. -/
namespace Go.Proofs.YtkkjonkcjlnohaaGreatDoor
set_option linter.unusedSimpArgs false
set_option linter.unusedVariables false
set_option linter.unnecessarySimpa false
open Go.RowKit

set_option maxHeartbeats 4000000 in
set_option maxRecDepth 100000 in
theorem addTouch_any {base : Nat} {w : World} {V : StV} {S : St} {i j : Int} (hG : GW base w) (h : OSt base w V S) (hc : S.contacts.length ≤ 1000000000) (hn : S.notes.length ≤ 1000000000)
    (hi : -9223372036854775808 ≤ i ∧ i ≤ 9223372036854775807) (hj : -9223372036854775808 ≤ j ∧ j ≤ 9223372036854775807) :
    Calls Tryz.prog 408 #[.pointer (some ⟨V.b, 0, none⟩), .int .i64 i, .int .i64 j] w (TouchedPost base w V S i j) := by
  obtain ⟨b, vb, vl, vc, vt, vn⟩ := V
  obtain ⟨co, cc, hvc, hcc, _⟩ := ownsRow_shape h.oc
  simp only at hvc
  subst hvc
  obtain ⟨no, nc, hvn, hnc, _⟩ := ownsRow_shape h.on
  simp only at hvn
  subst hvn
  have c2 := h.blk.cell 2
  have f2 := h.blk.free 2
  simp [StV.cells] at c2 f2
  have si := itoaB_size i hi.1 hi.2
  have sj := itoaB_size j hj.1 hj.2
  have st1 : (9223372036854775807 < 6 + (itoaB i).size) = False := eq_false (by omega)
  have st2 : (9223372036854775807 < 6 + (itoaB i).size + 1) = False := eq_false (by omega)
  have st3 : (9223372036854775807 < 6 + (itoaB i).size + 1 + (itoaB j).size) = False := eq_false (by omega)
  have HI := Lib.hid hi; clear hi
  have HJ := Lib.hid hj; clear hj
  have H := Lib.hid h; clear h
  have HSC := Lib.hid (Rd.new w 2 1 (pairCell (i, j)) 127 rfl (by simp [pairCell, Value.oneCell']) (by unfold maxLen; omega))
  have HK1 := Lib.hid ((Keep.refl (fun _ => False) w).alloc (.cells #[.int .i64 i, .int .i64 j] 127))
  have HO1 := Lib.hid (ownsRow_keep H.out.oc HK1.out (fun _ _ h => h))
  go_enter Tryz.func408, Tryz.ntmps408
  go_wp2_with (first
    | (at_builtin; refine wpList_app (w := w.alloc (.cells #[.int .i64 i, .int .i64 j] 127)) rfl (.tmp 10) (.tmp 14) 88 88 rfl 127 zPair 2 16 Tryz.underlying88 info176 rfl HO1.out rfl (HSC.out.src Tryz.underlying88) rfl ?hb1 ?hb2 ?hb3 ?hgo))
  case hb1 => unfold maxLen; omega
  case hb2 => omega
  case hb3 => have := H.out.lt; omega
  case hgo =>
  intro v2 w2 happ
  obtain ⟨co2, cc2, rfl, _⟩ := ownsRow_shape happ.own
  have h1 := H.out.keep HK1.out (fun _ _ h => h)
  have h3 := h1.setContacts (w1 := w2) (v' := .slice co2 (S.contacts.length + 1) cc2) (ls := S.contacts ++ [(i, j)]) happ.keep (by have := happ.own; simpa [pairCells, pairCell] using this) happ.fresh
  have hb2 := h1.blk.keep happ.keep h1.cne
  have c2 := hb2.cell 2
  have f2 := hb2.free 2
  simp [StV.cells] at c2 f2
  have hch : Chg base w ⟨b, vb, vl, .slice co S.contacts.length cc, vt, .slice no S.notes.length nc⟩ ⟨b, vb, vl, .slice co2 (S.contacts.length + 1) cc2, vt, .slice no S.notes.length nc⟩ (w2.setCell ⟨b, 2, none⟩ (.slice co2 (S.contacts.length + 1) cc2)) := by
    refine ⟨rfl, rfl, fun k hk => ?_, ((HK1.out.mono (fun _ _ h => h.elim)).trans (happ.keep.mono (T := fun k => base ≤ k ∧ StV.fp ⟨b, vb, vl, .slice co S.contacts.length cc, vt, .slice no S.notes.length nc⟩ k) (fun k _ e => ⟨H.out.fp_ge.2.1 k e, .inr (.inr (.inr (.inl e)))⟩)) (fun _ _ h => h)).setCell _ _ (fun _ => ⟨H.out.ge, .inl rfl⟩)⟩
    rcases hk with e | e | e | e | e | e
    · exact .inl (.inl e)
    · exact .inl (.inr (.inl e))
    · exact .inl (.inr (.inr (.inl e)))
    · rcases happ.fresh with h1 | ⟨g, h1, h2⟩
      · exact .inl (.inr (.inr (.inr (.inl (h1.symm.trans e)))))
      · have h3 : g = k := Option.some.inj (h1.symm.trans e)
        have h4 := HK1.out.size
        exact .inr (by omega)
    · exact .inl (.inr (.inr (.inr (.inr (.inl e)))))
    · exact .inl (.inr (.inr (.inr (.inr (.inr e)))))
  have H3 := Lib.hid h3; clear h1 h3 hb2
  have HCH := Lib.hid hch; clear hch happ
  go_wp2
  obtain ⟨w4, hw4⟩ : ∃ w4, w4 = w2.setCell ⟨b, 2, none⟩ (.slice co2 (S.contacts.length + 1) cc2) := ⟨_, rfl⟩
  have H4 := H3
  have HC4 := HCH
  rw [← hw4] at H4 HC4
  rw [← hw4]
  clear H3 HCH hw4 c2 f2
  have d4 := H4.out.blk.cell 4
  simp [StV.cells] at d4
  have HG4 := Lib.hid (hG.keep HC4.out.keep (fun i hi e => by have := e.1; omega))
  have HIT : Hid (∀ W n, Keep (fun _ => False) w4 W → (n = i ∨ n = j) → Calls Tryz.prog 64 #[.int .i64 n] W (ItoaPost W n)) := Lib.hid fun W n hk hn =>
    itoa_any (HG4.out.glob.keep hk) (by rcases hn with rfl | rfl; exact HI.out.1; exact HJ.out.1) (by rcases hn with rfl | rfl; exact HI.out.2; exact HJ.out.2)
  have HKR : Hid (Keep (fun _ => False) w4 w4.drew) := Lib.hid (Keep.refl _ _).drew
  refine wp_region_noPanic ?_
  refine wp_region_held_drew (S := fun _ => True) (by kernel_rfl) trivial (fun hHeld => ?_)
  refine wpAnyH_take (i := 0) (oi := _) (v := ?_) rfl (by kernel_rfl) (by kernel_rfl) (by kernel_rfl) (fun _ _ _ h => h) (Or.inl ⟨by rfl, ?_⟩) (by assumption) ?_
  rotate_left
  · (intro w hSw; (try dsimp only at hSw); go_simp) <;> with_reducible rfl
  (try simp only [List.getElem_toArray, List.getElem_cons_zero, List.getElem_cons_succ, Act.put, List.setIfInBounds_toArray, List.set_cons_zero, List.set_cons_succ])
  refine wpAnyH_take (i := 1) (oi := _) (v := ?_) rfl (by kernel_rfl) (by kernel_rfl) (by kernel_rfl) (fun _ _ _ h => h) (Or.inl ⟨by rfl, ?_⟩) (by assumption) ?_
  rotate_left
  · (intro w hSw; (try dsimp only at hSw); go_simp) <;> with_reducible rfl
  (try simp only [List.getElem_toArray, List.getElem_cons_zero, List.getElem_cons_succ, Act.put, List.setIfInBounds_toArray, List.set_cons_zero, List.set_cons_succ])
  refine wpAnyH_take (i := 2) (oi := _) (v := ?_) rfl (by kernel_rfl) (by kernel_rfl) (by kernel_rfl) (fun _ _ _ h => h) (Or.inl ⟨by rfl, ?_⟩) (by assumption) ?_
  rotate_left
  · (intro w hSw; (try dsimp only at hSw); go_simp) <;> with_reducible rfl
  (try simp only [List.getElem_toArray, List.getElem_cons_zero, List.getElem_cons_succ, Act.put, List.setIfInBounds_toArray, List.set_cons_zero, List.set_cons_succ])
  refine wpAnyH_take (i := 3) (oi := _) (v := ?_) rfl (by kernel_rfl) (by kernel_rfl) (by kernel_rfl) (fun _ _ _ h => h) (Or.inl ⟨by rfl, ?_⟩) (by assumption) ?_
  rotate_left
  · (intro w hSw; (try dsimp only at hSw); go_simp) <;> with_reducible rfl
  (try simp only [List.getElem_toArray, List.getElem_cons_zero, List.getElem_cons_succ, Act.put, List.setIfInBounds_toArray, List.set_cons_zero, List.set_cons_succ])
  refine wpAnyH_take (i := 5) (oi := _) (v := ?_) rfl (by kernel_rfl) (by kernel_rfl) (by kernel_rfl) (fun _ _ _ h => h) (Or.inl ⟨by rfl, ?_⟩) (by assumption) ?_
  rotate_left
  · (intro w hSw; (try dsimp only at hSw); go_simp) <;> with_reducible rfl
  (try simp only [List.getElem_toArray, List.getElem_cons_zero, List.getElem_cons_succ, Act.put, List.setIfInBounds_toArray, List.set_cons_zero, List.set_cons_succ])
  refine wpAnyH_take (i := 9) (oi := _) (v := ?_) rfl (by kernel_rfl) (by kernel_rfl) (by kernel_rfl) (fun _ _ _ h => h) (Or.inl ⟨by rfl, ?_⟩) (by assumption) ?_
  rotate_left
  · (intro w hSw; (try dsimp only at hSw); go_simp) <;> with_reducible rfl
  (try simp only [List.getElem_toArray, List.getElem_cons_zero, List.getElem_cons_succ, Act.put, List.setIfInBounds_toArray, List.set_cons_zero, List.set_cons_succ])
  refine wpAnyH_ready (rs := [4, 6]) (by kernel_rfl) (by simp) ?_
  refine AllReadyH.cons (o := _) rfl (fun K hK => ?_) (AllReadyH.cons (o := _) rfl (fun K hK => ?_) AllReadyH.nil)
  · go_simp
    refine hK.out _ _ ?_ (fun hHeld => ?_)
    · exact trivial
    clear hK K
    (try simp only [List.getElem_toArray, List.getElem_cons_zero, List.getElem_cons_succ, Act.put, List.setIfInBounds_toArray, List.set_cons_zero, List.set_cons_succ])
    refine wpAnyH_ready (rs := [6]) (by kernel_rfl) (by simp) ?_
    refine AllReadyH.cons (o := _) rfl (fun K hK => ?_) AllReadyH.nil
    go_simp
    refine Calls.mono (HIT.out _ _ HKR.out (by first | exact .inl rfl | exact .inr rfl)) ?_
    rintro e Wc ⟨rfl, hkc⟩
    have HKR := Lib.hid (HKR.out.trans hkc (fun _ _ h => h))
    have d4 := (H4.out.keep HKR.out (fun _ _ h => h)).blk.cell 4
    simp [StV.cells] at d4
    have hlt4 : b < Wc.heap.size := (H4.out.keep HKR.out (fun _ _ h => h)).blk.lt
    clear hkc
    (try dsimp only)
    refine hK.out _ _ ?_ (fun hHeld => ?_)
    · exact trivial
    clear hK K
    (try simp only [List.getElem_toArray, List.getElem_cons_zero, List.getElem_cons_succ, Act.put, List.setIfInBounds_toArray, List.set_cons_zero, List.set_cons_succ])
    refine wpAnyH_take (i := 7) (oi := _) (v := ?_) rfl (by kernel_rfl) (by kernel_rfl) (by kernel_rfl) (fun _ _ _ h => h) (Or.inl ⟨by rfl, ?_⟩) (by assumption) ?_
    rotate_left
    · (intro w hSw; (try dsimp only at hSw); go_simp) <;> with_reducible rfl
    (try simp only [List.getElem_toArray, List.getElem_cons_zero, List.getElem_cons_succ, Act.put, List.setIfInBounds_toArray, List.set_cons_zero, List.set_cons_succ])
    refine wpAnyH_take (i := 8) (oi := _) (v := ?_) rfl (by kernel_rfl) (by kernel_rfl) (by kernel_rfl) (fun _ _ _ h => h) (Or.inl ⟨by rfl, ?_⟩) (by assumption) ?_
    rotate_left
    · (intro w hSw; (try dsimp only at hSw); go_simp) <;> with_reducible rfl
    (try simp only [List.getElem_toArray, List.getElem_cons_zero, List.getElem_cons_succ, Act.put, List.setIfInBounds_toArray, List.set_cons_zero, List.set_cons_succ])
    refine wpAnyH_ready (rs := [10]) (by kernel_rfl) (by simp) ?_
    refine AllReadyH.cons (o := _) rfl (fun K hK => ?_) AllReadyH.nil
    go_simp
    refine Calls.mono (HIT.out _ _ HKR.out (by first | exact .inl rfl | exact .inr rfl)) ?_
    rintro e Wc ⟨rfl, hkc⟩
    have HKR := Lib.hid (HKR.out.trans hkc (fun _ _ h => h))
    have d4 := (H4.out.keep HKR.out (fun _ _ h => h)).blk.cell 4
    simp [StV.cells] at d4
    have hlt4 : b < Wc.heap.size := (H4.out.keep HKR.out (fun _ _ h => h)).blk.lt
    clear hkc
    (try dsimp only)
    refine hK.out _ _ ?_ (fun hHeld => ?_)
    · exact trivial
    clear hK K
    (try simp only [List.getElem_toArray, List.getElem_cons_zero, List.getElem_cons_succ, Act.put, List.setIfInBounds_toArray, List.set_cons_zero, List.set_cons_succ])
    refine wpAnyH_take (i := 11) (oi := _) (v := ?_) rfl (by kernel_rfl) (by kernel_rfl) (by kernel_rfl) (fun _ _ _ h => h) (Or.inl ⟨by rfl, ?_⟩) (by assumption) ?_
    rotate_left
    · (intro w hSw; (try dsimp only at hSw); go_simp) <;> with_reducible rfl
    (try simp only [List.getElem_toArray, List.getElem_cons_zero, List.getElem_cons_succ, Act.put, List.setIfInBounds_toArray, List.set_cons_zero, List.set_cons_succ])
    refine wpAnyH_ready (rs := [12]) (by kernel_rfl) (by simp) ?_
    refine AllReadyH.cons (o := _) rfl (fun K hK => ?_) AllReadyH.nil
    go_simp
    refine hK.out _ _ ?_ (fun hHeld => ?_)
    · exact trivial
    clear hK K
    (try simp only [List.getElem_toArray, List.getElem_cons_zero, List.getElem_cons_succ, Act.put, List.setIfInBounds_toArray, List.set_cons_zero, List.set_cons_succ])
    refine wpAnyH_ready (rs := [13]) (by kernel_rfl) (by simp) ?_
    refine AllReadyH.cons (o := _) rfl (fun K hK => ?_) AllReadyH.nil
    rw [if_pos (by rfl)]
    have ho6 : (Wc.alloc (.cells #[.string (touchNote i j)] 9)).ownsRow base 9 1 (.slice no S.notes.length nc) S.notes.length (strCells S.notes) := ownsRow_keep (H4.out.on) (HKR.out.alloc (.cells #[.string (touchNote i j)] 9)) (fun _ _ h => h)
    refine oper_app (.tmp 22) (.tmp 30) 24 24 rfl 9 (.string ⟨#[]⟩) 1 16 Tryz.underlying24 info9 rfl ho6 rfl ((Rd.new Wc 1 1 [.string (touchNote i j)] 9 rfl (by simp [Value.oneCell']) (by unfold maxLen; omega)).src Tryz.underlying24) rfl (by unfold maxLen; omega) (by omega) (Nat.le_trans H4.out.lt (HKR.out.alloc (.cells #[.string (touchNote i j)] 9)).size) (fun v' w7 happ => ?_)
    obtain ⟨ao7, cap7, rfl, _⟩ := ownsRow_shape happ.own
    have h6 := H4.out.keep (HKR.out.alloc (.cells #[.string (touchNote i j)] 9)) (fun _ _ h => h)
    have h7 := h6.setNotes (w1 := w7) (v' := .slice ao7 (S.notes.length + 1) cap7) (ls := S.notes ++ [touchNote i j]) happ.keep (by have := happ.own; simpa [strCells] using this) happ.fresh
    have hb7 := h6.blk.keep happ.keep h6.nne
    have d4 := hb7.cell 4
    have f4 := hb7.free 4
    simp [StV.cells] at d4 f4
    have HA := Lib.hid happ
    have H6 := Lib.hid h6
    have H7 := Lib.hid h7
    clear happ h6 h7 hb7
    (try dsimp only)
    refine hK.out _ _ ?_ (fun hHeld => ?_)
    · exact trivial
    clear hK K
    (try simp only [List.getElem_toArray, List.getElem_cons_zero, List.getElem_cons_succ, Act.put, List.setIfInBounds_toArray, List.set_cons_zero, List.set_cons_succ])
    refine wpAnyH_take (i := 14) (oi := _) (v := ?_) rfl (by kernel_rfl) (by kernel_rfl) (by kernel_rfl) (fun _ _ _ h => h) (Or.inl ⟨by rfl, ?_⟩) (by assumption) ?_
    rotate_left
    · (intro w hSw; (try dsimp only at hSw); go_simp) <;> with_reducible rfl
    (try simp only [List.getElem_toArray, List.getElem_cons_zero, List.getElem_cons_succ, Act.put, List.setIfInBounds_toArray, List.set_cons_zero, List.set_cons_succ])
    refine wpAnyH_take (i := 15) (oi := _) (v := ?_) rfl (by kernel_rfl) (by kernel_rfl) (by kernel_rfl) (fun _ _ _ h => h) (Or.inl ⟨by rfl, ?_⟩) (by assumption) ?_
    rotate_left
    · (intro w hSw; (try dsimp only at hSw); go_simp) <;> with_reducible rfl
    (try simp only [List.getElem_toArray, List.getElem_cons_zero, List.getElem_cons_succ, Act.put, List.setIfInBounds_toArray, List.set_cons_zero, List.set_cons_succ])
    refine wpAnyH_ready (rs := [16]) (by kernel_rfl) (by simp) ?_
    refine AllReadyH.cons (o := _) rfl (fun K hK => ?_) AllReadyH.nil
    go_simp
    refine hK.out _ _ ?_ (fun hHeld => ?_)
    · exact trivial
    clear hK K
    (try simp only [List.getElem_toArray, List.getElem_cons_zero, List.getElem_cons_succ, Act.put, List.setIfInBounds_toArray, List.set_cons_zero, List.set_cons_succ])
    refine wpAnyH_done (by kernel_rfl) ?_ _
    refine NoPanic.normal ?_
    go_wp2
    go_end0
    refine ⟨_, rfl, H7.out, ?_⟩
    refine HC4.out.trans ⟨rfl, rfl, fun k hk => ?_, (HKR.out.alloc (.cells #[.string (touchNote i j)] 9)).mono (fun _ _ h => h.elim) |>.trans (HA.out.keep.mono (T := fun k => base ≤ k ∧ StV.fp ⟨b, vb, vl, .slice co2 (S.contacts.length + 1) cc2, vt, .slice no S.notes.length nc⟩ k) (fun k _ e => ⟨H6.out.fp_ge.2.2.2 k e, .inr (.inr (.inr (.inr (.inr e))))⟩)) (fun _ _ h => h) |>.setCell _ _ (fun _ => ⟨H4.out.ge, .inl rfl⟩)⟩
    rcases hk with e | e | e | e | e | e
    · exact .inl (.inl e)
    · exact .inl (.inr (.inl e))
    · exact .inl (.inr (.inr (.inl e)))
    · exact .inl (.inr (.inr (.inr (.inl e))))
    · exact .inl (.inr (.inr (.inr (.inr (.inl e)))))
    · rcases HA.out.fresh with h1 | ⟨g, h1, h2⟩
      · exact .inl (.inr (.inr (.inr (.inr (.inr (h1.symm.trans e))))))
      · have h3 : g = k := Option.some.inj (h1.symm.trans e)
        have h4 := (HKR.out.alloc (.cells #[.string (touchNote i j)] 9)).size
        have h5 : (Wc.alloc (.cells #[.string (touchNote i j)] 9)).heap.size ≤ g := h2
        exact .inr (by omega)
  · go_simp
    refine Calls.mono (HIT.out _ _ HKR.out (by first | exact .inl rfl | exact .inr rfl)) ?_
    rintro e Wc ⟨rfl, hkc⟩
    have HKR := Lib.hid (HKR.out.trans hkc (fun _ _ h => h))
    have d4 := (H4.out.keep HKR.out (fun _ _ h => h)).blk.cell 4
    simp [StV.cells] at d4
    have hlt4 : b < Wc.heap.size := (H4.out.keep HKR.out (fun _ _ h => h)).blk.lt
    clear hkc
    (try dsimp only)
    refine hK.out _ _ ?_ (fun hHeld => ?_)
    · exact trivial
    clear hK K
    (try simp only [List.getElem_toArray, List.getElem_cons_zero, List.getElem_cons_succ, Act.put, List.setIfInBounds_toArray, List.set_cons_zero, List.set_cons_succ])
    refine wpAnyH_take (i := 7) (oi := _) (v := ?_) rfl (by kernel_rfl) (by kernel_rfl) (by kernel_rfl) (fun _ _ _ h => h) (Or.inl ⟨by rfl, ?_⟩) (by assumption) ?_
    rotate_left
    · (intro w hSw; (try dsimp only at hSw); go_simp) <;> with_reducible rfl
    (try simp only [List.getElem_toArray, List.getElem_cons_zero, List.getElem_cons_succ, Act.put, List.setIfInBounds_toArray, List.set_cons_zero, List.set_cons_succ])
    refine wpAnyH_take (i := 8) (oi := _) (v := ?_) rfl (by kernel_rfl) (by kernel_rfl) (by kernel_rfl) (fun _ _ _ h => h) (Or.inl ⟨by rfl, ?_⟩) (by assumption) ?_
    rotate_left
    · (intro w hSw; (try dsimp only at hSw); go_simp) <;> with_reducible rfl
    (try simp only [List.getElem_toArray, List.getElem_cons_zero, List.getElem_cons_succ, Act.put, List.setIfInBounds_toArray, List.set_cons_zero, List.set_cons_succ])
    refine wpAnyH_ready (rs := [4, 10]) (by kernel_rfl) (by simp) ?_
    refine AllReadyH.cons (o := _) rfl (fun K hK => ?_) (AllReadyH.cons (o := _) rfl (fun K hK => ?_) AllReadyH.nil)
    · go_simp
      refine hK.out _ _ ?_ (fun hHeld => ?_)
      · exact trivial
      clear hK K
      (try simp only [List.getElem_toArray, List.getElem_cons_zero, List.getElem_cons_succ, Act.put, List.setIfInBounds_toArray, List.set_cons_zero, List.set_cons_succ])
      refine wpAnyH_ready (rs := [10]) (by kernel_rfl) (by simp) ?_
      refine AllReadyH.cons (o := _) rfl (fun K hK => ?_) AllReadyH.nil
      go_simp
      refine Calls.mono (HIT.out _ _ HKR.out (by first | exact .inl rfl | exact .inr rfl)) ?_
      rintro e Wc ⟨rfl, hkc⟩
      have HKR := Lib.hid (HKR.out.trans hkc (fun _ _ h => h))
      have d4 := (H4.out.keep HKR.out (fun _ _ h => h)).blk.cell 4
      simp [StV.cells] at d4
      have hlt4 : b < Wc.heap.size := (H4.out.keep HKR.out (fun _ _ h => h)).blk.lt
      clear hkc
      (try dsimp only)
      refine hK.out _ _ ?_ (fun hHeld => ?_)
      · exact trivial
      clear hK K
      (try simp only [List.getElem_toArray, List.getElem_cons_zero, List.getElem_cons_succ, Act.put, List.setIfInBounds_toArray, List.set_cons_zero, List.set_cons_succ])
      refine wpAnyH_take (i := 11) (oi := _) (v := ?_) rfl (by kernel_rfl) (by kernel_rfl) (by kernel_rfl) (fun _ _ _ h => h) (Or.inl ⟨by rfl, ?_⟩) (by assumption) ?_
      rotate_left
      · (intro w hSw; (try dsimp only at hSw); go_simp) <;> with_reducible rfl
      (try simp only [List.getElem_toArray, List.getElem_cons_zero, List.getElem_cons_succ, Act.put, List.setIfInBounds_toArray, List.set_cons_zero, List.set_cons_succ])
      refine wpAnyH_ready (rs := [12]) (by kernel_rfl) (by simp) ?_
      refine AllReadyH.cons (o := _) rfl (fun K hK => ?_) AllReadyH.nil
      go_simp
      refine hK.out _ _ ?_ (fun hHeld => ?_)
      · exact trivial
      clear hK K
      (try simp only [List.getElem_toArray, List.getElem_cons_zero, List.getElem_cons_succ, Act.put, List.setIfInBounds_toArray, List.set_cons_zero, List.set_cons_succ])
      refine wpAnyH_ready (rs := [13]) (by kernel_rfl) (by simp) ?_
      refine AllReadyH.cons (o := _) rfl (fun K hK => ?_) AllReadyH.nil
      rw [if_pos (by rfl)]
      have ho6 : (Wc.alloc (.cells #[.string (touchNote i j)] 9)).ownsRow base 9 1 (.slice no S.notes.length nc) S.notes.length (strCells S.notes) := ownsRow_keep (H4.out.on) (HKR.out.alloc (.cells #[.string (touchNote i j)] 9)) (fun _ _ h => h)
      refine oper_app (.tmp 22) (.tmp 30) 24 24 rfl 9 (.string ⟨#[]⟩) 1 16 Tryz.underlying24 info9 rfl ho6 rfl ((Rd.new Wc 1 1 [.string (touchNote i j)] 9 rfl (by simp [Value.oneCell']) (by unfold maxLen; omega)).src Tryz.underlying24) rfl (by unfold maxLen; omega) (by omega) (Nat.le_trans H4.out.lt (HKR.out.alloc (.cells #[.string (touchNote i j)] 9)).size) (fun v' w7 happ => ?_)
      obtain ⟨ao7, cap7, rfl, _⟩ := ownsRow_shape happ.own
      have h6 := H4.out.keep (HKR.out.alloc (.cells #[.string (touchNote i j)] 9)) (fun _ _ h => h)
      have h7 := h6.setNotes (w1 := w7) (v' := .slice ao7 (S.notes.length + 1) cap7) (ls := S.notes ++ [touchNote i j]) happ.keep (by have := happ.own; simpa [strCells] using this) happ.fresh
      have hb7 := h6.blk.keep happ.keep h6.nne
      have d4 := hb7.cell 4
      have f4 := hb7.free 4
      simp [StV.cells] at d4 f4
      have HA := Lib.hid happ
      have H6 := Lib.hid h6
      have H7 := Lib.hid h7
      clear happ h6 h7 hb7
      (try dsimp only)
      refine hK.out _ _ ?_ (fun hHeld => ?_)
      · exact trivial
      clear hK K
      (try simp only [List.getElem_toArray, List.getElem_cons_zero, List.getElem_cons_succ, Act.put, List.setIfInBounds_toArray, List.set_cons_zero, List.set_cons_succ])
      refine wpAnyH_take (i := 14) (oi := _) (v := ?_) rfl (by kernel_rfl) (by kernel_rfl) (by kernel_rfl) (fun _ _ _ h => h) (Or.inl ⟨by rfl, ?_⟩) (by assumption) ?_
      rotate_left
      · (intro w hSw; (try dsimp only at hSw); go_simp) <;> with_reducible rfl
      (try simp only [List.getElem_toArray, List.getElem_cons_zero, List.getElem_cons_succ, Act.put, List.setIfInBounds_toArray, List.set_cons_zero, List.set_cons_succ])
      refine wpAnyH_take (i := 15) (oi := _) (v := ?_) rfl (by kernel_rfl) (by kernel_rfl) (by kernel_rfl) (fun _ _ _ h => h) (Or.inl ⟨by rfl, ?_⟩) (by assumption) ?_
      rotate_left
      · (intro w hSw; (try dsimp only at hSw); go_simp) <;> with_reducible rfl
      (try simp only [List.getElem_toArray, List.getElem_cons_zero, List.getElem_cons_succ, Act.put, List.setIfInBounds_toArray, List.set_cons_zero, List.set_cons_succ])
      refine wpAnyH_ready (rs := [16]) (by kernel_rfl) (by simp) ?_
      refine AllReadyH.cons (o := _) rfl (fun K hK => ?_) AllReadyH.nil
      go_simp
      refine hK.out _ _ ?_ (fun hHeld => ?_)
      · exact trivial
      clear hK K
      (try simp only [List.getElem_toArray, List.getElem_cons_zero, List.getElem_cons_succ, Act.put, List.setIfInBounds_toArray, List.set_cons_zero, List.set_cons_succ])
      refine wpAnyH_done (by kernel_rfl) ?_ _
      refine NoPanic.normal ?_
      go_wp2
      go_end0
      refine ⟨_, rfl, H7.out, ?_⟩
      refine HC4.out.trans ⟨rfl, rfl, fun k hk => ?_, (HKR.out.alloc (.cells #[.string (touchNote i j)] 9)).mono (fun _ _ h => h.elim) |>.trans (HA.out.keep.mono (T := fun k => base ≤ k ∧ StV.fp ⟨b, vb, vl, .slice co2 (S.contacts.length + 1) cc2, vt, .slice no S.notes.length nc⟩ k) (fun k _ e => ⟨H6.out.fp_ge.2.2.2 k e, .inr (.inr (.inr (.inr (.inr e))))⟩)) (fun _ _ h => h) |>.setCell _ _ (fun _ => ⟨H4.out.ge, .inl rfl⟩)⟩
      rcases hk with e | e | e | e | e | e
      · exact .inl (.inl e)
      · exact .inl (.inr (.inl e))
      · exact .inl (.inr (.inr (.inl e)))
      · exact .inl (.inr (.inr (.inr (.inl e))))
      · exact .inl (.inr (.inr (.inr (.inr (.inl e)))))
      · rcases HA.out.fresh with h1 | ⟨g, h1, h2⟩
        · exact .inl (.inr (.inr (.inr (.inr (.inr (h1.symm.trans e))))))
        · have h3 : g = k := Option.some.inj (h1.symm.trans e)
          have h4 := (HKR.out.alloc (.cells #[.string (touchNote i j)] 9)).size
          have h5 : (Wc.alloc (.cells #[.string (touchNote i j)] 9)).heap.size ≤ g := h2
          exact .inr (by omega)
    · go_simp
      refine Calls.mono (HIT.out _ _ HKR.out (by first | exact .inl rfl | exact .inr rfl)) ?_
      rintro e Wc ⟨rfl, hkc⟩
      have HKR := Lib.hid (HKR.out.trans hkc (fun _ _ h => h))
      have d4 := (H4.out.keep HKR.out (fun _ _ h => h)).blk.cell 4
      simp [StV.cells] at d4
      have hlt4 : b < Wc.heap.size := (H4.out.keep HKR.out (fun _ _ h => h)).blk.lt
      clear hkc
      (try dsimp only)
      refine hK.out _ _ ?_ (fun hHeld => ?_)
      · exact trivial
      clear hK K
      (try simp only [List.getElem_toArray, List.getElem_cons_zero, List.getElem_cons_succ, Act.put, List.setIfInBounds_toArray, List.set_cons_zero, List.set_cons_succ])
      refine wpAnyH_take (i := 11) (oi := _) (v := ?_) rfl (by kernel_rfl) (by kernel_rfl) (by kernel_rfl) (fun _ _ _ h => h) (Or.inl ⟨by rfl, ?_⟩) (by assumption) ?_
      rotate_left
      · (intro w hSw; (try dsimp only at hSw); go_simp) <;> with_reducible rfl
      (try simp only [List.getElem_toArray, List.getElem_cons_zero, List.getElem_cons_succ, Act.put, List.setIfInBounds_toArray, List.set_cons_zero, List.set_cons_succ])
      refine wpAnyH_ready (rs := [4, 12]) (by kernel_rfl) (by simp) ?_
      refine AllReadyH.cons (o := _) rfl (fun K hK => ?_) (AllReadyH.cons (o := _) rfl (fun K hK => ?_) AllReadyH.nil)
      · go_simp
        refine hK.out _ _ ?_ (fun hHeld => ?_)
        · exact trivial
        clear hK K
        (try simp only [List.getElem_toArray, List.getElem_cons_zero, List.getElem_cons_succ, Act.put, List.setIfInBounds_toArray, List.set_cons_zero, List.set_cons_succ])
        refine wpAnyH_ready (rs := [12]) (by kernel_rfl) (by simp) ?_
        refine AllReadyH.cons (o := _) rfl (fun K hK => ?_) AllReadyH.nil
        go_simp
        refine hK.out _ _ ?_ (fun hHeld => ?_)
        · exact trivial
        clear hK K
        (try simp only [List.getElem_toArray, List.getElem_cons_zero, List.getElem_cons_succ, Act.put, List.setIfInBounds_toArray, List.set_cons_zero, List.set_cons_succ])
        refine wpAnyH_ready (rs := [13]) (by kernel_rfl) (by simp) ?_
        refine AllReadyH.cons (o := _) rfl (fun K hK => ?_) AllReadyH.nil
        rw [if_pos (by rfl)]
        have ho6 : (Wc.alloc (.cells #[.string (touchNote i j)] 9)).ownsRow base 9 1 (.slice no S.notes.length nc) S.notes.length (strCells S.notes) := ownsRow_keep (H4.out.on) (HKR.out.alloc (.cells #[.string (touchNote i j)] 9)) (fun _ _ h => h)
        refine oper_app (.tmp 22) (.tmp 30) 24 24 rfl 9 (.string ⟨#[]⟩) 1 16 Tryz.underlying24 info9 rfl ho6 rfl ((Rd.new Wc 1 1 [.string (touchNote i j)] 9 rfl (by simp [Value.oneCell']) (by unfold maxLen; omega)).src Tryz.underlying24) rfl (by unfold maxLen; omega) (by omega) (Nat.le_trans H4.out.lt (HKR.out.alloc (.cells #[.string (touchNote i j)] 9)).size) (fun v' w7 happ => ?_)
        obtain ⟨ao7, cap7, rfl, _⟩ := ownsRow_shape happ.own
        have h6 := H4.out.keep (HKR.out.alloc (.cells #[.string (touchNote i j)] 9)) (fun _ _ h => h)
        have h7 := h6.setNotes (w1 := w7) (v' := .slice ao7 (S.notes.length + 1) cap7) (ls := S.notes ++ [touchNote i j]) happ.keep (by have := happ.own; simpa [strCells] using this) happ.fresh
        have hb7 := h6.blk.keep happ.keep h6.nne
        have d4 := hb7.cell 4
        have f4 := hb7.free 4
        simp [StV.cells] at d4 f4
        have HA := Lib.hid happ
        have H6 := Lib.hid h6
        have H7 := Lib.hid h7
        clear happ h6 h7 hb7
        (try dsimp only)
        refine hK.out _ _ ?_ (fun hHeld => ?_)
        · exact trivial
        clear hK K
        (try simp only [List.getElem_toArray, List.getElem_cons_zero, List.getElem_cons_succ, Act.put, List.setIfInBounds_toArray, List.set_cons_zero, List.set_cons_succ])
        refine wpAnyH_take (i := 14) (oi := _) (v := ?_) rfl (by kernel_rfl) (by kernel_rfl) (by kernel_rfl) (fun _ _ _ h => h) (Or.inl ⟨by rfl, ?_⟩) (by assumption) ?_
        rotate_left
        · (intro w hSw; (try dsimp only at hSw); go_simp) <;> with_reducible rfl
        (try simp only [List.getElem_toArray, List.getElem_cons_zero, List.getElem_cons_succ, Act.put, List.setIfInBounds_toArray, List.set_cons_zero, List.set_cons_succ])
        refine wpAnyH_take (i := 15) (oi := _) (v := ?_) rfl (by kernel_rfl) (by kernel_rfl) (by kernel_rfl) (fun _ _ _ h => h) (Or.inl ⟨by rfl, ?_⟩) (by assumption) ?_
        rotate_left
        · (intro w hSw; (try dsimp only at hSw); go_simp) <;> with_reducible rfl
        (try simp only [List.getElem_toArray, List.getElem_cons_zero, List.getElem_cons_succ, Act.put, List.setIfInBounds_toArray, List.set_cons_zero, List.set_cons_succ])
        refine wpAnyH_ready (rs := [16]) (by kernel_rfl) (by simp) ?_
        refine AllReadyH.cons (o := _) rfl (fun K hK => ?_) AllReadyH.nil
        go_simp
        refine hK.out _ _ ?_ (fun hHeld => ?_)
        · exact trivial
        clear hK K
        (try simp only [List.getElem_toArray, List.getElem_cons_zero, List.getElem_cons_succ, Act.put, List.setIfInBounds_toArray, List.set_cons_zero, List.set_cons_succ])
        refine wpAnyH_done (by kernel_rfl) ?_ _
        refine NoPanic.normal ?_
        go_wp2
        go_end0
        refine ⟨_, rfl, H7.out, ?_⟩
        refine HC4.out.trans ⟨rfl, rfl, fun k hk => ?_, (HKR.out.alloc (.cells #[.string (touchNote i j)] 9)).mono (fun _ _ h => h.elim) |>.trans (HA.out.keep.mono (T := fun k => base ≤ k ∧ StV.fp ⟨b, vb, vl, .slice co2 (S.contacts.length + 1) cc2, vt, .slice no S.notes.length nc⟩ k) (fun k _ e => ⟨H6.out.fp_ge.2.2.2 k e, .inr (.inr (.inr (.inr (.inr e))))⟩)) (fun _ _ h => h) |>.setCell _ _ (fun _ => ⟨H4.out.ge, .inl rfl⟩)⟩
        rcases hk with e | e | e | e | e | e
        · exact .inl (.inl e)
        · exact .inl (.inr (.inl e))
        · exact .inl (.inr (.inr (.inl e)))
        · exact .inl (.inr (.inr (.inr (.inl e))))
        · exact .inl (.inr (.inr (.inr (.inr (.inl e)))))
        · rcases HA.out.fresh with h1 | ⟨g, h1, h2⟩
          · exact .inl (.inr (.inr (.inr (.inr (.inr (h1.symm.trans e))))))
          · have h3 : g = k := Option.some.inj (h1.symm.trans e)
            have h4 := (HKR.out.alloc (.cells #[.string (touchNote i j)] 9)).size
            have h5 : (Wc.alloc (.cells #[.string (touchNote i j)] 9)).heap.size ≤ g := h2
            exact .inr (by omega)
      · go_simp
        refine hK.out _ _ ?_ (fun hHeld => ?_)
        · exact trivial
        clear hK K
        (try simp only [List.getElem_toArray, List.getElem_cons_zero, List.getElem_cons_succ, Act.put, List.setIfInBounds_toArray, List.set_cons_zero, List.set_cons_succ])
        refine wpAnyH_ready (rs := [4]) (by kernel_rfl) (by simp) ?_
        refine AllReadyH.cons (o := _) rfl (fun K hK => ?_) AllReadyH.nil
        go_simp
        refine hK.out _ _ ?_ (fun hHeld => ?_)
        · exact trivial
        clear hK K
        (try simp only [List.getElem_toArray, List.getElem_cons_zero, List.getElem_cons_succ, Act.put, List.setIfInBounds_toArray, List.set_cons_zero, List.set_cons_succ])
        refine wpAnyH_ready (rs := [13]) (by kernel_rfl) (by simp) ?_
        refine AllReadyH.cons (o := _) rfl (fun K hK => ?_) AllReadyH.nil
        rw [if_pos (by rfl)]
        have ho6 : (Wc.alloc (.cells #[.string (touchNote i j)] 9)).ownsRow base 9 1 (.slice no S.notes.length nc) S.notes.length (strCells S.notes) := ownsRow_keep (H4.out.on) (HKR.out.alloc (.cells #[.string (touchNote i j)] 9)) (fun _ _ h => h)
        refine oper_app (.tmp 22) (.tmp 30) 24 24 rfl 9 (.string ⟨#[]⟩) 1 16 Tryz.underlying24 info9 rfl ho6 rfl ((Rd.new Wc 1 1 [.string (touchNote i j)] 9 rfl (by simp [Value.oneCell']) (by unfold maxLen; omega)).src Tryz.underlying24) rfl (by unfold maxLen; omega) (by omega) (Nat.le_trans H4.out.lt (HKR.out.alloc (.cells #[.string (touchNote i j)] 9)).size) (fun v' w7 happ => ?_)
        obtain ⟨ao7, cap7, rfl, _⟩ := ownsRow_shape happ.own
        have h6 := H4.out.keep (HKR.out.alloc (.cells #[.string (touchNote i j)] 9)) (fun _ _ h => h)
        have h7 := h6.setNotes (w1 := w7) (v' := .slice ao7 (S.notes.length + 1) cap7) (ls := S.notes ++ [touchNote i j]) happ.keep (by have := happ.own; simpa [strCells] using this) happ.fresh
        have hb7 := h6.blk.keep happ.keep h6.nne
        have d4 := hb7.cell 4
        have f4 := hb7.free 4
        simp [StV.cells] at d4 f4
        have HA := Lib.hid happ
        have H6 := Lib.hid h6
        have H7 := Lib.hid h7
        clear happ h6 h7 hb7
        (try dsimp only)
        refine hK.out _ _ ?_ (fun hHeld => ?_)
        · exact trivial
        clear hK K
        (try simp only [List.getElem_toArray, List.getElem_cons_zero, List.getElem_cons_succ, Act.put, List.setIfInBounds_toArray, List.set_cons_zero, List.set_cons_succ])
        refine wpAnyH_take (i := 14) (oi := _) (v := ?_) rfl (by kernel_rfl) (by kernel_rfl) (by kernel_rfl) (fun _ _ _ h => h) (Or.inl ⟨by rfl, ?_⟩) (by assumption) ?_
        rotate_left
        · (intro w hSw; (try dsimp only at hSw); go_simp) <;> with_reducible rfl
        (try simp only [List.getElem_toArray, List.getElem_cons_zero, List.getElem_cons_succ, Act.put, List.setIfInBounds_toArray, List.set_cons_zero, List.set_cons_succ])
        refine wpAnyH_take (i := 15) (oi := _) (v := ?_) rfl (by kernel_rfl) (by kernel_rfl) (by kernel_rfl) (fun _ _ _ h => h) (Or.inl ⟨by rfl, ?_⟩) (by assumption) ?_
        rotate_left
        · (intro w hSw; (try dsimp only at hSw); go_simp) <;> with_reducible rfl
        (try simp only [List.getElem_toArray, List.getElem_cons_zero, List.getElem_cons_succ, Act.put, List.setIfInBounds_toArray, List.set_cons_zero, List.set_cons_succ])
        refine wpAnyH_ready (rs := [16]) (by kernel_rfl) (by simp) ?_
        refine AllReadyH.cons (o := _) rfl (fun K hK => ?_) AllReadyH.nil
        go_simp
        refine hK.out _ _ ?_ (fun hHeld => ?_)
        · exact trivial
        clear hK K
        (try simp only [List.getElem_toArray, List.getElem_cons_zero, List.getElem_cons_succ, Act.put, List.setIfInBounds_toArray, List.set_cons_zero, List.set_cons_succ])
        refine wpAnyH_done (by kernel_rfl) ?_ _
        refine NoPanic.normal ?_
        go_wp2
        go_end0
        refine ⟨_, rfl, H7.out, ?_⟩
        refine HC4.out.trans ⟨rfl, rfl, fun k hk => ?_, (HKR.out.alloc (.cells #[.string (touchNote i j)] 9)).mono (fun _ _ h => h.elim) |>.trans (HA.out.keep.mono (T := fun k => base ≤ k ∧ StV.fp ⟨b, vb, vl, .slice co2 (S.contacts.length + 1) cc2, vt, .slice no S.notes.length nc⟩ k) (fun k _ e => ⟨H6.out.fp_ge.2.2.2 k e, .inr (.inr (.inr (.inr (.inr e))))⟩)) (fun _ _ h => h) |>.setCell _ _ (fun _ => ⟨H4.out.ge, .inl rfl⟩)⟩
        rcases hk with e | e | e | e | e | e
        · exact .inl (.inl e)
        · exact .inl (.inr (.inl e))
        · exact .inl (.inr (.inr (.inl e)))
        · exact .inl (.inr (.inr (.inr (.inl e))))
        · exact .inl (.inr (.inr (.inr (.inr (.inl e)))))
        · rcases HA.out.fresh with h1 | ⟨g, h1, h2⟩
          · exact .inl (.inr (.inr (.inr (.inr (.inr (h1.symm.trans e))))))
          · have h3 : g = k := Option.some.inj (h1.symm.trans e)
            have h4 := (HKR.out.alloc (.cells #[.string (touchNote i j)] 9)).size
            have h5 : (Wc.alloc (.cells #[.string (touchNote i j)] 9)).heap.size ≤ g := h2
            exact .inr (by omega)
end Go.Proofs.YtkkjonkcjlnohaaGreatDoor

/- house.state.touch. -/
namespace Go.Proofs.YtkkjonkcjlnohaaGreatDoor
set_option linter.unusedSimpArgs false
set_option linter.unusedVariables false
set_option linter.unnecessarySimpa false
open Go.RowKit

def touchF (S : St) (a : FA) : Res :=
  if allLots S a.n then (if a.n.getD 0 0 = a.n.getD 1 0 then ⟨7, S, bs []⟩ else ⟨0, touchS S (a.n.getD 0 0) (a.n.getD 1 0), bs [116, 111, 117, 99, 104]⟩) else ⟨5, S, bs []⟩
def i64b (x : Int) : Prop := -9223372036854775808 ≤ x ∧ x ≤ 9223372036854775807

set_option maxHeartbeats 2000000 in
set_option maxRecDepth 100000 in
theorem touch_any {base : Nat} {w : World} {V : StV} {S : St} {vn : Value} {a : FA} (hG : GW base w) (h : OSt base w V S) (hl : S.small) (ha : Args base w vn a) (hn : a.n.length = 2) (hb : ∀ x ∈ a.n, i64b x) :
    Calls Tryz.prog 402 #[.pointer (some ⟨V.b, 0, none⟩), .agg #[vn, .string a.word]] w (RunPost base w V (touchF S a)) := by
  obtain ⟨x, y, hx⟩ : ∃ x y, a.n = [x, y] := by
    match a.n, hn with
    | [x, y], _ => exact ⟨x, y, rfl⟩
  obtain ⟨an, word, aok⟩ := a
  simp only at hx hn hb
  subst hx
  have hard := ha.rd
  rcases hard.2.2 with ⟨_, h1⟩ | ⟨nb, no, nc, rfl, hnc1, hnc2, hcells⟩
  · simp at h1
  have hn0 := hcells 0 (.int .i64 x) (by simp [icells])
  have hn1 := hcells 1 (.int .i64 y) (by simp [icells])
  rw [Nat.add_zero] at hn0
  have hnlt := World.block_lt_of_cell? w _ hn0
  change Calls Tryz.prog 402 #[.pointer (some ⟨V.b, 0, none⟩), .agg #[.slice (some ⟨nb, no, none⟩) 2 nc, .string word]] w (RunPost base w V (touchF S ⟨[x, y], word, aok⟩))
  simp only at hnlt
  have hnb : nb < base := ha.lt nb rfl
  obtain ⟨w0, hw0⟩ : ∃ w0, w0 = w.alloc (.cells #[.slice (some ⟨nb, no, none⟩) 2 nc, .string word] 98) := ⟨_, rfl⟩
  have hk0 : Keep (fun _ => False) w w0 := by rw [hw0]; exact (Keep.refl _ _).alloc _
  have hb0 : Blk w0 w.heap.size #[.slice (some ⟨nb, no, none⟩) 2 nc, .string word] 98 := by rw [hw0]; exact Blk.new _ _ _
  have h0 := h.keep hk0 (fun _ _ h => h)
  have HKR : Hid (Keep (fun k => base ≤ k ∧ V.fp k) w0 w0) := Lib.hid (Keep.refl _ _)
  have HC : Hid (∀ W, Keep (fun k => base ≤ k ∧ V.fp k) w0 W → W.cell? ⟨w.heap.size, 0, none⟩ = some (.slice (some ⟨nb, no, none⟩) 2 nc) ∧ W.cell? ⟨nb, no, none⟩ = some (.int .i64 x) ∧ W.cell? ⟨nb, no + 1, none⟩ = some (.int .i64 y)) :=
    Lib.hid fun W hk => by
      have hB := hb0.keep hk (fun e => by have := h.fp_lt _ e.2; omega)
      refine ⟨hB.cell 0, (hk.cell (p := ⟨nb, no, none⟩) (Nat.lt_of_lt_of_le hnlt hk0.size) (fun e => by have := e.1; simp at this; omega)).trans ((hk0.cell (p := ⟨nb, no, none⟩) hnlt (fun h => h)).trans hn0), (hk.cell (p := ⟨nb, no + 1, none⟩) (Nat.lt_of_lt_of_le hnlt hk0.size) (fun e => by have := e.1; simp at this; omega)).trans ((hk0.cell (p := ⟨nb, no + 1, none⟩) hnlt (fun h => h)).trans hn1)⟩
  obtain ⟨b0, b1, b2⟩ := HC.out w0 (Keep.refl _ _)
  rw [hw0] at b0 b1 b2
  have hth := there_any (h0.at h0.lt) hl.l ((show Rd w 1 (.slice (some ⟨nb, no, none⟩) 2 nc) [x, y].length (icells [x, y]) from hard).keep hk0 (fun _ _ h => h)) (by simp)
  have HG0 := Lib.hid (hG.keep hk0 (fun _ _ h => h))
  have H0 := Lib.hid h0; clear h0
  have H := Lib.hid h; clear h
  have HK0 := Lib.hid hk0; clear hk0
  have HW0 := Lib.hid hw0; clear hw0
  have HL := Lib.hid hl; clear hl
  have hbx := hb x (by simp)
  have hby := hb y (by simp)
  have HBX := Lib.hid hbx
  have HBY := Lib.hid hby
  clear hn0 hn1 hb0 hard hcells ha hn hb hbx hby
  cases hall : allLots S [x, y] with
  | false =>
    have HF := Lib.hid (show touchF S ⟨[x, y], word, aok⟩ = ⟨5, S, bs []⟩ by unfold touchF; simp only []; rw [hall]; rfl)
    rw [hall] at hth
    have HT := Lib.hid hth; clear hth hall
    go_enter Tryz.func402, Tryz.ntmps402
    go_wp2_with (go_at_call 406; rw [← HW0.out]; refine HT.out.mono ?_; rintro e w1 ⟨rfl, hk1⟩; have HK1 := Lib.hid hk1; clear hk1)
    go_ret2
    exact ⟨by rw [HF.out]; rfl, V, (fun e => by rw [HF.out] at e; cases e), (Chg.refl base w V).after (HK0.out.trans HK1.out (fun _ _ h => h))⟩
  | true =>
    rw [hall] at hth
    have HT := Lib.hid hth; clear hth
    by_cases hxy : x = y
    · have HF := Lib.hid (show touchF S ⟨[x, y], word, aok⟩ = ⟨7, S, bs []⟩ by unfold touchF; simp only []; rw [hall, if_pos rfl]; exact if_pos hxy)
      have exy : (x == y) = true := by simpa using hxy
      clear hall hxy
      go_enter Tryz.func402, Tryz.ntmps402
      go_wp2_with (go_at_call 406; rw [← HW0.out]; refine HT.out.mono ?_; rintro e w1 ⟨rfl, hk1⟩; have HK1 := Lib.hid hk1; obtain ⟨a0, a1, a2⟩ := HC.out w1 (hk1.mono (fun _ _ h => h.elim)); clear hk1)
      go_quiet (fail)
      go_wp2
      go_ret2
      exact ⟨by rw [HF.out]; rfl, V, (fun e => by rw [HF.out] at e; cases e), (Chg.refl base w V).after ((HK0.out.trans HK1.out (fun _ _ h => h)).trans ((Keep.refl (fun _ => False) w1).drewN nq) (fun _ _ h => h))⟩
    · have HF := Lib.hid (show touchF S ⟨[x, y], word, aok⟩ = ⟨0, touchS S x y, bs [116, 111, 117, 99, 104]⟩ by unfold touchF; simp only []; rw [hall, if_pos rfl]; exact if_neg hxy)
      have exy : (x == y) = false := by simpa using hxy
      clear hall hxy
      go_enter Tryz.func402, Tryz.ntmps402
      go_wp2_with (go_at_call 406; rw [← HW0.out]; refine HT.out.mono ?_; rintro e w1 ⟨rfl, hk1⟩; have HK1 := Lib.hid hk1; obtain ⟨a0, a1, a2⟩ := HC.out w1 (hk1.mono (fun _ _ h => h.elim)); clear hk1)
      go_quiet (fail)
      go_wp2
      have HKR : Hid (Keep (fun k => base ≤ k ∧ V.fp k) w0 ((w1.drewN nq).drew)) := Lib.hid (((HK1.out.drewN nq).drew).mono (fun _ _ h => h.elim))
      go_region_held3 (fun W => W.cell? ⟨w.heap.size, 0, none⟩ = some (.slice (some ⟨nb, no, none⟩) 2 nc) ∧ W.cell? ⟨nb, no, none⟩ = some (.int .i64 x) ∧ W.cell? ⟨nb, no + 1, none⟩ = some (.int .i64 y))
        (first | exact ⟨a0, a1, a2⟩ | (refine HC.out _ ?_; repeat (first | exact HKR.out | apply Keep.drew)))
        ((go_at_call 408; have hh := addTouch_any (i := x) (j := y) (HG0.out.keep ((HK1.out.drewN nq).drew) (fun _ _ h => h)) (H0.out.keep ((HK1.out.drewN nq).drew) (fun _ _ h => h)) HL.out.c HL.out.n HBX.out HBY.out; refine Calls.mono hh ?_; clear hh; rintro e W1 ⟨V1, rfl, ho1, hc1⟩; have HKR := Lib.hid (HKR.out.trans hc1.keep (fun _ _ h => h)); have HO1 := Lib.hid ho1; clear ho1; have HC1 := Lib.hid hc1; clear hc1; dsimp only))
      go_wp2
      go_ret2
      exact ⟨by rw [HF.out]; rfl, V1, fun _ => by rw [HF.out]; exact HO1.out, (HC1.out.before ((HK0.out.trans HK1.out (fun _ _ h => h)).drewN nq |>.drew))⟩
end Go.Proofs.YtkkjonkcjlnohaaGreatDoor

/- One lot of a state changed in place; the words of a command opened; house.state.shut. -/
namespace Go.Proofs.YtkkjonkcjlnohaaGreatDoor
set_option linter.unusedSimpArgs false
set_option linter.unusedVariables false
set_option linter.unnecessarySimpa false
open Go.RowKit

theorem ownsRow_set {w : World} {base : Nat} {e : TypeId} {size n g cap : Nat} {xs : List Value} (h : w.ownsRow base e size (.slice (some ⟨g, 0, none⟩) n cap) n xs) (k : Nat) (hk : k < xs.length) (u : Value) :
    (w.setCell ⟨g, k, none⟩ u).ownsRow base e size (.slice (some ⟨g, 0, none⟩) n cap) n (xs.set k u) := by
  obtain ⟨hl, h2⟩ := h
  refine ⟨by rw [List.length_set]; exact hl, ?_⟩
  rcases h2 with ⟨hv, _⟩ | ⟨g', c, cur, hv, hb, hgg, hnc, hcm, hcs, htake⟩
  · cases hv
  · cases hv
    refine .inr ⟨g, cap, cur.setIfInBounds k u, rfl, hb, ?_, hnc, hcm, by simp [hcs], ?_⟩
    · simp [World.setCell, Array.getElem?_modify, hgg]
    · rw [Array.toList_setIfInBounds, ← htake, List.take_set]
theorem lotCells_get (l : List Lot) (i f : Nat) (hi : i < l.length) (hf : f < 4) : (lotCells l)[i * 4 + f]? = (lotCell l[i])[f]? := by
  induction l generalizing i with
  | nil => exact absurd hi (by simp)
  | cons x l ih =>
    simp only [lotCells, List.flatMap_cons]
    cases i with
    | zero => rw [Nat.zero_mul, Nat.zero_add, List.getElem?_append_left (by simp [lotCell]; omega)]; rfl
    | succ i =>
      rw [List.getElem?_append_right (by simp [lotCell]; omega)]
      have : (i + 1) * 4 + f - (lotCell x).length = i * 4 + f := by simp [lotCell]; omega
      rw [this]
      exact ih i (by simpa using hi)
theorem lotCells_set (l : List Lot) (i f : Nat) (hi : i < l.length) (hf : f < 4) (x : Lot) (u : Value) (hx : lotCell x = (lotCell l[i]).set f u) : lotCells (l.set i x) = (lotCells l).set (i * 4 + f) u := by
  induction l generalizing i with
  | nil => exact absurd hi (by simp)
  | cons y l ih =>
    cases i with
    | zero =>
      simp only [lotCells, List.set_cons_zero, List.flatMap_cons, Nat.zero_mul, Nat.zero_add]
      rw [hx, List.set_append_left _ _ (by simp [lotCell]; omega)]
      rfl
    | succ i =>
      simp only [lotCells, List.set_cons_succ, List.flatMap_cons]
      rw [List.set_append_right _ _ (by simp [lotCell]; omega)]
      have : (i + 1) * 4 + f - (lotCell y).length = i * 4 + f := by simp [lotCell]; omega
      rw [this]
      have := ih i (by simpa using hi) (by simpa using hx)
      simp only [lotCells] at this
      rw [this]
/-- The row of lots, if there is one. -/
theorem OSt.lotRow {base : Nat} {w : World} {V : StV} {S : St} (h : OSt base w V S) (hp : 0 < S.lots.length) : ∃ g cap, V.vl = .slice (some ⟨g, 0, none⟩) S.lots.length cap ∧ g < w.heap.size ∧ base ≤ g ∧ g ≠ V.b := by
  rcases h.ol.2 with ⟨_, e⟩ | ⟨g, cap, cur, hv, hb, hgg, _⟩
  · omega
  · refine ⟨g, cap, hv, (Array.getElem?_eq_some_iff.1 hgg).1, hb, fun e => h.lne ?_⟩
    rw [hv, e]; rfl
theorem OSt.lotCell {base : Nat} {w : World} {V : StV} {S : St} (h : OSt base w V S) {g cap : Nat} (hv : V.vl = .slice (some ⟨g, 0, none⟩) S.lots.length cap) {i : Nat} (hi : i < S.lots.length) :
    (w.cell? ⟨g, i * 4, none⟩ = some (.string S.lots[i].spice) ∧ w.cell? ⟨g, i * 4 + 1, none⟩ = some (.int .i64 S.lots[i].grams) ∧ w.cell? ⟨g, i * 4 + 2, none⟩ = some (.int .i64 S.lots[i].bay) ∧ w.cell? ⟨g, i * 4 + 3, none⟩ = some (.bool S.lots[i].closed)) ∧ ∀ o, w.frozen? ⟨g, o, none⟩ = false := by
  have hr := ownsRow_rd h.ol (lotCells_one _)
  have hc : ∀ f u, f < 4 → (Go.Proofs.YtkkjonkcjlnohaaGreatDoor.lotCell S.lots[i])[f]? = some u → w.cell? ⟨g, i * 4 + f, none⟩ = some u := fun f u hf hu => by
    rcases hr.2.2 with ⟨_, e⟩ | ⟨g', o, c, e, _, _, hx⟩
    · omega
    · rw [hv] at e
      cases e
      have := hx (i * 4 + f) u (by rw [lotCells_get _ _ _ hi hf]; exact hu)
      rwa [Nat.zero_add] at this
  refine ⟨⟨hc 0 _ (by omega) rfl, hc 1 _ (by omega) rfl, hc 2 _ (by omega) rfl, hc 3 _ (by omega) rfl⟩, fun o => ?_⟩
  rcases h.ol.2 with ⟨e, _⟩ | ⟨g', cap', cur, e, _, hgg, _⟩
  · rw [hv] at e; cases e
  · rw [hv] at e; cases e
    simp [World.frozen?, hgg]
theorem OSt.setLot {base : Nat} {w : World} {V : StV} {S : St} (h : OSt base w V S) {g cap : Nat} (hv : V.vl = .slice (some ⟨g, 0, none⟩) S.lots.length cap) {i : Nat} (hi : i < S.lots.length) (f : Nat) (hf : f < 4) (x : Lot) (u : Value)
    (hx : Go.Proofs.YtkkjonkcjlnohaaGreatDoor.lotCell x = (Go.Proofs.YtkkjonkcjlnohaaGreatDoor.lotCell S.lots[i]).set f u) :
    OSt base (w.setCell ⟨g, i * 4 + f, none⟩ u) V { S with lots := S.lots.set i x } ∧ Chg base w V V (w.setCell ⟨g, i * 4 + f, none⟩ u) := by
  have hk : Keep (fun k => k = g) w (w.setCell ⟨g, i * 4 + f, none⟩ u) := (Keep.refl _ _).setCell _ _ (fun _ => rfl)
  have ho : V.vl.ownBlock = some g := by rw [hv]; rfl
  have hgne : g ≠ V.b := fun e => h.lne (e ▸ ho)
  refine ⟨⟨h.blk.keep hk (fun e => hgne e.symm), h.ge, h.rb.keep hk (fun b e e' => by have := h.bb b e; have := h.fp_ge.1 g ho; omega), h.bb, ?_, ownsRow_keep h.oc hk (fun b e e' => ownsRow_types h.ol h.oc (by decide) b (e' ▸ ho) e), ownsRow_keep h.ot hk (fun b e e' => ownsRow_types h.ol h.ot (by decide) b (e' ▸ ho) e), ownsRow_keep h.on hk (fun b e e' => ownsRow_types h.ol h.on (by decide) b (e' ▸ ho) e), h.ct⟩, rfl, rfl, fun _ e => .inl e, hk.mono (fun k _ e => ⟨h.fp_ge.1 k (e ▸ ho), .inr (.inr (.inl (e ▸ ho)))⟩)⟩
  have hol := h.ol
  rw [hv] at hol
  have := ownsRow_set hol (i * 4 + f) (by rw [lotCells_length]; omega) u
  rw [← lotCells_set _ _ _ hi hf x u hx] at this
  simp only [List.length_set, hv]
  exact this

/-- The words of a command, in the world in which its box has been laid. -/
theorem args_open {base : Nat} {w : World} {V : StV} {S : St} {vn : Value} {a : FA} (h : OSt base w V S) (ha : Args base w vn a) (hp : 0 < a.n.length) :
    ∃ nb no nc, vn = .slice (some ⟨nb, no, none⟩) a.n.length nc ∧ a.n.length ≤ nc ∧
      ∀ W, Keep (fun k => base ≤ k ∧ V.fp k) (w.alloc (.cells #[.slice (some ⟨nb, no, none⟩) a.n.length nc, .string a.word] 98)) W →
        W.cell? ⟨w.heap.size, 0, none⟩ = some (.slice (some ⟨nb, no, none⟩) a.n.length nc) ∧ W.cell? ⟨w.heap.size, 1, none⟩ = some (.string a.word) ∧ ∀ j, j < a.n.length → W.cell? ⟨nb, no + j, none⟩ = some (.int .i64 (a.n.getD j 0)) := by
  rcases ha.rd.2.2 with ⟨_, h1⟩ | ⟨nb, no, nc, rfl, hnc1, hnc2, hcells⟩
  · omega
  refine ⟨nb, no, nc, rfl, hnc1, fun W hk => ?_⟩
  have hk0 : Keep (fun _ => False) w (w.alloc (.cells #[.slice (some ⟨nb, no, none⟩) a.n.length nc, .string a.word] 98)) := (Keep.refl _ _).alloc _
  have hB := (Blk.new w #[.slice (some ⟨nb, no, none⟩) a.n.length nc, .string a.word] 98).keep hk (fun e => by have := h.fp_lt _ e.2; omega)
  refine ⟨hB.cell 0, hB.cell 1, fun j hj => ?_⟩
  have hn0 := hcells j _ (icells_get a.n j hj)
  have hlt := World.block_lt_of_cell? w _ hn0
  have hnb : nb < base := ha.lt nb rfl
  exact (hk.cell (p := ⟨nb, no + j, none⟩) (Nat.lt_of_lt_of_le hlt hk0.size) (fun e => by have := e.1; simp at this; omega)).trans ((hk0.cell (p := ⟨nb, no + j, none⟩) hlt (fun h => h)).trans hn0)

def shutF (S : St) (a : FA) : Res :=
  if hasLot S (a.n.getD 0 0) then
    match S.lots[(a.n.getD 0 0 - 1).toNat]? with
    | some x => if x.closed then ⟨7, S, bs []⟩ else ⟨0, { S with lots := S.lots.set (a.n.getD 0 0 - 1).toNat { x with bay := -1, closed := true } }, bs [99, 108, 111, 115, 101]⟩
    | none => ⟨5, S, bs []⟩
  else ⟨5, S, bs []⟩
end Go.Proofs.YtkkjonkcjlnohaaGreatDoor

/- house.state.shut. -/
namespace Go.Proofs.YtkkjonkcjlnohaaGreatDoor
set_option linter.unusedSimpArgs false
set_option linter.unusedVariables false
set_option linter.unnecessarySimpa false
open Go.RowKit

theorem hasLot_at {S : St} {i : Int} (h : hasLot S i = true) : ∃ k : Nat, i = (k : Int) + 1 ∧ k < S.lots.length := by
  unfold hasLot at h
  simp at h
  exact ⟨(i - 1).toNat, by omega, by omega⟩
theorem lotPtr_at {V : StV} {g cap n k : Nat} (hv : V.vl = .slice (some ⟨g, 0, none⟩) n cap) : lotPtr V ((k : Int) + 1) = .pointer (some ⟨g, k * 4, none⟩) := by
  unfold lotPtr
  rw [hv]
  simp only []
  rw [show ((k : Int) + 1 - 1).toNat = k by omega, Nat.zero_add]

set_option maxHeartbeats 2000000 in
set_option maxRecDepth 100000 in
theorem shut_any {base : Nat} {w : World} {V : StV} {S : St} {vn : Value} {a : FA} (hG : GW base w) (h : OSt base w V S) (hl : S.small) (ha : Args base w vn a) (hn : a.n.length = 1) :
    Calls Tryz.prog 404 #[.pointer (some ⟨V.b, 0, none⟩), .agg #[vn, .string a.word]] w (RunPost base w V (shutF S a)) := by
  obtain ⟨nb, no, nc, rfl, hnc, hC⟩ := args_open h ha (by omega)
  have hd : ∃ x, a.n = [x] := List.length_eq_one_iff.1 hn
  obtain ⟨x, hx⟩ := hd
  obtain ⟨an, word, aok⟩ := a
  simp only at hx hn hnc hC
  subst hx
  change Calls Tryz.prog 404 #[.pointer (some ⟨V.b, 0, none⟩), .agg #[.slice (some ⟨nb, no, none⟩) 1 nc, .string word]] w (RunPost base w V (shutF S ⟨[x], word, aok⟩))
  have hC' : ∀ W, Keep (fun k => base ≤ k ∧ V.fp k) (w.alloc (.cells #[.slice (some ⟨nb, no, none⟩) 1 nc, .string word] 98)) W → W.cell? ⟨w.heap.size, 0, none⟩ = some (.slice (some ⟨nb, no, none⟩) 1 nc) ∧ W.cell? ⟨nb, no, none⟩ = some (.int .i64 x) := fun W hk => by
    obtain ⟨h1, _, h3⟩ := hC W hk
    exact ⟨h1, h3 0 (by simp)⟩
  obtain ⟨b0, b2⟩ := hC' _ (Keep.refl _ _)
  have hnc1 : 1 ≤ nc := hnc
  obtain ⟨w0, hw0⟩ : ∃ w0, w0 = w.alloc (.cells #[.slice (some ⟨nb, no, none⟩) 1 nc, .string word] 98) := ⟨_, rfl⟩
  have hk0 : Keep (fun _ => False) w w0 := by rw [hw0]; exact (Keep.refl _ _).alloc _
  have h0 := h.keep hk0 (fun _ _ h => h)
  have hlot := lot_any (i := x) (h0.at h0.lt) hl.l
  unfold LotPost at hlot
  have HW0 := Lib.hid hw0
  have HK0 := Lib.hid hk0; clear hk0
  clear hC hC' ha hnc hn
  cases hb : hasLot S x with
  | false =>
    have HF := Lib.hid (show shutF S ⟨[x], word, aok⟩ = ⟨5, S, bs []⟩ by unfold shutF; simp only [List.getD_cons_zero]; rw [hb]; rfl)
    rw [hb, if_neg (by simp)] at hlot
    have HLT := Lib.hid hlot; clear hlot hb h h0 hw0
    go_enter Tryz.func404, Tryz.ntmps404
    go_wp2_with (go_at_call 407; rw [← HW0.out]; refine HLT.out.mono ?_; rintro e w1 ⟨rfl, rfl⟩)
    go_ret2
    exact ⟨by rw [HF.out]; rfl, V, (fun e => by rw [HF.out] at e; cases e), (Chg.refl base w V).after HK0.out⟩
  | true =>
    obtain ⟨k, rfl, hk⟩ := hasLot_at hb
    obtain ⟨g, cap, hv, hglt, hgb, hgne⟩ := h.lotRow (by omega)
    rw [hb, if_pos rfl, lotPtr_at hv] at hlot
    have hget : S.lots[((k : Int) + 1 - 1).toNat]? = some S.lots[k] := by rw [show ((k : Int) + 1 - 1).toNat = k by omega]; exact List.getElem?_eq_getElem hk
    have HLT := Lib.hid hlot; clear hlot
    obtain ⟨⟨_, _, c2, c3⟩, hfr⟩ := h0.lotCell hv hk
    have f2 := hfr (k * 4 + 2)
    have f3 := hfr (k * 4 + 3)
    clear hfr
    cases hcl : S.lots[k].closed with
    | true =>
      have HF := Lib.hid (show shutF S ⟨[(k : Int) + 1], word, aok⟩ = ⟨7, S, bs []⟩ by unfold shutF; simp only [List.getD_cons_zero]; rw [hb, hget]; simp only [if_true]; rw [hcl]; rfl)
      rw [hcl] at c3
      clear hb h h0 hw0 hget
      go_enter Tryz.func404, Tryz.ntmps404
      go_wp2_with (go_at_call 407; rw [← HW0.out]; refine HLT.out.mono ?_; rintro e w1 ⟨rfl, rfl⟩)
      go_ret2
      exact ⟨by rw [HF.out]; rfl, V, (fun e => by rw [HF.out] at e; cases e), (Chg.refl base w V).after HK0.out⟩
    | false =>
      have HF := Lib.hid (show shutF S ⟨[(k : Int) + 1], word, aok⟩ = ⟨0, { S with lots := S.lots.set k { S.lots[k] with bay := -1, closed := true } }, bs [99, 108, 111, 115, 101]⟩ by unfold shutF; simp only [List.getD_cons_zero]; rw [hb, hget]; simp only [if_true]; rw [hcl, show ((k : Int) + 1 - 1).toNat = k by omega]; rfl)
      rw [hcl] at c3
      have H0 := Lib.hid h0; clear hb h h0 hw0 hget
      go_enter Tryz.func404, Tryz.ntmps404
      go_wp2_with (go_at_call 407; rw [← HW0.out]; refine HLT.out.mono ?_; rintro e w1 ⟨rfl, rfl⟩)
      go_ret2
      obtain ⟨h1, hc1⟩ := H0.out.setLot hv hk 3 (by omega) { S.lots[k] with closed := true } (.bool true) rfl
      obtain ⟨h2, hc2⟩ := h1.setLot (g := g) (cap := cap) (by simpa using hv) (i := k) (by simpa using hk) 2 (by omega) { S.lots[k] with bay := -1, closed := true } (.int .i64 (-1)) (by simp [lotCell])
      refine ⟨by rw [HF.out]; rfl, V, fun _ => ?_, (hc1.trans hc2).before HK0.out⟩
      rw [HF.out]
      simpa using h2
end Go.Proofs.YtkkjonkcjlnohaaGreatDoor

/- house.state.blend. -/
namespace Go.Proofs.YtkkjonkcjlnohaaGreatDoor
set_option linter.unusedSimpArgs false
set_option linter.unusedVariables false
set_option linter.unnecessarySimpa false
open Go.RowKit

def blendS (S : St) (i j q : Int) (x y : Lot) : St :=
  { S with lots := (S.lots.set (i - 1).toNat { x with grams := wrap64 (x.grams - q) }).set (j - 1).toNat { y with grams := wrap64 (y.grams - q) } }
def blendT (S : St) (i j q : Int) (x y : Lot) : St :=
  touchS (touchS (addS (blendS S i j q x y) ⟨bs [98, 108, 101, 110, 100], wrap64 (2 * q), -1, false⟩) ((S.lots.length : Int) + 1) i) ((S.lots.length : Int) + 1) j
def blendF (S : St) (a : FA) : Res :=
  if S.lots.length = 20 then ⟨9, S, bs []⟩
  else if allLots S [a.n.getD 0 0, a.n.getD 1 0] then
    (if a.n.getD 0 0 = a.n.getD 1 0 ∨ a.n.getD 2 0 = 0 then ⟨7, S, bs []⟩
     else match S.lots[(a.n.getD 0 0 - 1).toNat]?, S.lots[(a.n.getD 1 0 - 1).toNat]? with
      | some x, some y => if x.closed || (y.closed || decide (min x.grams y.grams < a.n.getD 2 0)) then ⟨7, S, bs []⟩
          else ⟨0, blendT S (a.n.getD 0 0) (a.n.getD 1 0) (a.n.getD 2 0) x y, bs [98, 108, 101, 110, 100] ++ (bs [32] ++ itoaB ((S.lots.length : Int) + 1))⟩
      | _, _ => ⟨5, S, bs []⟩)
  else ⟨5, S, bs []⟩

theorem touch_step {base b : Nat} {w : World} {V : StV} {S : St} {i j : Int} (hb : V.b = b) (hG : GW base w) (h : OSt base w V S) (hc : S.contacts.length ≤ 1000000000) (hn : S.notes.length ≤ 1000000000) (hi : i64b i) (hj : i64b j) :
    Calls Tryz.prog 408 #[.pointer (some ⟨b, 0, none⟩), .int .i64 i, .int .i64 j] w (TouchedPost base w V S i j) := by
  subst hb
  exact addTouch_any hG h hc hn hi hj
theorem OSt.lotCellX {base : Nat} {w : World} {V : StV} {S : St} (h : OSt base w V S) {g cap : Nat} (hv : V.vl = .slice (some ⟨g, 0, none⟩) S.lots.length cap) {i : Nat} {X : Lot} (hX : S.lots[i]? = some X) :
    (w.cell? ⟨g, i * 4, none⟩ = some (.string X.spice) ∧ w.cell? ⟨g, i * 4 + 1, none⟩ = some (.int .i64 X.grams) ∧ w.cell? ⟨g, i * 4 + 2, none⟩ = some (.int .i64 X.bay) ∧ w.cell? ⟨g, i * 4 + 3, none⟩ = some (.bool X.closed)) ∧ ∀ o, w.frozen? ⟨g, o, none⟩ = false := by
  obtain ⟨hi, rfl⟩ := List.getElem?_eq_some_iff.1 hX
  exact h.lotCell hv hi
theorem OSt.setLotX {base : Nat} {w : World} {V : StV} {S : St} (h : OSt base w V S) {g cap : Nat} (hv : V.vl = .slice (some ⟨g, 0, none⟩) S.lots.length cap) {i : Nat} {X : Lot} (hX : S.lots[i]? = some X) (f : Nat) (hf : f < 4) (x : Lot) (u : Value)
    (hx : Go.Proofs.YtkkjonkcjlnohaaGreatDoor.lotCell x = (Go.Proofs.YtkkjonkcjlnohaaGreatDoor.lotCell X).set f u) :
    OSt base (w.setCell ⟨g, i * 4 + f, none⟩ u) V { S with lots := S.lots.set i x } ∧ Chg base w V V (w.setCell ⟨g, i * 4 + f, none⟩ u) := by
  obtain ⟨hi, rfl⟩ := List.getElem?_eq_some_iff.1 hX
  exact h.setLot hv hi f hf x u hx

set_option maxHeartbeats 2500000 in
set_option maxRecDepth 100000 in
theorem blend_any {base : Nat} {w : World} {V : StV} {S : St} {vn : Value} {a : FA} (hG : GW base w) (h : OSt base w V S) (hl : S.small) (hcs : S.contacts.length ≤ 999999999) (hns : S.notes.length ≤ 999999999) (hl20 : S.lots.length ≤ 20) (ha : Args base w vn a) (hn : a.n.length = 3) (hbx : ∀ x ∈ a.n, i64b x) :
    Calls Tryz.prog 400 #[.pointer (some ⟨V.b, 0, none⟩), .agg #[vn, .string a.word]] w (RunPost base w V (blendF S a)) := by
  obtain ⟨nb, no, nc, rfl, hnc, hC⟩ := args_open h ha (by omega)
  obtain ⟨i, j, q, hx⟩ : ∃ i j q, a.n = [i, j, q] := by
    match a.n, hn with
    | [i, j, q], _ => exact ⟨i, j, q, rfl⟩
  obtain ⟨an, word, aok⟩ := a
  simp only at hx hn hnc hC hbx
  subst hx
  have hib := hbx i (by simp)
  have hjb := hbx j (by simp)
  have hqb := hbx q (by simp)
  change Calls Tryz.prog 400 #[.pointer (some ⟨V.b, 0, none⟩), .agg #[.slice (some ⟨nb, no, none⟩) 3 nc, .string word]] w (RunPost base w V (blendF S ⟨[i, j, q], word, aok⟩))
  obtain ⟨w0, hw0⟩ : ∃ w0, w0 = w.alloc (.cells #[.slice (some ⟨nb, no, none⟩) 3 nc, .string word] 98) := ⟨_, rfl⟩
  obtain ⟨b0, b1, b2⟩ := hC _ (Keep.refl _ _)
  have n0 := b2 0 (by simp)
  have n1 := b2 1 (by simp)
  have n2 := b2 2 (by simp)
  simp only [Nat.add_zero, List.getD_cons_zero, List.getD_cons_succ] at n0 n1 n2
  have b0' : (w.alloc (.cells #[.slice (some ⟨nb, no, none⟩) 3 nc, .string word] 98)).cell? ⟨w.heap.size, 0, none⟩ = some (.slice (some ⟨nb, no, none⟩) 3 nc) := b0
  have n0' : w0.cell? ⟨nb, no, none⟩ = some (.int .i64 i) := by rw [hw0]; exact n0
  have n1' : w0.cell? ⟨nb, no + 1, none⟩ = some (.int .i64 j) := by rw [hw0]; exact n1
  have n2' : w0.cell? ⟨nb, no + 2, none⟩ = some (.int .i64 q) := by rw [hw0]; exact n2
  rw [← hw0] at b0'
  have hnc1 : 3 ≤ nc := hnc
  have hk0 : Keep (fun _ => False) w w0 := by rw [hw0]; exact (Keep.refl _ _).alloc _
  have h0 := h.keep hk0 (fun _ _ h => h)
  obtain ⟨lo, lc, hvl, hlc, _⟩ := ownsRow_shape h.ol
  have c1 := h0.blk.cell 1
  simp [StV.cells] at c1
  rw [hvl] at c1
  have HI := Lib.hid hib; have HJ := Lib.hid hjb; have HQ := Lib.hid hqb; clear hib hjb hqb hbx
  have H0 := Lib.hid h0; clear h0
  have H := Lib.hid h; clear h
  have HL := Lib.hid hl; clear hl
  have HK0 := Lib.hid hk0; clear hk0
  have HW0 := Lib.hid hw0; clear hw0
  clear b0 b1 b2 n0 n1 n2 hC ha hnc hn
  by_cases h20 : S.lots.length = 20
  · have e20 : ((S.lots.length : Int) == 20) = true := by simp; omega
    have HF := Lib.hid (show blendF S ⟨[i, j, q], word, aok⟩ = ⟨9, S, bs []⟩ by unfold blendF; rw [if_pos h20])
    go_enter Tryz.func400, Tryz.ntmps400
    go_wp2
    rw [← HW0.out]
    go_quiet (fail)
    go_wp2
    go_ret2
    exact ⟨by rw [HF.out]; rfl, V, (fun e => by rw [HF.out] at e; cases e), (Chg.refl base w V).after (HK0.out.drewN _)⟩
  have e20 : ((S.lots.length : Int) == 20) = false := by simp; omega
  cases hall : allLots S [i, j] with
  | false =>
    have HF := Lib.hid (show blendF S ⟨[i, j, q], word, aok⟩ = ⟨5, S, bs []⟩ by unfold blendF; rw [if_neg h20]; simp only [List.getD_cons_zero, List.getD_cons_succ]; rw [hall]; rfl)
    go_enter Tryz.func400, Tryz.ntmps400
    go_wp2
    rw [← HW0.out]
    go_quiet (fail)
    have HALL := Lib.hid hall; clear hall
    go_wp2_with (go_at_call 406; have kk := (((Keep.refl (fun _ => False) w0).drewN nq).alloc (.cells #[.int .i64 i, .int .i64 j] 3)); have hh := there_any (l := [i, j]) ((H0.out.keep kk (fun _ _ h => h)).at (Nat.le_trans H0.out.lt kk.size)) HL.out.l (Rd.new (w0.drewN nq) 1 2 (icells [i, j]) 3 rfl (icells_one _) (by unfold maxLen; omega)) (by simp); rw [HALL.out] at hh; refine Calls.mono hh ?_; clear hh; rintro e w1 ⟨rfl, hk1⟩; have HK1 := Lib.hid (kk.trans hk1 (fun _ _ h => h)); clear hk1 kk)
    go_ret2
    exact ⟨by rw [HF.out]; rfl, V, (fun e => by rw [HF.out] at e; cases e), (Chg.refl base w V).after (HK0.out.trans HK1.out (fun _ _ h => h))⟩
  | true =>
    have hij : hasLot S i = true ∧ hasLot S j = true := by unfold allLots at hall; simpa using hall
    obtain ⟨k1, rfl, hk1⟩ := hasLot_at hij.1
    obtain ⟨k2, rfl, hk2⟩ := hasLot_at hij.2
    clear hij
    obtain ⟨g, cap, hv, hglt, hgb, hgne⟩ := H.out.lotRow (by omega)
    obtain ⟨X, hX⟩ : ∃ X, S.lots[k1]? = some X := ⟨_, List.getElem?_eq_getElem hk1⟩
    obtain ⟨Y, hY⟩ : ∃ Y, S.lots[k2]? = some Y := ⟨_, List.getElem?_eq_getElem hk2⟩
    have hg1 : S.lots[((k1 : Int) + 1 - 1).toNat]? = some X := by rw [show ((k1 : Int) + 1 - 1).toNat = k1 by omega]; exact hX
    have hg2 : S.lots[((k2 : Int) + 1 - 1).toNat]? = some Y := by rw [show ((k2 : Int) + 1 - 1).toNat = k2 by omega]; exact hY
    have HLT : Hid (∀ W, Keep (fun _ => False) w0 W → ∀ k, k < S.lots.length → Calls Tryz.prog 407 #[.pointer (some ⟨V.b, 0, none⟩), .int .i64 ((k : Int) + 1)] W fun e w' => e = .returned (.pointer (some ⟨g, k * 4, none⟩)) ∧ W = w') := Lib.hid fun W hk k hkl => by
      have hh := lot_any (i := (k : Int) + 1) ((H0.out.keep hk (fun _ _ h => h)).at (Nat.le_trans H0.out.lt hk.size)) HL.out.l
      unfold LotPost at hh
      rw [show hasLot S ((k : Int) + 1) = true by unfold hasLot; rw [decide_eq_true (by omega), decide_eq_true (by omega)]; rfl, if_pos rfl, lotPtr_at hv] at hh
      exact hh
    have hF0 : blendF S ⟨[(k1 : Int) + 1, (k2 : Int) + 1, q], word, aok⟩ = if (k1 : Int) + 1 = (k2 : Int) + 1 ∨ q = 0 then ⟨7, S, bs []⟩ else
        (if X.closed || (Y.closed || decide (min X.grams Y.grams < q)) then ⟨7, S, bs []⟩ else ⟨0, blendT S ((k1 : Int) + 1) ((k2 : Int) + 1) q X Y, bs [98, 108, 101, 110, 100] ++ (bs [32] ++ itoaB ((S.lots.length : Int) + 1))⟩) := by
      unfold blendF
      rw [if_neg h20]
      simp only [List.getD_cons_zero, List.getD_cons_succ]
      rw [hall, if_pos rfl, hg1, hg2]
    have HALL := Lib.hid hall; clear hall
    have HK1L := Lib.hid hk1
    have HK2L := Lib.hid hk2
    clear hg1 hg2 hvl
    have HX := Lib.hid hX; clear hX
    have HY := Lib.hid hY; clear hY
    by_cases h7 : (k1 : Int) + 1 = (k2 : Int) + 1 ∨ q = 0
    · rw [if_pos h7] at hF0
      have HF := Lib.hid hF0; clear hF0
      by_cases hk : k1 = k2
      · subst hk
        clear h7
        go_enter Tryz.func400, Tryz.ntmps400
        go_wp2
        rw [← HW0.out]
        go_quiet (fail)
        go_wp2_with (first
          | (go_at_call 406; have kk := (((Keep.refl (fun _ => False) w0).drewN nq).alloc (.cells #[.int .i64 ((k1 : Int) + 1), .int .i64 ((k1 : Int) + 1)] 3)); have hh := there_any (l := [((k1 : Int) + 1), ((k1 : Int) + 1)]) ((H0.out.keep kk (fun _ _ h => h)).at (Nat.le_trans H0.out.lt kk.size)) HL.out.l (Rd.new (w0.drewN nq) 1 2 (icells [((k1 : Int) + 1), ((k1 : Int) + 1)]) 3 rfl (icells_one _) (by unfold maxLen; omega)) (by simp); rw [HALL.out] at hh; refine Calls.mono hh ?_; clear hh; rintro e w1 ⟨rfl, hk1⟩; have HK1 := Lib.hid (kk.trans hk1 (fun _ _ h => h)); clear hk1 kk)
          | (go_at_call 407; refine Calls.mono (HLT.out w1 HK1.out _ (by first | exact HK1L.out | exact HK2L.out)) ?_; rintro e w' ⟨rfl, rfl⟩)
          | (go_at_call 407; refine Calls.mono (HLT.out w1 HK1.out _ (by first | exact HK1L.out | exact HK2L.out)) ?_; rintro e w' ⟨rfl, rfl⟩))
        go_ret2
        exact ⟨by rw [HF.out]; rfl, V, (fun e => by rw [HF.out] at e; cases e), (Chg.refl base w V).after (HK0.out.trans HK1.out (fun _ _ h => h))⟩
      · obtain rfl : q = 0 := by omega
        have hne2 : ((k1 : Int) == (k2 : Int)) = false := by simp; omega
        clear h7
        go_enter Tryz.func400, Tryz.ntmps400
        go_wp2
        rw [← HW0.out]
        go_quiet (fail)
        go_wp2_with (first
          | (go_at_call 406; have kk := (((Keep.refl (fun _ => False) w0).drewN nq).alloc (.cells #[.int .i64 ((k1 : Int) + 1), .int .i64 ((k2 : Int) + 1)] 3)); have hh := there_any (l := [((k1 : Int) + 1), ((k2 : Int) + 1)]) ((H0.out.keep kk (fun _ _ h => h)).at (Nat.le_trans H0.out.lt kk.size)) HL.out.l (Rd.new (w0.drewN nq) 1 2 (icells [((k1 : Int) + 1), ((k2 : Int) + 1)]) 3 rfl (icells_one _) (by unfold maxLen; omega)) (by simp); rw [HALL.out] at hh; refine Calls.mono hh ?_; clear hh; rintro e w1 ⟨rfl, hk1⟩; have HK1 := Lib.hid (kk.trans hk1 (fun _ _ h => h)); clear hk1 kk)
          | (go_at_call 407; refine Calls.mono (HLT.out w1 HK1.out _ (by first | exact HK1L.out | exact HK2L.out)) ?_; rintro e w' ⟨rfl, rfl⟩))
        go_ret2
        exact ⟨by rw [HF.out]; rfl, V, (fun e => by rw [HF.out] at e; cases e), (Chg.refl base w V).after (HK0.out.trans HK1.out (fun _ _ h => h))⟩
    · rw [if_neg h7] at hF0
      have hq0 : (q == 0) = false := by simp; omega
      have hne2 : ((k1 : Int) == (k2 : Int)) = false := by simp; omega
      have hkne : k1 ≠ k2 := by omega
      clear h7
      by_cases hcx : X.closed = true
      · have HF := Lib.hid (show blendF S ⟨[(k1 : Int) + 1, (k2 : Int) + 1, q], word, aok⟩ = ⟨7, S, bs []⟩ by rw [hF0, hcx]; rfl)
        have HCX := Lib.hid hcx; clear hcx hF0
        go_enter Tryz.func400, Tryz.ntmps400
        go_wp2
        rw [← HW0.out]
        go_quiet (fail)
        go_wp2_with (first
          | (go_at_call 406; have kk := (((Keep.refl (fun _ => False) w0).drewN nq).alloc (.cells #[.int .i64 ((k1 : Int) + 1), .int .i64 ((k2 : Int) + 1)] 3)); have hh := there_any (l := [((k1 : Int) + 1), ((k2 : Int) + 1)]) ((H0.out.keep kk (fun _ _ h => h)).at (Nat.le_trans H0.out.lt kk.size)) HL.out.l (Rd.new (w0.drewN nq) 1 2 (icells [((k1 : Int) + 1), ((k2 : Int) + 1)]) 3 rfl (icells_one _) (by unfold maxLen; omega)) (by simp); rw [HALL.out] at hh; refine Calls.mono hh ?_; clear hh; rintro e w1 ⟨rfl, hk1⟩; have HK1 := Lib.hid (kk.trans hk1 (fun _ _ h => h)); clear hk1 kk; obtain ⟨⟨_, x1, _, x3⟩, fr⟩ := (H0.out.keep HK1.out (fun _ _ h => h)).lotCellX hv HX.out; obtain ⟨⟨_, y1, _, y3⟩, _⟩ := (H0.out.keep HK1.out (fun _ _ h => h)).lotCellX hv HY.out; rw [HCX.out] at x3)
          | (go_at_call 407; refine Calls.mono (HLT.out w1 HK1.out _ (by first | exact HK1L.out | exact HK2L.out)) ?_; rintro e w' ⟨rfl, rfl⟩))
        go_quiet (fail)
        go_wp2
        go_ret2
        exact ⟨by rw [HF.out]; rfl, V, (fun e => by rw [HF.out] at e; cases e), (Chg.refl base w V).after ((HK0.out.trans HK1.out (fun _ _ h => h)).drewN _)⟩
      have hcx' : X.closed = false := by simpa using hcx
      by_cases hcy : Y.closed = true
      · have HF := Lib.hid (show blendF S ⟨[(k1 : Int) + 1, (k2 : Int) + 1, q], word, aok⟩ = ⟨7, S, bs []⟩ by rw [hF0, hcx', hcy]; rfl)
        have HCX := Lib.hid hcx'; have HCY := Lib.hid hcy; clear hcx hcx' hcy hF0
        go_enter Tryz.func400, Tryz.ntmps400
        go_wp2
        rw [← HW0.out]
        go_quiet (fail)
        go_wp2_with (first
          | (go_at_call 406; have kk := (((Keep.refl (fun _ => False) w0).drewN nq).alloc (.cells #[.int .i64 ((k1 : Int) + 1), .int .i64 ((k2 : Int) + 1)] 3)); have hh := there_any (l := [((k1 : Int) + 1), ((k2 : Int) + 1)]) ((H0.out.keep kk (fun _ _ h => h)).at (Nat.le_trans H0.out.lt kk.size)) HL.out.l (Rd.new (w0.drewN nq) 1 2 (icells [((k1 : Int) + 1), ((k2 : Int) + 1)]) 3 rfl (icells_one _) (by unfold maxLen; omega)) (by simp); rw [HALL.out] at hh; refine Calls.mono hh ?_; clear hh; rintro e w1 ⟨rfl, hk1⟩; have HK1 := Lib.hid (kk.trans hk1 (fun _ _ h => h)); clear hk1 kk; obtain ⟨⟨_, x1, _, x3⟩, fr⟩ := (H0.out.keep HK1.out (fun _ _ h => h)).lotCellX hv HX.out; obtain ⟨⟨_, y1, _, y3⟩, _⟩ := (H0.out.keep HK1.out (fun _ _ h => h)).lotCellX hv HY.out; rw [HCX.out] at x3; rw [HCY.out] at y3)
          | (go_at_call 407; refine Calls.mono (HLT.out w1 HK1.out _ (by first | exact HK1L.out | exact HK2L.out)) ?_; rintro e w' ⟨rfl, rfl⟩))
        go_quiet (fail)
        go_wp2
        go_ret2
        exact ⟨by rw [HF.out]; rfl, V, (fun e => by rw [HF.out] at e; cases e), (Chg.refl base w V).after ((HK0.out.trans HK1.out (fun _ _ h => h)).drewN _)⟩
      have hcy' : Y.closed = false := by simpa using hcy
      by_cases hm : min X.grams Y.grams < q
      · have HF := Lib.hid (show blendF S ⟨[(k1 : Int) + 1, (k2 : Int) + 1, q], word, aok⟩ = ⟨7, S, bs []⟩ by rw [hF0, hcx', hcy', decide_eq_true hm]; rfl)
        have HCX := Lib.hid hcx'; have HCY := Lib.hid hcy'; clear hcx hcx' hcy hcy' hF0
        have hmd : decide (min X.grams Y.grams < q) = true := decide_eq_true hm
        clear hm
        go_enter Tryz.func400, Tryz.ntmps400
        go_wp2
        rw [← HW0.out]
        go_quiet (fail)
        go_wp2_with (first
          | (go_at_call 406; have kk := (((Keep.refl (fun _ => False) w0).drewN nq).alloc (.cells #[.int .i64 ((k1 : Int) + 1), .int .i64 ((k2 : Int) + 1)] 3)); have hh := there_any (l := [((k1 : Int) + 1), ((k2 : Int) + 1)]) ((H0.out.keep kk (fun _ _ h => h)).at (Nat.le_trans H0.out.lt kk.size)) HL.out.l (Rd.new (w0.drewN nq) 1 2 (icells [((k1 : Int) + 1), ((k2 : Int) + 1)]) 3 rfl (icells_one _) (by unfold maxLen; omega)) (by simp); rw [HALL.out] at hh; refine Calls.mono hh ?_; clear hh; rintro e w1 ⟨rfl, hk1⟩; have HK1 := Lib.hid (kk.trans hk1 (fun _ _ h => h)); clear hk1 kk; obtain ⟨⟨_, x1, _, x3⟩, fr⟩ := (H0.out.keep HK1.out (fun _ _ h => h)).lotCellX hv HX.out; obtain ⟨⟨_, y1, _, y3⟩, _⟩ := (H0.out.keep HK1.out (fun _ _ h => h)).lotCellX hv HY.out; rw [HCX.out] at x3; rw [HCY.out] at y3)
          | (go_at_call 407; refine Calls.mono (HLT.out w1 HK1.out _ (by first | exact HK1L.out | exact HK2L.out)) ?_; rintro e w' ⟨rfl, rfl⟩))
        go_quiet (fail)
        go_wp2
        go_ret2
        exact ⟨by rw [HF.out]; rfl, V, (fun e => by rw [HF.out] at e; cases e), (Chg.refl base w V).after ((HK0.out.trans HK1.out (fun _ _ h => h)).drewN _)⟩
      have HF := Lib.hid (show blendF S ⟨[(k1 : Int) + 1, (k2 : Int) + 1, q], word, aok⟩ = ⟨0, blendT S ((k1 : Int) + 1) ((k2 : Int) + 1) q X Y, bs [98, 108, 101, 110, 100] ++ (bs [32] ++ itoaB ((S.lots.length : Int) + 1))⟩ by rw [hF0, hcx', hcy', decide_eq_false hm]; rfl)
      have HCX := Lib.hid hcx'; have HCY := Lib.hid hcy'; clear hcx hcx' hcy hcy' hF0
      have hmd : decide (min X.grams Y.grams < q) = false := decide_eq_false hm
      clear hm
      have hn41 : k1 * 4 + 1 ≠ k2 * 4 + 1 := by omega
      have hn42 : k2 * 4 + 1 ≠ k1 * 4 + 1 := by omega
      have hit : (9223372036854775807 < 5 + (1 + (itoaB ((S.lots.length : Int) + 1)).size)) = False := eq_false (by have := itoaB_size ((S.lots.length : Int) + 1) (by omega) (by omega); omega)
      go_enter Tryz.func400, Tryz.ntmps400
      go_wp2
      rw [← HW0.out]
      go_quiet (fail)
      go_wp2_with (first
        | (go_at_call 406; have kk := (((Keep.refl (fun _ => False) w0).drewN nq).alloc (.cells #[.int .i64 ((k1 : Int) + 1), .int .i64 ((k2 : Int) + 1)] 3)); have hh := there_any (l := [((k1 : Int) + 1), ((k2 : Int) + 1)]) ((H0.out.keep kk (fun _ _ h => h)).at (Nat.le_trans H0.out.lt kk.size)) HL.out.l (Rd.new (w0.drewN nq) 1 2 (icells [((k1 : Int) + 1), ((k2 : Int) + 1)]) 3 rfl (icells_one _) (by unfold maxLen; omega)) (by simp); rw [HALL.out] at hh; refine Calls.mono hh ?_; clear hh; rintro e w1 ⟨rfl, hk1⟩; have HK1 := Lib.hid (kk.trans hk1 (fun _ _ h => h)); clear hk1 kk; obtain ⟨⟨_, x1, _, x3⟩, fr⟩ := (H0.out.keep HK1.out (fun _ _ h => h)).lotCellX hv HX.out; obtain ⟨⟨_, y1, _, y3⟩, _⟩ := (H0.out.keep HK1.out (fun _ _ h => h)).lotCellX hv HY.out; rw [HCX.out] at x3; rw [HCY.out] at y3; have fx1 := fr (k1 * 4 + 1); have fy1 := fr (k2 * 4 + 1))
        | (go_at_call 407; refine Calls.mono (HLT.out w1 HK1.out _ (by first | exact HK1L.out | exact HK2L.out)) ?_; rintro e w' ⟨rfl, rfl⟩))
      go_quiet (fail)
      have hlenB : (blendS S ((k1 : Int) + 1) ((k2 : Int) + 1) q X Y).lots.length = S.lots.length := by simp [blendS]
      have hlenC : (addS (blendS S ((k1 : Int) + 1) ((k2 : Int) + 1) q X Y) ⟨⟨#[98, 108, 101, 110, 100]⟩, wrap64 (2 * q), -1, false⟩).lots.length = S.lots.length + 1 := by simp [addS, blendS]
      have hlenD : (touchS (addS (blendS S ((k1 : Int) + 1) ((k2 : Int) + 1) q X Y) ⟨⟨#[98, 108, 101, 110, 100]⟩, wrap64 (2 * q), -1, false⟩) ((S.lots.length : Int) + 1) ((k1 : Int) + 1)).lots.length = S.lots.length + 1 := by simp [touchS, addS, blendS]
      go_wp2_with (first
        | (go_at_call 405; have h2 := (H0.out.keep HK1.out (fun _ _ h => h)).keep ((Keep.refl (fun _ => False) w1).drewN nq) (fun _ _ h => h); obtain ⟨h3, hc3⟩ := h2.setLotX hv HX.out 1 (by omega) { X with grams := wrap64 (X.grams - q) } (.int .i64 (wrap64 (X.grams - q))) rfl; obtain ⟨h4, hc4⟩ := h3.setLotX (g := g) (cap := cap) (by simpa using hv) (i := k2) (X := Y) (by rw [List.getElem?_set_ne hkne]; exact HY.out) 1 (by omega) { Y with grams := wrap64 (Y.grams - q) } (.int .i64 (wrap64 (Y.grams - q))) rfl; have h4' : OSt base (((w1.drewN nq).setCell ⟨g, k1 * 4 + 1, none⟩ (.int .i64 (wrap64 (X.grams - q)))).setCell ⟨g, k2 * 4 + 1, none⟩ (.int .i64 (wrap64 (Y.grams - q)))) V (blendS S ((k1 : Int) + 1) ((k2 : Int) + 1) q X Y) := (by unfold blendS; rw [show ((k1 : Int) + 1 - 1).toNat = k1 by omega, show ((k2 : Int) + 1 - 1).toNat = k2 by omega]; exact h4); have hcw := (hc3.trans hc4).before ((HK0.out.trans HK1.out (fun _ _ h => h)).drewN nq); have hh := add_any (x := ⟨⟨#[98, 108, 101, 110, 100]⟩, wrap64 (2 * q), -1, false⟩) (hG.keep hcw.keep (fun i hi e => by have := e.1; omega)) h4' (by rw [hlenB]; omega); refine Calls.mono hh ?_; clear hh; rintro e w5 ⟨V5, rfl, ho5, hc5⟩; rw [hlenB]; have hc05 := hcw.trans hc5; obtain ⟨l5, q5, hv5, _⟩ := ownsRow_shape ho5.ol; have c5 := ho5.blk.cell 1; simp [StV.cells] at c5; rw [hv5, hlenC, hc5.b] at c5; have HTO : Hid (∀ jj, (jj = ((k1 : Int) + 1) ∨ jj = ((k2 : Int) + 1)) → Calls Tryz.prog 408 #[.pointer (some ⟨V.b, 0, none⟩), .int .i64 ((S.lots.length : Int) + 1), .int .i64 jj] w5 (TouchedPost base w5 V5 (addS (blendS S ((k1 : Int) + 1) ((k2 : Int) + 1) q X Y) ⟨⟨#[98, 108, 101, 110, 100]⟩, wrap64 (2 * q), -1, false⟩) ((S.lots.length : Int) + 1) jj)) := Lib.hid (fun jj hjj => touch_step hc5.b (hG.keep hc05.keep (fun i hi e => by have := e.1; omega)) ho5 (by simp [addS, blendS]; omega) (by simp [addS, blendS]; omega) (by unfold i64b; omega) (by rcases hjj with rfl | rfl; exact HI.out; exact HJ.out)); have HNEXT : Hid True := Lib.hid trivial; have HC5 := Lib.hid hc05; have HO5 := Lib.hid ho5; clear h2 h3 h4 hc3 hc4 h4' hcw hc5 ho5 hv5 hc05)
        | (go_at_call 408; have hno5 := HNEXT.out; clear HNEXT; refine Calls.mono (HTO.out _ (by simp)) ?_; rintro e w6 ⟨V6, rfl, ho6, hc6⟩; have hb6 : V6.b = V.b := hc6.b.trans HC5.out.b; have hc06 := HC5.out.trans hc6; obtain ⟨l6, q6, hv6, _⟩ := ownsRow_shape ho6.ol; have c6 := ho6.blk.cell 1; simp [StV.cells] at c6; rw [hv6, hb6, hlenD] at c6; have HTP : Hid (∀ jj, (jj = ((k1 : Int) + 1) ∨ jj = ((k2 : Int) + 1)) → Calls Tryz.prog 408 #[.pointer (some ⟨V.b, 0, none⟩), .int .i64 ((S.lots.length : Int) + 1), .int .i64 jj] w6 (TouchedPost base w6 V6 (touchS (addS (blendS S ((k1 : Int) + 1) ((k2 : Int) + 1) q X Y) ⟨⟨#[98, 108, 101, 110, 100]⟩, wrap64 (2 * q), -1, false⟩) ((S.lots.length : Int) + 1) ((k1 : Int) + 1)) ((S.lots.length : Int) + 1) jj)) := Lib.hid (fun jj hjj => touch_step hb6 (hG.keep hc06.keep (fun i hi e => by have := e.1; omega)) ho6 (by simp [touchS, addS, blendS]; omega) (by simp [touchS, addS, blendS]; omega) (by unfold i64b; omega) (by rcases hjj with rfl | rfl; exact HI.out; exact HJ.out)); have HC6 := Lib.hid hc06; have HO6 := Lib.hid ho6; clear hc6 ho6 hv6 hc06 hno5)
        | (go_at_call 408; refine Calls.mono (HTP.out _ (by simp)) ?_; rintro e w7 ⟨V7, rfl, ho7, hc7⟩; have HC7 := Lib.hid (HC6.out.trans hc7); have HO7 := Lib.hid ho7; clear ho7 hc7))
      go_ret2
      exact ⟨by rw [HF.out]; rfl, V7, fun _ => by rw [HF.out]; exact HO7.out, HC7.out⟩
end Go.Proofs.YtkkjonkcjlnohaaGreatDoor

/- house.state.do: a line is read as a change, a copy of the state is made, and the command runs on it. -/
namespace Go.Proofs.YtkkjonkcjlnohaaGreatDoor
set_option linter.unusedSimpArgs false
set_option linter.unusedVariables false
set_option linter.unnecessarySimpa false
open Go.RowKit

def doF (F : Nat → St → FA → Res) (S : St) (line : ByteArray) : Res :=
  match formF line with
  | none => ⟨4, S, bs []⟩
  | some (_, f, a) => if a.ok then (if (F f S a).err = 0 then F f S a else ⟨(F f S a).err, S, bs []⟩) else ⟨4, S, bs []⟩
def DoPost (w : World) (V : StV) (r : Res) (e : Ending) (w' : World) : Prop :=
  ∃ V', e = .returned (.tuple #[.pointer (some ⟨V'.b, 0, none⟩), .string r.out, .int .i64 r.err]) ∧ StAt w' V' r.st ∧ V'.vb = V.vb ∧ (r.err ≠ 0 → V' = V) ∧
    (∀ k, V'.fp k → V.fp k ∨ w.heap.size ≤ k) ∧ Keep (fun _ => False) w w'
/-- What a command must do. -/
def RunOK (F : Nat → St → FA → Res) (S : St) (line : ByteArray) : Prop :=
  ∀ so f a, formF line = some (so, f, a) → a.ok = true → Enters f ∧ ∀ base w V vn, GW base w → OSt base w V S → Args base w vn a →
    Calls Tryz.prog f #[.pointer (some ⟨V.b, 0, none⟩), .agg #[vn, .string a.word]] w (RunPost base w V (F f S a))

set_option maxHeartbeats 4000000 in
set_option maxRecDepth 100000 in
theorem do_any {w : World} {V : StV} {S : St} {line : ByteArray} {F : Nat → St → FA → Res} (hG : Glob w) (h : StAt w V S) (hs : S.small) (hl : line.size ≤ 9223372036854775807) (hrun : RunOK F S line) :
    Calls Tryz.prog 22 #[.pointer (some ⟨V.b, 0, none⟩), .string line] w (DoPost w V (doF F S line)) := by
  have hform := form_any hG hl
  cases hf : formF line with
  | none =>
    have HR := Lib.hid (show doF F S line = ⟨4, S, bs []⟩ by unfold doF; rw [hf])
    unfold FormPost at hform
    rw [hf] at hform
    have HFM := Lib.hid hform; clear hform
    have H := Lib.hid h; clear h
    clear hrun hf
    go_enter Tryz.func22, Tryz.ntmps22
    go_wp2_with (go_at_call 40; refine HFM.out.mono ?_; rintro e w1 ⟨rfl, hk1⟩; have HK1 := Lib.hid hk1; clear hk1)
    go_ret3
    have hk := HK1.out
    refine ⟨V, by rw [HR.out]; rfl, ?_, rfl, fun _ => rfl, fun _ e => .inl e, (HK1.out.alloc _).alloc _⟩
    rw [HR.out]
    exact H.out.keep ((HK1.out.alloc _).alloc _) (fun _ _ h => h)
  | some x =>
    obtain ⟨so, f, a⟩ := x
    unfold FormPost at hform
    rw [hf] at hform
    dsimp only at hform
    cases hok : a.ok with
    | false =>
      have HR := Lib.hid (show doF F S line = ⟨4, S, bs []⟩ by unfold doF; rw [hf]; simp only []; rw [hok]; rfl)
      rw [hok] at hform
      have HFM := Lib.hid hform; clear hform
      have H := Lib.hid h; clear h
      clear hrun hf hok
      go_enter Tryz.func22, Tryz.ntmps22
      go_wp2_with (go_at_call 40; refine HFM.out.mono ?_; rintro e w1 ⟨vn, rfl, ho1, hk1⟩; obtain ⟨ao, cap, rfl, _⟩ := ownsRow_shape ho1; have HO1 := Lib.hid ho1; clear ho1; have HK1 := Lib.hid hk1; clear hk1)
      go_ret3
      refine ⟨V, by rw [HR.out]; rfl, ?_, rfl, fun _ => rfl, fun _ e => .inl e, (HK1.out.alloc _).alloc _⟩
      rw [HR.out]
      exact H.out.keep ((HK1.out.alloc _).alloc _) (fun _ _ h => h)
    | true =>
      have HR := Lib.hid (show doF F S line = if (F f S a).err = 0 then F f S a else ⟨(F f S a).err, S, bs []⟩ by unfold doF; rw [hf]; simp only []; rw [hok, if_pos rfl])
      obtain ⟨hent, hcall⟩ := hrun so f a hf hok
      have eF : ∀ (args : Array Value) (w : World), (callFunc f args).run Tryz.prog w = .ok (.enter f args) w := hent
      clear hent hrun hf
      rw [hok] at hform
      clear hok
      have HFM := Lib.hid hform; clear hform
      have HC := Lib.hid hcall; clear hcall
      have H := Lib.hid h; clear h
      have HS := Lib.hid hs; clear hs
      obtain ⟨R, hR⟩ : ∃ R, F f S a = R := ⟨_, rfl⟩
      rw [hR] at HR HC
      clear hR
      obtain ⟨re, rs, ro⟩ := R
      by_cases hz : re = 0
      · subst hz
        rw [if_pos rfl] at HR
        go_enter Tryz.func22, Tryz.ntmps22
        go_wp2_with (first
          | (go_at_call 40; refine HFM.out.mono ?_; rintro e w1 ⟨vn, rfl, ho1, hk1⟩; obtain ⟨ao, cap, rfl, _⟩ := ownsRow_shape ho1; have HO1 := Lib.hid ho1; clear ho1; have HK1 := Lib.hid hk1; clear hk1)
          | (go_at_call 41; refine Calls.mono (stClone_any (H.out.keep ((HK1.out.alloc _).alloc _) (fun _ _ h => h)) HS.out) ?_; rintro e w3 ⟨V1, rfl, ho3, hvb3, hk3⟩; have hb1 := ((Blk.new w1 #[.string (bs so), .func (.func f) #[] #[]] 96).alloc (.cells #[.slice ao a.n.length cap, .string a.word] 98)).keep hk3 (fun h => h); have hb2 := (Blk.new (w1.alloc (.cells #[.string (bs so), .func (.func f) #[] #[]] 96)) #[.slice ao a.n.length cap, .string a.word] 98).keep hk3 (fun h => h); rw [World.size_alloc] at hb2; have c0 := hb1.cell 0; have c1 := hb1.cell 1; have d0 := hb2.cell 0; have d1 := hb2.cell 1; simp at c0 c1 d0 d1; have HO3 := Lib.hid ho3; clear ho3; have HK3 := Lib.hid hk3; clear hk3 hb1 hb2)
          | (refine Calls.mono (HC.out _ w3 V1 (.slice ao a.n.length cap) ((GW.start (hG.keep ((HK1.out.alloc _).alloc _))).keep HK3.out (fun _ _ h => h)) HO3.out ⟨(ownsRow_rd (((ownsRow_keep HO1.out ((Keep.refl (fun _ => False) w1).alloc _) (fun _ _ h => h)) |> fun h => ownsRow_keep h ((Keep.refl (fun _ => False) _).alloc _) (fun _ _ h => h)) |> fun h => ownsRow_keep h HK3.out (fun _ _ h => h)) (icells_one _)), fun k e => by have := ownsRow_lt HO1.out k e; simp; omega⟩) ?_; rintro e w4 ⟨rfl, V2, ho4, hc4⟩; have HO4 := Lib.hid (ho4 rfl); clear ho4; have HC4 := Lib.hid hc4; clear hc4))
        go_ret3
        have hz1 := HK1.out.size
        have hz3 := HK3.out.size
        simp only [World.size_alloc] at hz3
        have hkA : Keep (fun _ => False) w w3 := ((HK1.out.alloc _).alloc _).trans HK3.out (fun _ _ h => h)
        refine ⟨V2, by rw [HR.out, HC4.out.b]; rfl, ?_, HC4.out.vb.trans hvb3, fun e => ?_, fun k hk => ?_, ?_⟩
        · rw [HR.out]
          exact HO4.out.at HO4.out.lt
        · rw [HR.out] at e
          exact absurd rfl e
        · rcases HC4.out.fp k hk with e | e
          · rcases HO3.out.fp_new k e with e | e
            · exact .inl (.inr (.inl (hvb3 ▸ e)))
            · simp only [World.size_alloc] at e
              exact .inr (by omega)
          · exact .inr (by omega)
        · exact hkA.trans HC4.out.keep (fun k hk e => by have := e.1; simp only [World.size_alloc] at this; omega)
      · rw [if_neg hz] at HR
        have ez : (re != 0) = true := by simpa using hz
        go_enter Tryz.func22, Tryz.ntmps22
        go_wp2_with (first
          | (go_at_call 40; refine HFM.out.mono ?_; rintro e w1 ⟨vn, rfl, ho1, hk1⟩; obtain ⟨ao, cap, rfl, _⟩ := ownsRow_shape ho1; have HO1 := Lib.hid ho1; clear ho1; have HK1 := Lib.hid hk1; clear hk1)
          | (go_at_call 41; refine Calls.mono (stClone_any (H.out.keep ((HK1.out.alloc _).alloc _) (fun _ _ h => h)) HS.out) ?_; rintro e w3 ⟨V1, rfl, ho3, hvb3, hk3⟩; have hb1 := ((Blk.new w1 #[.string (bs so), .func (.func f) #[] #[]] 96).alloc (.cells #[.slice ao a.n.length cap, .string a.word] 98)).keep hk3 (fun h => h); have hb2 := (Blk.new (w1.alloc (.cells #[.string (bs so), .func (.func f) #[] #[]] 96)) #[.slice ao a.n.length cap, .string a.word] 98).keep hk3 (fun h => h); rw [World.size_alloc] at hb2; have c0 := hb1.cell 0; have c1 := hb1.cell 1; have d0 := hb2.cell 0; have d1 := hb2.cell 1; simp at c0 c1 d0 d1; have HO3 := Lib.hid ho3; clear ho3; have HK3 := Lib.hid hk3; clear hk3 hb1 hb2)
          | (refine Calls.mono (HC.out _ w3 V1 (.slice ao a.n.length cap) ((GW.start (hG.keep ((HK1.out.alloc _).alloc _))).keep HK3.out (fun _ _ h => h)) HO3.out ⟨(ownsRow_rd (((ownsRow_keep HO1.out ((Keep.refl (fun _ => False) w1).alloc _) (fun _ _ h => h)) |> fun h => ownsRow_keep h ((Keep.refl (fun _ => False) _).alloc _) (fun _ _ h => h)) |> fun h => ownsRow_keep h HK3.out (fun _ _ h => h)) (icells_one _)), fun k e => by have := ownsRow_lt HO1.out k e; simp; omega⟩) ?_; rintro e w4 ⟨rfl, V2, ho4, hc4⟩; clear ho4; have HC4 := Lib.hid hc4; clear hc4))
        go_ret3
        have hz1 := HK1.out.size
        have hz3 := HK3.out.size
        simp only [World.size_alloc] at hz3
        have hkA : Keep (fun _ => False) w w3 := ((HK1.out.alloc _).alloc _).trans HK3.out (fun _ _ h => h)
        have hkB : Keep (fun _ => False) w w4 := hkA.trans HC4.out.keep (fun k hk e => by have := e.1; simp only [World.size_alloc] at this; omega)
        refine ⟨V, by rw [HR.out]; rfl, ?_, rfl, fun _ => rfl, fun _ e => .inl e, hkB⟩
        rw [HR.out]
        exact H.out.keep hkB (fun _ _ h => h)
end Go.Proofs.YtkkjonkcjlnohaaGreatDoor
