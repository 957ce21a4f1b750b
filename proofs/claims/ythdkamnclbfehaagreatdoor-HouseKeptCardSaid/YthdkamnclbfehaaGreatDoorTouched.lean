/- house.state.touched: a contact and its line are added. -/
import Derived.Test.YthdkamnclbfehaaGreatDoorLot
namespace Go.Proofs.YthdkamnclbfehaaGreatDoor
set_option linter.unusedSimpArgs false
set_option linter.unusedVariables false
set_option linter.unnecessarySimpa false
open Go.RowKit

set_option maxHeartbeats 4000000 in
set_option maxRecDepth 100000 in
theorem addTouch_any {base : Nat} {w : World} {V : StV} {S : St} {i j : Int} (hG : GW base w) (h : OSt base w V S) (hc : S.contacts.length ≤ 1000000000) (hn : S.notes.length ≤ 1000000000)
    (hi : -9223372036854775808 ≤ i ∧ i ≤ 9223372036854775807) (hj : -9223372036854775808 ≤ j ∧ j ≤ 9223372036854775807) :
    Calls Tryz.prog 264 #[.pointer (some ⟨V.b, 0, none⟩), .int .i64 i, .int .i64 j] w (TouchedPost base w V S i j) := by
  obtain ⟨b, vb, vl, vc, vt, vn⟩ := V
  obtain ⟨co, cc, hvc, hcc, _⟩ := ownsRow_shape h.oc
  simp only at hvc
  subst hvc
  obtain ⟨no, nc, hvn, hnc, _⟩ := ownsRow_shape h.on
  simp only at hvn
  subst hvn
  have c2 := h.blk.cell 2
  have f2 := h.blk.free 2
  simp [StV.cells] at c2 f2
  have si := itoaB_size i hi.1 hi.2
  have sj := itoaB_size j hj.1 hj.2
  have st1 : (9223372036854775807 < 6 + (itoaB i).size) = False := eq_false (by omega)
  have st2 : (9223372036854775807 < 6 + (itoaB i).size + 1) = False := eq_false (by omega)
  have st3 : (9223372036854775807 < 6 + (itoaB i).size + 1 + (itoaB j).size) = False := eq_false (by omega)
  have HI := Lib.hid hi; clear hi
  have HJ := Lib.hid hj; clear hj
  have H := Lib.hid h; clear h
  have HSC := Lib.hid (Rd.new w 2 1 (pairCell (i, j)) 176 rfl (by simp [pairCell, Value.oneCell']) (by unfold maxLen; omega))
  have HK1 := Lib.hid ((Keep.refl (fun _ => False) w).alloc (.cells #[.int .i64 i, .int .i64 j] 176))
  have HO1 := Lib.hid (ownsRow_keep H.out.oc HK1.out (fun _ _ h => h))
  go_enter Tryz.func264, Tryz.ntmps264
  go_wp2_with (first
    | (at_builtin; refine wpList_app (w := w.alloc (.cells #[.int .i64 i, .int .i64 j] 176)) rfl (.tmp 10) (.tmp 14) 71 71 rfl 176 zPair 2 16 Tryz.underlying71 info176 rfl HO1.out rfl (HSC.out.src Tryz.underlying71) rfl ?hb1 ?hb2 ?hb3 ?hgo))
  case hb1 => unfold maxLen; omega
  case hb2 => omega
  case hb3 => have := H.out.lt; omega
  case hgo =>
  intro v2 w2 happ
  obtain ⟨co2, cc2, rfl, _⟩ := ownsRow_shape happ.own
  have h1 := H.out.keep HK1.out (fun _ _ h => h)
  have h3 := h1.setContacts (w1 := w2) (v' := .slice co2 (S.contacts.length + 1) cc2) (ls := S.contacts ++ [(i, j)]) happ.keep (by have := happ.own; simpa [pairCells, pairCell] using this) happ.fresh
  have hb2 := h1.blk.keep happ.keep h1.cne
  have c2 := hb2.cell 2
  have f2 := hb2.free 2
  simp [StV.cells] at c2 f2
  have hch : Chg base w ⟨b, vb, vl, .slice co S.contacts.length cc, vt, .slice no S.notes.length nc⟩ ⟨b, vb, vl, .slice co2 (S.contacts.length + 1) cc2, vt, .slice no S.notes.length nc⟩ (w2.setCell ⟨b, 2, none⟩ (.slice co2 (S.contacts.length + 1) cc2)) := by
    refine ⟨rfl, rfl, fun k hk => ?_, ((HK1.out.mono (fun _ _ h => h.elim)).trans (happ.keep.mono (T := fun k => base ≤ k ∧ StV.fp ⟨b, vb, vl, .slice co S.contacts.length cc, vt, .slice no S.notes.length nc⟩ k) (fun k _ e => ⟨H.out.fp_ge.2.1 k e, .inr (.inr (.inr (.inl e)))⟩)) (fun _ _ h => h)).setCell _ _ (fun _ => ⟨H.out.ge, .inl rfl⟩)⟩
    rcases hk with e | e | e | e | e | e
    · exact .inl (.inl e)
    · exact .inl (.inr (.inl e))
    · exact .inl (.inr (.inr (.inl e)))
    · rcases happ.fresh with h1 | ⟨g, h1, h2⟩
      · exact .inl (.inr (.inr (.inr (.inl (h1.symm.trans e)))))
      · have h3 : g = k := Option.some.inj (h1.symm.trans e)
        have h4 := HK1.out.size
        exact .inr (by omega)
    · exact .inl (.inr (.inr (.inr (.inr (.inl e)))))
    · exact .inl (.inr (.inr (.inr (.inr (.inr e)))))
  have H3 := Lib.hid h3; clear h1 h3 hb2
  have HCH := Lib.hid hch; clear hch happ
  go_wp2
  obtain ⟨w4, hw4⟩ : ∃ w4, w4 = w2.setCell ⟨b, 2, none⟩ (.slice co2 (S.contacts.length + 1) cc2) := ⟨_, rfl⟩
  have H4 := H3
  have HC4 := HCH
  rw [← hw4] at H4 HC4
  rw [← hw4]
  clear H3 HCH hw4 c2 f2
  have d4 := H4.out.blk.cell 4
  simp [StV.cells] at d4
  have HG4 := Lib.hid (hG.keep HC4.out.keep (fun i hi e => by have := e.1; omega))
  have HIT : Hid (∀ W n, Keep (fun _ => False) w4 W → (n = i ∨ n = j) → Calls Tryz.prog 96 #[.int .i64 n] W (ItoaPost W n)) := Lib.hid fun W n hk hn =>
    itoa_any (HG4.out.glob.keep hk) (by rcases hn with rfl | rfl; exact HI.out.1; exact HJ.out.1) (by rcases hn with rfl | rfl; exact HI.out.2; exact HJ.out.2)
  have HKR : Hid (Keep (fun _ => False) w4 w4.drew) := Lib.hid (Keep.refl _ _).drew
  refine wp_region_noPanic ?_
  refine wp_region_held_drew (S := fun _ => True) (by kernel_rfl) trivial (fun hHeld => ?_)
  refine wpAnyH_take (i := 0) (oi := _) (v := ?_) rfl (by kernel_rfl) (by kernel_rfl) (by kernel_rfl) (fun _ _ _ h => h) (Or.inl ⟨by rfl, ?_⟩) (by assumption) ?_
  rotate_left
  · (intro w hSw; (try dsimp only at hSw); go_simp) <;> with_reducible rfl
  (try simp only [List.getElem_toArray, List.getElem_cons_zero, List.getElem_cons_succ, Act.put, List.setIfInBounds_toArray, List.set_cons_zero, List.set_cons_succ])
  refine wpAnyH_take (i := 1) (oi := _) (v := ?_) rfl (by kernel_rfl) (by kernel_rfl) (by kernel_rfl) (fun _ _ _ h => h) (Or.inl ⟨by rfl, ?_⟩) (by assumption) ?_
  rotate_left
  · (intro w hSw; (try dsimp only at hSw); go_simp) <;> with_reducible rfl
  (try simp only [List.getElem_toArray, List.getElem_cons_zero, List.getElem_cons_succ, Act.put, List.setIfInBounds_toArray, List.set_cons_zero, List.set_cons_succ])
  refine wpAnyH_take (i := 2) (oi := _) (v := ?_) rfl (by kernel_rfl) (by kernel_rfl) (by kernel_rfl) (fun _ _ _ h => h) (Or.inl ⟨by rfl, ?_⟩) (by assumption) ?_
  rotate_left
  · (intro w hSw; (try dsimp only at hSw); go_simp) <;> with_reducible rfl
  (try simp only [List.getElem_toArray, List.getElem_cons_zero, List.getElem_cons_succ, Act.put, List.setIfInBounds_toArray, List.set_cons_zero, List.set_cons_succ])
  refine wpAnyH_take (i := 3) (oi := _) (v := ?_) rfl (by kernel_rfl) (by kernel_rfl) (by kernel_rfl) (fun _ _ _ h => h) (Or.inl ⟨by rfl, ?_⟩) (by assumption) ?_
  rotate_left
  · (intro w hSw; (try dsimp only at hSw); go_simp) <;> with_reducible rfl
  (try simp only [List.getElem_toArray, List.getElem_cons_zero, List.getElem_cons_succ, Act.put, List.setIfInBounds_toArray, List.set_cons_zero, List.set_cons_succ])
  refine wpAnyH_take (i := 5) (oi := _) (v := ?_) rfl (by kernel_rfl) (by kernel_rfl) (by kernel_rfl) (fun _ _ _ h => h) (Or.inl ⟨by rfl, ?_⟩) (by assumption) ?_
  rotate_left
  · (intro w hSw; (try dsimp only at hSw); go_simp) <;> with_reducible rfl
  (try simp only [List.getElem_toArray, List.getElem_cons_zero, List.getElem_cons_succ, Act.put, List.setIfInBounds_toArray, List.set_cons_zero, List.set_cons_succ])
  refine wpAnyH_take (i := 9) (oi := _) (v := ?_) rfl (by kernel_rfl) (by kernel_rfl) (by kernel_rfl) (fun _ _ _ h => h) (Or.inl ⟨by rfl, ?_⟩) (by assumption) ?_
  rotate_left
  · (intro w hSw; (try dsimp only at hSw); go_simp) <;> with_reducible rfl
  (try simp only [List.getElem_toArray, List.getElem_cons_zero, List.getElem_cons_succ, Act.put, List.setIfInBounds_toArray, List.set_cons_zero, List.set_cons_succ])
  refine wpAnyH_ready (rs := [4, 6]) (by kernel_rfl) (by simp) ?_
  refine AllReadyH.cons (o := _) rfl (fun K hK => ?_) (AllReadyH.cons (o := _) rfl (fun K hK => ?_) AllReadyH.nil)
  · go_simp
    refine hK.out _ _ ?_ (fun hHeld => ?_)
    · exact trivial
    clear hK K
    (try simp only [List.getElem_toArray, List.getElem_cons_zero, List.getElem_cons_succ, Act.put, List.setIfInBounds_toArray, List.set_cons_zero, List.set_cons_succ])
    refine wpAnyH_ready (rs := [6]) (by kernel_rfl) (by simp) ?_
    refine AllReadyH.cons (o := _) rfl (fun K hK => ?_) AllReadyH.nil
    go_simp
    refine Calls.mono (HIT.out _ _ HKR.out (by first | exact .inl rfl | exact .inr rfl)) ?_
    rintro e Wc ⟨rfl, hkc⟩
    have HKR := Lib.hid (HKR.out.trans hkc (fun _ _ h => h))
    have d4 := (H4.out.keep HKR.out (fun _ _ h => h)).blk.cell 4
    simp [StV.cells] at d4
    have hlt4 : b < Wc.heap.size := (H4.out.keep HKR.out (fun _ _ h => h)).blk.lt
    clear hkc
    (try dsimp only)
    refine hK.out _ _ ?_ (fun hHeld => ?_)
    · exact trivial
    clear hK K
    (try simp only [List.getElem_toArray, List.getElem_cons_zero, List.getElem_cons_succ, Act.put, List.setIfInBounds_toArray, List.set_cons_zero, List.set_cons_succ])
    refine wpAnyH_take (i := 7) (oi := _) (v := ?_) rfl (by kernel_rfl) (by kernel_rfl) (by kernel_rfl) (fun _ _ _ h => h) (Or.inl ⟨by rfl, ?_⟩) (by assumption) ?_
    rotate_left
    · (intro w hSw; (try dsimp only at hSw); go_simp) <;> with_reducible rfl
    (try simp only [List.getElem_toArray, List.getElem_cons_zero, List.getElem_cons_succ, Act.put, List.setIfInBounds_toArray, List.set_cons_zero, List.set_cons_succ])
    refine wpAnyH_take (i := 8) (oi := _) (v := ?_) rfl (by kernel_rfl) (by kernel_rfl) (by kernel_rfl) (fun _ _ _ h => h) (Or.inl ⟨by rfl, ?_⟩) (by assumption) ?_
    rotate_left
    · (intro w hSw; (try dsimp only at hSw); go_simp) <;> with_reducible rfl
    (try simp only [List.getElem_toArray, List.getElem_cons_zero, List.getElem_cons_succ, Act.put, List.setIfInBounds_toArray, List.set_cons_zero, List.set_cons_succ])
    refine wpAnyH_ready (rs := [10]) (by kernel_rfl) (by simp) ?_
    refine AllReadyH.cons (o := _) rfl (fun K hK => ?_) AllReadyH.nil
    go_simp
    refine Calls.mono (HIT.out _ _ HKR.out (by first | exact .inl rfl | exact .inr rfl)) ?_
    rintro e Wc ⟨rfl, hkc⟩
    have HKR := Lib.hid (HKR.out.trans hkc (fun _ _ h => h))
    have d4 := (H4.out.keep HKR.out (fun _ _ h => h)).blk.cell 4
    simp [StV.cells] at d4
    have hlt4 : b < Wc.heap.size := (H4.out.keep HKR.out (fun _ _ h => h)).blk.lt
    clear hkc
    (try dsimp only)
    refine hK.out _ _ ?_ (fun hHeld => ?_)
    · exact trivial
    clear hK K
    (try simp only [List.getElem_toArray, List.getElem_cons_zero, List.getElem_cons_succ, Act.put, List.setIfInBounds_toArray, List.set_cons_zero, List.set_cons_succ])
    refine wpAnyH_take (i := 11) (oi := _) (v := ?_) rfl (by kernel_rfl) (by kernel_rfl) (by kernel_rfl) (fun _ _ _ h => h) (Or.inl ⟨by rfl, ?_⟩) (by assumption) ?_
    rotate_left
    · (intro w hSw; (try dsimp only at hSw); go_simp) <;> with_reducible rfl
    (try simp only [List.getElem_toArray, List.getElem_cons_zero, List.getElem_cons_succ, Act.put, List.setIfInBounds_toArray, List.set_cons_zero, List.set_cons_succ])
    refine wpAnyH_ready (rs := [12]) (by kernel_rfl) (by simp) ?_
    refine AllReadyH.cons (o := _) rfl (fun K hK => ?_) AllReadyH.nil
    go_simp
    refine hK.out _ _ ?_ (fun hHeld => ?_)
    · exact trivial
    clear hK K
    (try simp only [List.getElem_toArray, List.getElem_cons_zero, List.getElem_cons_succ, Act.put, List.setIfInBounds_toArray, List.set_cons_zero, List.set_cons_succ])
    refine wpAnyH_ready (rs := [13]) (by kernel_rfl) (by simp) ?_
    refine AllReadyH.cons (o := _) rfl (fun K hK => ?_) AllReadyH.nil
    rw [if_pos (by rfl)]
    have ho6 : (Wc.alloc (.cells #[.string (touchNote i j)] 9)).ownsRow base 9 1 (.slice no S.notes.length nc) S.notes.length (strCells S.notes) := ownsRow_keep (H4.out.on) (HKR.out.alloc (.cells #[.string (touchNote i j)] 9)) (fun _ _ h => h)
    refine oper_app (.tmp 22) (.tmp 30) 44 44 rfl 9 (.string ⟨#[]⟩) 1 16 Tryz.underlying44 info9 rfl ho6 rfl ((Rd.new Wc 1 1 [.string (touchNote i j)] 9 rfl (by simp [Value.oneCell']) (by unfold maxLen; omega)).src Tryz.underlying44) rfl (by unfold maxLen; omega) (by omega) (Nat.le_trans H4.out.lt (HKR.out.alloc (.cells #[.string (touchNote i j)] 9)).size) (fun v' w7 happ => ?_)
    obtain ⟨ao7, cap7, rfl, _⟩ := ownsRow_shape happ.own
    have h6 := H4.out.keep (HKR.out.alloc (.cells #[.string (touchNote i j)] 9)) (fun _ _ h => h)
    have h7 := h6.setNotes (w1 := w7) (v' := .slice ao7 (S.notes.length + 1) cap7) (ls := S.notes ++ [touchNote i j]) happ.keep (by have := happ.own; simpa [strCells] using this) happ.fresh
    have hb7 := h6.blk.keep happ.keep h6.nne
    have d4 := hb7.cell 4
    have f4 := hb7.free 4
    simp [StV.cells] at d4 f4
    have HA := Lib.hid happ
    have H6 := Lib.hid h6
    have H7 := Lib.hid h7
    clear happ h6 h7 hb7
    (try dsimp only)
    refine hK.out _ _ ?_ (fun hHeld => ?_)
    · exact trivial
    clear hK K
    (try simp only [List.getElem_toArray, List.getElem_cons_zero, List.getElem_cons_succ, Act.put, List.setIfInBounds_toArray, List.set_cons_zero, List.set_cons_succ])
    refine wpAnyH_take (i := 14) (oi := _) (v := ?_) rfl (by kernel_rfl) (by kernel_rfl) (by kernel_rfl) (fun _ _ _ h => h) (Or.inl ⟨by rfl, ?_⟩) (by assumption) ?_
    rotate_left
    · (intro w hSw; (try dsimp only at hSw); go_simp) <;> with_reducible rfl
    (try simp only [List.getElem_toArray, List.getElem_cons_zero, List.getElem_cons_succ, Act.put, List.setIfInBounds_toArray, List.set_cons_zero, List.set_cons_succ])
    refine wpAnyH_take (i := 15) (oi := _) (v := ?_) rfl (by kernel_rfl) (by kernel_rfl) (by kernel_rfl) (fun _ _ _ h => h) (Or.inl ⟨by rfl, ?_⟩) (by assumption) ?_
    rotate_left
    · (intro w hSw; (try dsimp only at hSw); go_simp) <;> with_reducible rfl
    (try simp only [List.getElem_toArray, List.getElem_cons_zero, List.getElem_cons_succ, Act.put, List.setIfInBounds_toArray, List.set_cons_zero, List.set_cons_succ])
    refine wpAnyH_ready (rs := [16]) (by kernel_rfl) (by simp) ?_
    refine AllReadyH.cons (o := _) rfl (fun K hK => ?_) AllReadyH.nil
    go_simp
    refine hK.out _ _ ?_ (fun hHeld => ?_)
    · exact trivial
    clear hK K
    (try simp only [List.getElem_toArray, List.getElem_cons_zero, List.getElem_cons_succ, Act.put, List.setIfInBounds_toArray, List.set_cons_zero, List.set_cons_succ])
    refine wpAnyH_done (by kernel_rfl) ?_ _
    refine NoPanic.normal ?_
    go_wp2
    go_end0
    refine ⟨_, rfl, H7.out, ?_⟩
    refine HC4.out.trans ⟨rfl, rfl, fun k hk => ?_, (HKR.out.alloc (.cells #[.string (touchNote i j)] 9)).mono (fun _ _ h => h.elim) |>.trans (HA.out.keep.mono (T := fun k => base ≤ k ∧ StV.fp ⟨b, vb, vl, .slice co2 (S.contacts.length + 1) cc2, vt, .slice no S.notes.length nc⟩ k) (fun k _ e => ⟨H6.out.fp_ge.2.2.2 k e, .inr (.inr (.inr (.inr (.inr e))))⟩)) (fun _ _ h => h) |>.setCell _ _ (fun _ => ⟨H4.out.ge, .inl rfl⟩)⟩
    rcases hk with e | e | e | e | e | e
    · exact .inl (.inl e)
    · exact .inl (.inr (.inl e))
    · exact .inl (.inr (.inr (.inl e)))
    · exact .inl (.inr (.inr (.inr (.inl e))))
    · exact .inl (.inr (.inr (.inr (.inr (.inl e)))))
    · rcases HA.out.fresh with h1 | ⟨g, h1, h2⟩
      · exact .inl (.inr (.inr (.inr (.inr (.inr (h1.symm.trans e))))))
      · have h3 : g = k := Option.some.inj (h1.symm.trans e)
        have h4 := (HKR.out.alloc (.cells #[.string (touchNote i j)] 9)).size
        have h5 : (Wc.alloc (.cells #[.string (touchNote i j)] 9)).heap.size ≤ g := h2
        exact .inr (by omega)
  · go_simp
    refine Calls.mono (HIT.out _ _ HKR.out (by first | exact .inl rfl | exact .inr rfl)) ?_
    rintro e Wc ⟨rfl, hkc⟩
    have HKR := Lib.hid (HKR.out.trans hkc (fun _ _ h => h))
    have d4 := (H4.out.keep HKR.out (fun _ _ h => h)).blk.cell 4
    simp [StV.cells] at d4
    have hlt4 : b < Wc.heap.size := (H4.out.keep HKR.out (fun _ _ h => h)).blk.lt
    clear hkc
    (try dsimp only)
    refine hK.out _ _ ?_ (fun hHeld => ?_)
    · exact trivial
    clear hK K
    (try simp only [List.getElem_toArray, List.getElem_cons_zero, List.getElem_cons_succ, Act.put, List.setIfInBounds_toArray, List.set_cons_zero, List.set_cons_succ])
    refine wpAnyH_take (i := 7) (oi := _) (v := ?_) rfl (by kernel_rfl) (by kernel_rfl) (by kernel_rfl) (fun _ _ _ h => h) (Or.inl ⟨by rfl, ?_⟩) (by assumption) ?_
    rotate_left
    · (intro w hSw; (try dsimp only at hSw); go_simp) <;> with_reducible rfl
    (try simp only [List.getElem_toArray, List.getElem_cons_zero, List.getElem_cons_succ, Act.put, List.setIfInBounds_toArray, List.set_cons_zero, List.set_cons_succ])
    refine wpAnyH_take (i := 8) (oi := _) (v := ?_) rfl (by kernel_rfl) (by kernel_rfl) (by kernel_rfl) (fun _ _ _ h => h) (Or.inl ⟨by rfl, ?_⟩) (by assumption) ?_
    rotate_left
    · (intro w hSw; (try dsimp only at hSw); go_simp) <;> with_reducible rfl
    (try simp only [List.getElem_toArray, List.getElem_cons_zero, List.getElem_cons_succ, Act.put, List.setIfInBounds_toArray, List.set_cons_zero, List.set_cons_succ])
    refine wpAnyH_ready (rs := [4, 10]) (by kernel_rfl) (by simp) ?_
    refine AllReadyH.cons (o := _) rfl (fun K hK => ?_) (AllReadyH.cons (o := _) rfl (fun K hK => ?_) AllReadyH.nil)
    · go_simp
      refine hK.out _ _ ?_ (fun hHeld => ?_)
      · exact trivial
      clear hK K
      (try simp only [List.getElem_toArray, List.getElem_cons_zero, List.getElem_cons_succ, Act.put, List.setIfInBounds_toArray, List.set_cons_zero, List.set_cons_succ])
      refine wpAnyH_ready (rs := [10]) (by kernel_rfl) (by simp) ?_
      refine AllReadyH.cons (o := _) rfl (fun K hK => ?_) AllReadyH.nil
      go_simp
      refine Calls.mono (HIT.out _ _ HKR.out (by first | exact .inl rfl | exact .inr rfl)) ?_
      rintro e Wc ⟨rfl, hkc⟩
      have HKR := Lib.hid (HKR.out.trans hkc (fun _ _ h => h))
      have d4 := (H4.out.keep HKR.out (fun _ _ h => h)).blk.cell 4
      simp [StV.cells] at d4
      have hlt4 : b < Wc.heap.size := (H4.out.keep HKR.out (fun _ _ h => h)).blk.lt
      clear hkc
      (try dsimp only)
      refine hK.out _ _ ?_ (fun hHeld => ?_)
      · exact trivial
      clear hK K
      (try simp only [List.getElem_toArray, List.getElem_cons_zero, List.getElem_cons_succ, Act.put, List.setIfInBounds_toArray, List.set_cons_zero, List.set_cons_succ])
      refine wpAnyH_take (i := 11) (oi := _) (v := ?_) rfl (by kernel_rfl) (by kernel_rfl) (by kernel_rfl) (fun _ _ _ h => h) (Or.inl ⟨by rfl, ?_⟩) (by assumption) ?_
      rotate_left
      · (intro w hSw; (try dsimp only at hSw); go_simp) <;> with_reducible rfl
      (try simp only [List.getElem_toArray, List.getElem_cons_zero, List.getElem_cons_succ, Act.put, List.setIfInBounds_toArray, List.set_cons_zero, List.set_cons_succ])
      refine wpAnyH_ready (rs := [12]) (by kernel_rfl) (by simp) ?_
      refine AllReadyH.cons (o := _) rfl (fun K hK => ?_) AllReadyH.nil
      go_simp
      refine hK.out _ _ ?_ (fun hHeld => ?_)
      · exact trivial
      clear hK K
      (try simp only [List.getElem_toArray, List.getElem_cons_zero, List.getElem_cons_succ, Act.put, List.setIfInBounds_toArray, List.set_cons_zero, List.set_cons_succ])
      refine wpAnyH_ready (rs := [13]) (by kernel_rfl) (by simp) ?_
      refine AllReadyH.cons (o := _) rfl (fun K hK => ?_) AllReadyH.nil
      rw [if_pos (by rfl)]
      have ho6 : (Wc.alloc (.cells #[.string (touchNote i j)] 9)).ownsRow base 9 1 (.slice no S.notes.length nc) S.notes.length (strCells S.notes) := ownsRow_keep (H4.out.on) (HKR.out.alloc (.cells #[.string (touchNote i j)] 9)) (fun _ _ h => h)
      refine oper_app (.tmp 22) (.tmp 30) 44 44 rfl 9 (.string ⟨#[]⟩) 1 16 Tryz.underlying44 info9 rfl ho6 rfl ((Rd.new Wc 1 1 [.string (touchNote i j)] 9 rfl (by simp [Value.oneCell']) (by unfold maxLen; omega)).src Tryz.underlying44) rfl (by unfold maxLen; omega) (by omega) (Nat.le_trans H4.out.lt (HKR.out.alloc (.cells #[.string (touchNote i j)] 9)).size) (fun v' w7 happ => ?_)
      obtain ⟨ao7, cap7, rfl, _⟩ := ownsRow_shape happ.own
      have h6 := H4.out.keep (HKR.out.alloc (.cells #[.string (touchNote i j)] 9)) (fun _ _ h => h)
      have h7 := h6.setNotes (w1 := w7) (v' := .slice ao7 (S.notes.length + 1) cap7) (ls := S.notes ++ [touchNote i j]) happ.keep (by have := happ.own; simpa [strCells] using this) happ.fresh
      have hb7 := h6.blk.keep happ.keep h6.nne
      have d4 := hb7.cell 4
      have f4 := hb7.free 4
      simp [StV.cells] at d4 f4
      have HA := Lib.hid happ
      have H6 := Lib.hid h6
      have H7 := Lib.hid h7
      clear happ h6 h7 hb7
      (try dsimp only)
      refine hK.out _ _ ?_ (fun hHeld => ?_)
      · exact trivial
      clear hK K
      (try simp only [List.getElem_toArray, List.getElem_cons_zero, List.getElem_cons_succ, Act.put, List.setIfInBounds_toArray, List.set_cons_zero, List.set_cons_succ])
      refine wpAnyH_take (i := 14) (oi := _) (v := ?_) rfl (by kernel_rfl) (by kernel_rfl) (by kernel_rfl) (fun _ _ _ h => h) (Or.inl ⟨by rfl, ?_⟩) (by assumption) ?_
      rotate_left
      · (intro w hSw; (try dsimp only at hSw); go_simp) <;> with_reducible rfl
      (try simp only [List.getElem_toArray, List.getElem_cons_zero, List.getElem_cons_succ, Act.put, List.setIfInBounds_toArray, List.set_cons_zero, List.set_cons_succ])
      refine wpAnyH_take (i := 15) (oi := _) (v := ?_) rfl (by kernel_rfl) (by kernel_rfl) (by kernel_rfl) (fun _ _ _ h => h) (Or.inl ⟨by rfl, ?_⟩) (by assumption) ?_
      rotate_left
      · (intro w hSw; (try dsimp only at hSw); go_simp) <;> with_reducible rfl
      (try simp only [List.getElem_toArray, List.getElem_cons_zero, List.getElem_cons_succ, Act.put, List.setIfInBounds_toArray, List.set_cons_zero, List.set_cons_succ])
      refine wpAnyH_ready (rs := [16]) (by kernel_rfl) (by simp) ?_
      refine AllReadyH.cons (o := _) rfl (fun K hK => ?_) AllReadyH.nil
      go_simp
      refine hK.out _ _ ?_ (fun hHeld => ?_)
      · exact trivial
      clear hK K
      (try simp only [List.getElem_toArray, List.getElem_cons_zero, List.getElem_cons_succ, Act.put, List.setIfInBounds_toArray, List.set_cons_zero, List.set_cons_succ])
      refine wpAnyH_done (by kernel_rfl) ?_ _
      refine NoPanic.normal ?_
      go_wp2
      go_end0
      refine ⟨_, rfl, H7.out, ?_⟩
      refine HC4.out.trans ⟨rfl, rfl, fun k hk => ?_, (HKR.out.alloc (.cells #[.string (touchNote i j)] 9)).mono (fun _ _ h => h.elim) |>.trans (HA.out.keep.mono (T := fun k => base ≤ k ∧ StV.fp ⟨b, vb, vl, .slice co2 (S.contacts.length + 1) cc2, vt, .slice no S.notes.length nc⟩ k) (fun k _ e => ⟨H6.out.fp_ge.2.2.2 k e, .inr (.inr (.inr (.inr (.inr e))))⟩)) (fun _ _ h => h) |>.setCell _ _ (fun _ => ⟨H4.out.ge, .inl rfl⟩)⟩
      rcases hk with e | e | e | e | e | e
      · exact .inl (.inl e)
      · exact .inl (.inr (.inl e))
      · exact .inl (.inr (.inr (.inl e)))
      · exact .inl (.inr (.inr (.inr (.inl e))))
      · exact .inl (.inr (.inr (.inr (.inr (.inl e)))))
      · rcases HA.out.fresh with h1 | ⟨g, h1, h2⟩
        · exact .inl (.inr (.inr (.inr (.inr (.inr (h1.symm.trans e))))))
        · have h3 : g = k := Option.some.inj (h1.symm.trans e)
          have h4 := (HKR.out.alloc (.cells #[.string (touchNote i j)] 9)).size
          have h5 : (Wc.alloc (.cells #[.string (touchNote i j)] 9)).heap.size ≤ g := h2
          exact .inr (by omega)
    · go_simp
      refine Calls.mono (HIT.out _ _ HKR.out (by first | exact .inl rfl | exact .inr rfl)) ?_
      rintro e Wc ⟨rfl, hkc⟩
      have HKR := Lib.hid (HKR.out.trans hkc (fun _ _ h => h))
      have d4 := (H4.out.keep HKR.out (fun _ _ h => h)).blk.cell 4
      simp [StV.cells] at d4
      have hlt4 : b < Wc.heap.size := (H4.out.keep HKR.out (fun _ _ h => h)).blk.lt
      clear hkc
      (try dsimp only)
      refine hK.out _ _ ?_ (fun hHeld => ?_)
      · exact trivial
      clear hK K
      (try simp only [List.getElem_toArray, List.getElem_cons_zero, List.getElem_cons_succ, Act.put, List.setIfInBounds_toArray, List.set_cons_zero, List.set_cons_succ])
      refine wpAnyH_take (i := 11) (oi := _) (v := ?_) rfl (by kernel_rfl) (by kernel_rfl) (by kernel_rfl) (fun _ _ _ h => h) (Or.inl ⟨by rfl, ?_⟩) (by assumption) ?_
      rotate_left
      · (intro w hSw; (try dsimp only at hSw); go_simp) <;> with_reducible rfl
      (try simp only [List.getElem_toArray, List.getElem_cons_zero, List.getElem_cons_succ, Act.put, List.setIfInBounds_toArray, List.set_cons_zero, List.set_cons_succ])
      refine wpAnyH_ready (rs := [4, 12]) (by kernel_rfl) (by simp) ?_
      refine AllReadyH.cons (o := _) rfl (fun K hK => ?_) (AllReadyH.cons (o := _) rfl (fun K hK => ?_) AllReadyH.nil)
      · go_simp
        refine hK.out _ _ ?_ (fun hHeld => ?_)
        · exact trivial
        clear hK K
        (try simp only [List.getElem_toArray, List.getElem_cons_zero, List.getElem_cons_succ, Act.put, List.setIfInBounds_toArray, List.set_cons_zero, List.set_cons_succ])
        refine wpAnyH_ready (rs := [12]) (by kernel_rfl) (by simp) ?_
        refine AllReadyH.cons (o := _) rfl (fun K hK => ?_) AllReadyH.nil
        go_simp
        refine hK.out _ _ ?_ (fun hHeld => ?_)
        · exact trivial
        clear hK K
        (try simp only [List.getElem_toArray, List.getElem_cons_zero, List.getElem_cons_succ, Act.put, List.setIfInBounds_toArray, List.set_cons_zero, List.set_cons_succ])
        refine wpAnyH_ready (rs := [13]) (by kernel_rfl) (by simp) ?_
        refine AllReadyH.cons (o := _) rfl (fun K hK => ?_) AllReadyH.nil
        rw [if_pos (by rfl)]
        have ho6 : (Wc.alloc (.cells #[.string (touchNote i j)] 9)).ownsRow base 9 1 (.slice no S.notes.length nc) S.notes.length (strCells S.notes) := ownsRow_keep (H4.out.on) (HKR.out.alloc (.cells #[.string (touchNote i j)] 9)) (fun _ _ h => h)
        refine oper_app (.tmp 22) (.tmp 30) 44 44 rfl 9 (.string ⟨#[]⟩) 1 16 Tryz.underlying44 info9 rfl ho6 rfl ((Rd.new Wc 1 1 [.string (touchNote i j)] 9 rfl (by simp [Value.oneCell']) (by unfold maxLen; omega)).src Tryz.underlying44) rfl (by unfold maxLen; omega) (by omega) (Nat.le_trans H4.out.lt (HKR.out.alloc (.cells #[.string (touchNote i j)] 9)).size) (fun v' w7 happ => ?_)
        obtain ⟨ao7, cap7, rfl, _⟩ := ownsRow_shape happ.own
        have h6 := H4.out.keep (HKR.out.alloc (.cells #[.string (touchNote i j)] 9)) (fun _ _ h => h)
        have h7 := h6.setNotes (w1 := w7) (v' := .slice ao7 (S.notes.length + 1) cap7) (ls := S.notes ++ [touchNote i j]) happ.keep (by have := happ.own; simpa [strCells] using this) happ.fresh
        have hb7 := h6.blk.keep happ.keep h6.nne
        have d4 := hb7.cell 4
        have f4 := hb7.free 4
        simp [StV.cells] at d4 f4
        have HA := Lib.hid happ
        have H6 := Lib.hid h6
        have H7 := Lib.hid h7
        clear happ h6 h7 hb7
        (try dsimp only)
        refine hK.out _ _ ?_ (fun hHeld => ?_)
        · exact trivial
        clear hK K
        (try simp only [List.getElem_toArray, List.getElem_cons_zero, List.getElem_cons_succ, Act.put, List.setIfInBounds_toArray, List.set_cons_zero, List.set_cons_succ])
        refine wpAnyH_take (i := 14) (oi := _) (v := ?_) rfl (by kernel_rfl) (by kernel_rfl) (by kernel_rfl) (fun _ _ _ h => h) (Or.inl ⟨by rfl, ?_⟩) (by assumption) ?_
        rotate_left
        · (intro w hSw; (try dsimp only at hSw); go_simp) <;> with_reducible rfl
        (try simp only [List.getElem_toArray, List.getElem_cons_zero, List.getElem_cons_succ, Act.put, List.setIfInBounds_toArray, List.set_cons_zero, List.set_cons_succ])
        refine wpAnyH_take (i := 15) (oi := _) (v := ?_) rfl (by kernel_rfl) (by kernel_rfl) (by kernel_rfl) (fun _ _ _ h => h) (Or.inl ⟨by rfl, ?_⟩) (by assumption) ?_
        rotate_left
        · (intro w hSw; (try dsimp only at hSw); go_simp) <;> with_reducible rfl
        (try simp only [List.getElem_toArray, List.getElem_cons_zero, List.getElem_cons_succ, Act.put, List.setIfInBounds_toArray, List.set_cons_zero, List.set_cons_succ])
        refine wpAnyH_ready (rs := [16]) (by kernel_rfl) (by simp) ?_
        refine AllReadyH.cons (o := _) rfl (fun K hK => ?_) AllReadyH.nil
        go_simp
        refine hK.out _ _ ?_ (fun hHeld => ?_)
        · exact trivial
        clear hK K
        (try simp only [List.getElem_toArray, List.getElem_cons_zero, List.getElem_cons_succ, Act.put, List.setIfInBounds_toArray, List.set_cons_zero, List.set_cons_succ])
        refine wpAnyH_done (by kernel_rfl) ?_ _
        refine NoPanic.normal ?_
        go_wp2
        go_end0
        refine ⟨_, rfl, H7.out, ?_⟩
        refine HC4.out.trans ⟨rfl, rfl, fun k hk => ?_, (HKR.out.alloc (.cells #[.string (touchNote i j)] 9)).mono (fun _ _ h => h.elim) |>.trans (HA.out.keep.mono (T := fun k => base ≤ k ∧ StV.fp ⟨b, vb, vl, .slice co2 (S.contacts.length + 1) cc2, vt, .slice no S.notes.length nc⟩ k) (fun k _ e => ⟨H6.out.fp_ge.2.2.2 k e, .inr (.inr (.inr (.inr (.inr e))))⟩)) (fun _ _ h => h) |>.setCell _ _ (fun _ => ⟨H4.out.ge, .inl rfl⟩)⟩
        rcases hk with e | e | e | e | e | e
        · exact .inl (.inl e)
        · exact .inl (.inr (.inl e))
        · exact .inl (.inr (.inr (.inl e)))
        · exact .inl (.inr (.inr (.inr (.inl e))))
        · exact .inl (.inr (.inr (.inr (.inr (.inl e)))))
        · rcases HA.out.fresh with h1 | ⟨g, h1, h2⟩
          · exact .inl (.inr (.inr (.inr (.inr (.inr (h1.symm.trans e))))))
          · have h3 : g = k := Option.some.inj (h1.symm.trans e)
            have h4 := (HKR.out.alloc (.cells #[.string (touchNote i j)] 9)).size
            have h5 : (Wc.alloc (.cells #[.string (touchNote i j)] 9)).heap.size ≤ g := h2
            exact .inr (by omega)
      · go_simp
        refine hK.out _ _ ?_ (fun hHeld => ?_)
        · exact trivial
        clear hK K
        (try simp only [List.getElem_toArray, List.getElem_cons_zero, List.getElem_cons_succ, Act.put, List.setIfInBounds_toArray, List.set_cons_zero, List.set_cons_succ])
        refine wpAnyH_ready (rs := [4]) (by kernel_rfl) (by simp) ?_
        refine AllReadyH.cons (o := _) rfl (fun K hK => ?_) AllReadyH.nil
        go_simp
        refine hK.out _ _ ?_ (fun hHeld => ?_)
        · exact trivial
        clear hK K
        (try simp only [List.getElem_toArray, List.getElem_cons_zero, List.getElem_cons_succ, Act.put, List.setIfInBounds_toArray, List.set_cons_zero, List.set_cons_succ])
        refine wpAnyH_ready (rs := [13]) (by kernel_rfl) (by simp) ?_
        refine AllReadyH.cons (o := _) rfl (fun K hK => ?_) AllReadyH.nil
        rw [if_pos (by rfl)]
        have ho6 : (Wc.alloc (.cells #[.string (touchNote i j)] 9)).ownsRow base 9 1 (.slice no S.notes.length nc) S.notes.length (strCells S.notes) := ownsRow_keep (H4.out.on) (HKR.out.alloc (.cells #[.string (touchNote i j)] 9)) (fun _ _ h => h)
        refine oper_app (.tmp 22) (.tmp 30) 44 44 rfl 9 (.string ⟨#[]⟩) 1 16 Tryz.underlying44 info9 rfl ho6 rfl ((Rd.new Wc 1 1 [.string (touchNote i j)] 9 rfl (by simp [Value.oneCell']) (by unfold maxLen; omega)).src Tryz.underlying44) rfl (by unfold maxLen; omega) (by omega) (Nat.le_trans H4.out.lt (HKR.out.alloc (.cells #[.string (touchNote i j)] 9)).size) (fun v' w7 happ => ?_)
        obtain ⟨ao7, cap7, rfl, _⟩ := ownsRow_shape happ.own
        have h6 := H4.out.keep (HKR.out.alloc (.cells #[.string (touchNote i j)] 9)) (fun _ _ h => h)
        have h7 := h6.setNotes (w1 := w7) (v' := .slice ao7 (S.notes.length + 1) cap7) (ls := S.notes ++ [touchNote i j]) happ.keep (by have := happ.own; simpa [strCells] using this) happ.fresh
        have hb7 := h6.blk.keep happ.keep h6.nne
        have d4 := hb7.cell 4
        have f4 := hb7.free 4
        simp [StV.cells] at d4 f4
        have HA := Lib.hid happ
        have H6 := Lib.hid h6
        have H7 := Lib.hid h7
        clear happ h6 h7 hb7
        (try dsimp only)
        refine hK.out _ _ ?_ (fun hHeld => ?_)
        · exact trivial
        clear hK K
        (try simp only [List.getElem_toArray, List.getElem_cons_zero, List.getElem_cons_succ, Act.put, List.setIfInBounds_toArray, List.set_cons_zero, List.set_cons_succ])
        refine wpAnyH_take (i := 14) (oi := _) (v := ?_) rfl (by kernel_rfl) (by kernel_rfl) (by kernel_rfl) (fun _ _ _ h => h) (Or.inl ⟨by rfl, ?_⟩) (by assumption) ?_
        rotate_left
        · (intro w hSw; (try dsimp only at hSw); go_simp) <;> with_reducible rfl
        (try simp only [List.getElem_toArray, List.getElem_cons_zero, List.getElem_cons_succ, Act.put, List.setIfInBounds_toArray, List.set_cons_zero, List.set_cons_succ])
        refine wpAnyH_take (i := 15) (oi := _) (v := ?_) rfl (by kernel_rfl) (by kernel_rfl) (by kernel_rfl) (fun _ _ _ h => h) (Or.inl ⟨by rfl, ?_⟩) (by assumption) ?_
        rotate_left
        · (intro w hSw; (try dsimp only at hSw); go_simp) <;> with_reducible rfl
        (try simp only [List.getElem_toArray, List.getElem_cons_zero, List.getElem_cons_succ, Act.put, List.setIfInBounds_toArray, List.set_cons_zero, List.set_cons_succ])
        refine wpAnyH_ready (rs := [16]) (by kernel_rfl) (by simp) ?_
        refine AllReadyH.cons (o := _) rfl (fun K hK => ?_) AllReadyH.nil
        go_simp
        refine hK.out _ _ ?_ (fun hHeld => ?_)
        · exact trivial
        clear hK K
        (try simp only [List.getElem_toArray, List.getElem_cons_zero, List.getElem_cons_succ, Act.put, List.setIfInBounds_toArray, List.set_cons_zero, List.set_cons_succ])
        refine wpAnyH_done (by kernel_rfl) ?_ _
        refine NoPanic.normal ?_
        go_wp2
        go_end0
        refine ⟨_, rfl, H7.out, ?_⟩
        refine HC4.out.trans ⟨rfl, rfl, fun k hk => ?_, (HKR.out.alloc (.cells #[.string (touchNote i j)] 9)).mono (fun _ _ h => h.elim) |>.trans (HA.out.keep.mono (T := fun k => base ≤ k ∧ StV.fp ⟨b, vb, vl, .slice co2 (S.contacts.length + 1) cc2, vt, .slice no S.notes.length nc⟩ k) (fun k _ e => ⟨H6.out.fp_ge.2.2.2 k e, .inr (.inr (.inr (.inr (.inr e))))⟩)) (fun _ _ h => h) |>.setCell _ _ (fun _ => ⟨H4.out.ge, .inl rfl⟩)⟩
        rcases hk with e | e | e | e | e | e
        · exact .inl (.inl e)
        · exact .inl (.inr (.inl e))
        · exact .inl (.inr (.inr (.inl e)))
        · exact .inl (.inr (.inr (.inr (.inl e))))
        · exact .inl (.inr (.inr (.inr (.inr (.inl e)))))
        · rcases HA.out.fresh with h1 | ⟨g, h1, h2⟩
          · exact .inl (.inr (.inr (.inr (.inr (.inr (h1.symm.trans e))))))
          · have h3 : g = k := Option.some.inj (h1.symm.trans e)
            have h4 := (HKR.out.alloc (.cells #[.string (touchNote i j)] 9)).size
            have h5 : (Wc.alloc (.cells #[.string (touchNote i j)] 9)).heap.size ≤ g := h2
            exact .inr (by omega)
end Go.Proofs.YthdkamnclbfehaaGreatDoor
