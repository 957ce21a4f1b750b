/- house.state.test. -/
import Derived.Test.YtkkjonkcjlnohaaGreatDoorSM13

/- house.state.test. -/
namespace Go.Proofs.YtkkjonkcjlnohaaGreatDoor
set_option linter.unusedSimpArgs false
set_option linter.unusedVariables false
set_option linter.unnecessarySimpa false
open Go.RowKit

def testNote (x : Int) (word : ByteArray) : ByteArray := ((bs [116, 101, 115, 116, 32] ++ itoaB x) ++ bs [32]) ++ word
def testS (S : St) (x g : Int) (word : ByteArray) : St := { S with tests := S.tests ++ [(x, g)], notes := S.notes ++ [testNote x word] }
def testF (S : St) (a : FA) : Res :=
  if hasLot S (a.n.getD 0 0) then (if a.word = goodB then ⟨0, testS S (a.n.getD 0 0) 1 a.word, bs [116, 101, 115, 116]⟩ else ⟨0, testS S (a.n.getD 0 0) 0 a.word, bs [116, 101, 115, 116]⟩) else ⟨5, S, bs []⟩

set_option maxHeartbeats 4000000 in
set_option maxRecDepth 100000 in
theorem test_any {base : Nat} {w : World} {V : StV} {S : St} {vn : Value} {a : FA} (hG : GW base w) (h : OSt base w V S) (hl : S.small) (ha : Args base w vn a) (hn : a.n.length = 1) (hbx : ∀ x ∈ a.n, i64b x) (hwz : a.word.size ≤ 1000) :
    Calls Tryz.prog 403 #[.pointer (some ⟨V.b, 0, none⟩), .agg #[vn, .string a.word]] w (RunPost base w V (testF S a)) := by
  obtain ⟨nb, no, nc, rfl, hnc, hC⟩ := args_open h ha (by omega)
  obtain ⟨x, hx⟩ : ∃ x, a.n = [x] := List.length_eq_one_iff.1 hn
  obtain ⟨an, word, aok⟩ := a
  simp only at hx hn hnc hC hbx hwz
  subst hx
  have hxb := hbx x (by simp)
  obtain ⟨b, vb, vl, vc, vt, vn⟩ := V
  obtain ⟨too, tc, hvt, htc, _⟩ := ownsRow_shape h.ot
  simp only at hvt
  subst hvt
  obtain ⟨no', nc', hvn, hnc', _⟩ := ownsRow_shape h.on
  simp only at hvn
  subst hvn
  change Calls Tryz.prog 403 #[.pointer (some ⟨b, 0, none⟩), .agg #[.slice (some ⟨nb, no, none⟩) 1 nc, .string word]] w (RunPost base w ⟨b, vb, vl, vc, .slice too S.tests.length tc, .slice no' S.notes.length nc'⟩ (testF S ⟨[x], word, aok⟩))
  obtain ⟨w0, hw0⟩ : ∃ w0, w0 = w.alloc (.cells #[.slice (some ⟨nb, no, none⟩) 1 nc, .string word] 98) := ⟨_, rfl⟩
  have HC : Hid (∀ W, Keep (fun k => base ≤ k ∧ StV.fp ⟨b, vb, vl, vc, .slice too S.tests.length tc, .slice no' S.notes.length nc'⟩ k) w0 W → W.cell? ⟨w.heap.size, 0, none⟩ = some (.slice (some ⟨nb, no, none⟩) 1 nc) ∧ W.cell? ⟨w.heap.size, 1, none⟩ = some (.string word) ∧ W.cell? ⟨nb, no, none⟩ = some (.int .i64 x)) := Lib.hid fun W hk => by
    rw [hw0] at hk
    obtain ⟨h1, h2, h3⟩ := hC W hk
    exact ⟨h1, h2, h3 0 (by simp)⟩
  obtain ⟨b0, b1, b2⟩ := HC.out w0 (Keep.refl _ _)
  rw [hw0] at b0 b1 b2
  have hnc1 : 1 ≤ nc := hnc
  have hk0 : Keep (fun _ => False) w w0 := by rw [hw0]; exact (Keep.refl _ _).alloc _
  have h0 := h.keep hk0 (fun _ _ h => h)
  have hz0 : w0.heap.size = w.heap.size + 1 := by rw [hw0]; simp
  have hrd := Rd.new w0 1 1 (icells [x]) 3 rfl (icells_one _) (by unfold maxLen; omega)
  have hth := there_any (l := [x]) ((h0.keep ((Keep.refl (fun _ => False) w0).alloc (.cells (icells [x]).toArray 3)) (fun _ _ h => h)).at (by have := h0.lt; simp; omega)) hl.l hrd (by simp)
  rw [hz0, show allLots S [x] = hasLot S x by simp [allLots]] at hth
  have si := itoaB_size x hxb.1 hxb.2
  have st1 : (9223372036854775807 < 5 + (itoaB x).size) = False := eq_false (by omega)
  have st2 : (9223372036854775807 < 5 + (itoaB x).size + 1) = False := eq_false (by omega)
  have st3 : (9223372036854775807 < 5 + (itoaB x).size + 1 + word.size) = False := eq_false (by omega)
  have hlt := hl.t
  have hln := hl.n
  have HX := Lib.hid hxb; clear hxb hbx
  have H0 := Lib.hid h0; clear h0
  have HV := Lib.hid h; clear h
  have HK0 := Lib.hid hk0; clear hk0
  have HW0 := Lib.hid hw0; clear hw0
  clear hC ha hnc hn hl hrd hz0
  cases hb : hasLot S x with
  | false =>
    have HF := Lib.hid (show testF S ⟨[x], word, aok⟩ = ⟨5, S, bs []⟩ by unfold testF; simp only [List.getD_cons_zero]; rw [hb]; rfl)
    rw [hb] at hth
    have HTH := Lib.hid hth; clear hth hb
    go_enter Tryz.func403, Tryz.ntmps403
    go_wp2_with (go_at_call 406; rw [← HW0.out]; refine HTH.out.mono ?_; rintro e w1 ⟨rfl, hk1⟩; have HK1 := Lib.hid hk1; clear hk1)
    go_ret2
    exact ⟨by rw [HF.out]; rfl, _, (fun e => by rw [HF.out] at e; cases e), (Chg.refl base w _).after ((HK0.out.alloc (.cells #[.int .i64 x] 3)).trans HK1.out (fun _ _ h => h))⟩
  | true =>
    rw [hb] at hth
    have HTH := Lib.hid hth; clear hth
    by_cases hwd : word = goodB
    · have HF := Lib.hid (show testF S ⟨[x], word, aok⟩ = ⟨0, testS S x 1 word, bs [116, 101, 115, 116]⟩ by unfold testF; simp only [List.getD_cons_zero]; rw [hb, if_pos rfl, if_pos hwd])
      have hgl : (word.toList = [103, 111, 111, 100]) = True := eq_true ((toList_bs _ _).2 hwd)
      have hgb : (word.toList == [103, 111, 111, 100]) = true := beq_iff_eq.2 ((toList_bs _ _).2 hwd)
      obtain ⟨gd, hgd⟩ : ∃ gd : Int, gd = 1 := ⟨_, rfl⟩
      rw [show testS S x 1 word = testS S x gd word by rw [hgd]] at HF
      have HGD := Lib.hid hgd; clear hgd
      clear hb hwd
      go_enter Tryz.func403, Tryz.ntmps403
      go_wp2_with (go_at_call 406; rw [← HW0.out]; refine HTH.out.mono ?_; rintro e w1 ⟨rfl, hk1⟩; have HK01 := Lib.hid (((Keep.refl (fun _ => False) w0).alloc (.cells #[.int .i64 x] 3)).trans hk1 (fun _ _ h => h)); obtain ⟨a0, a1, a2⟩ := HC.out w1 (HK01.out.mono (fun _ _ h => h.elim)); clear hk1)
      have h1 := H0.out.keep HK01.out (fun _ _ h => h)
      have d3 := h1.blk.cell 3
      have hlt3 := h1.blk.lt
      simp [StV.cells] at d3 hlt3
      have H1 := Lib.hid h1; clear h1
      obtain ⟨w2, hw2⟩ : ∃ w2, w2 = w1.alloc (.cells #[.int .i64 x, .int .i64 gd] 127) := ⟨_, rfl⟩
      have hk12 : Keep (fun _ => False) w1 w2 := by rw [hw2]; exact (Keep.refl _ _).alloc _
      have HK12 := Lib.hid hk12; clear hk12
      have HST : Hid (Src Tryz.prog 2 88 (.slice (some ⟨w1.heap.size, 0, none⟩) 1 1) 1 (pairCell (x, gd)) w2.drew) := Lib.hid (by
        have := Rd.new w1 2 1 (pairCell (x, gd)) 127 rfl (by simp [pairCell, Value.oneCell']) (by unfold maxLen; omega)
        rw [hw2]; exact this.drew.src Tryz.underlying88)
      have HOT : Hid (w2.drew.ownsRow base 127 2 (.slice too S.tests.length tc) S.tests.length (pairCells S.tests)) := Lib.hid (ownsRow_keep H1.out.ot HK12.out.drew (fun _ _ h => h))
      rw [HGD.out] at hw2
      have HW2 := Lib.hid hw2; clear hw2
      have HKR : Hid (Keep (fun k => base ≤ k ∧ StV.fp ⟨b, vb, vl, vc, .slice too S.tests.length tc, .slice no' S.notes.length nc'⟩ k) w0 w1) := Lib.hid (HK01.out.mono (fun _ _ h => h.elim))
      refine wp_region_noPanic ?_
      refine wp_region_held_drew (S := fun W => W.cell? ⟨w.heap.size, 0, none⟩ = some (.slice (some ⟨nb, no, none⟩) 1 nc) ∧ W.cell? ⟨w.heap.size, 1, none⟩ = some (.string word) ∧ W.cell? ⟨nb, no, none⟩ = some (.int .i64 x)) (by kernel_rfl) (HC.out _ HKR.out.drew) (fun hHeld => ?_)
      refine wpAnyH_take (i := 0) (oi := _) (v := ?_) rfl (by kernel_rfl) (by kernel_rfl) (by kernel_rfl) (fun _ _ _ h => h) (Or.inl ⟨by rfl, ?_⟩) (by assumption) ?_
      rotate_left
      · (intro w hSw; (try dsimp only at hSw); go_simp) <;> with_reducible rfl
      (try simp only [List.getElem_toArray, List.getElem_cons_zero, List.getElem_cons_succ, Act.put, List.setIfInBounds_toArray, List.set_cons_zero, List.set_cons_succ])
      refine wpAnyH_take (i := 1) (oi := _) (v := ?_) rfl (by kernel_rfl) (by kernel_rfl) (by kernel_rfl) (fun _ _ _ h => h) (Or.inl ⟨by rfl, ?_⟩) (by assumption) ?_
      rotate_left
      · (intro w hSw; (try dsimp only at hSw); go_simp) <;> with_reducible rfl
      (try simp only [List.getElem_toArray, List.getElem_cons_zero, List.getElem_cons_succ, Act.put, List.setIfInBounds_toArray, List.set_cons_zero, List.set_cons_succ])
      refine wpAnyH_take (i := 2) (oi := _) (v := ?_) rfl (by kernel_rfl) (by kernel_rfl) (by kernel_rfl) (fun _ _ _ h => h) (Or.inl ⟨by rfl, ?_⟩) (by assumption) ?_
      rotate_left
      · (intro w hSw; (try dsimp only at hSw); go_simp) <;> with_reducible rfl
      (try simp only [List.getElem_toArray, List.getElem_cons_zero, List.getElem_cons_succ, Act.put, List.setIfInBounds_toArray, List.set_cons_zero, List.set_cons_succ])
      refine wpAnyH_take (i := 3) (oi := _) (v := ?_) rfl (by kernel_rfl) (by kernel_rfl) (by kernel_rfl) (fun _ _ _ h => h) (Or.inl ⟨by rfl, ?_⟩) (by assumption) ?_
      rotate_left
      · (intro w hSw; (try dsimp only at hSw); go_simp) <;> with_reducible rfl
      (try simp only [List.getElem_toArray, List.getElem_cons_zero, List.getElem_cons_succ, Act.put, List.setIfInBounds_toArray, List.set_cons_zero, List.set_cons_succ])
      refine wpAnyH_take (i := 5) (oi := _) (v := ?_) rfl (by kernel_rfl) (by kernel_rfl) (by kernel_rfl) (fun _ _ _ h => h) (Or.inl ⟨by rfl, ?_⟩) (by assumption) ?_
      rotate_left
      · (intro w hSw; (try dsimp only at hSw); go_simp) <;> with_reducible rfl
      (try simp only [List.getElem_toArray, List.getElem_cons_zero, List.getElem_cons_succ, Act.put, List.setIfInBounds_toArray, List.set_cons_zero, List.set_cons_succ])
      refine wpAnyH_take (i := 6) (oi := _) (v := ?_) rfl (by kernel_rfl) (by kernel_rfl) (by kernel_rfl) (fun _ _ _ h => h) (Or.inl ⟨by rfl, ?_⟩) (by assumption) ?_
      rotate_left
      · (intro w hSw; (try dsimp only at hSw); go_simp) <;> with_reducible rfl
      (try simp only [List.getElem_toArray, List.getElem_cons_zero, List.getElem_cons_succ, Act.put, List.setIfInBounds_toArray, List.set_cons_zero, List.set_cons_succ])
      refine wpAnyH_take (i := 7) (oi := _) (v := ?_) rfl (by kernel_rfl) (by kernel_rfl) (by kernel_rfl) (fun _ _ _ h => h) (Or.inl ⟨by rfl, ?_⟩) (by assumption) ?_
      rotate_left
      · (intro w hSw; (try dsimp only at hSw); go_simp) <;> with_reducible rfl
      (try simp only [List.getElem_toArray, List.getElem_cons_zero, List.getElem_cons_succ, Act.put, List.setIfInBounds_toArray, List.set_cons_zero, List.set_cons_succ])
      refine wpAnyH_take (i := 8) (oi := _) (v := ?_) rfl (by kernel_rfl) (by kernel_rfl) (by kernel_rfl) (fun _ _ _ h => h) (Or.inl ⟨by rfl, ?_⟩) (by assumption) ?_
      rotate_left
      · (intro w hSw; (try dsimp only at hSw); go_simp) <;> with_reducible rfl
      (try simp only [List.getElem_toArray, List.getElem_cons_zero, List.getElem_cons_succ, Act.put, List.setIfInBounds_toArray, List.set_cons_zero, List.set_cons_succ])
      refine wpAnyH_take (i := 9) (oi := _) (v := ?_) rfl (by kernel_rfl) (by kernel_rfl) (by kernel_rfl) (fun _ _ _ h => h) (Or.inl ⟨by rfl, ?_⟩) (by assumption) ?_
      rotate_left
      · (intro w hSw; (try dsimp only at hSw); go_simp) <;> with_reducible rfl
      (try simp only [List.getElem_toArray, List.getElem_cons_zero, List.getElem_cons_succ, Act.put, List.setIfInBounds_toArray, List.set_cons_zero, List.set_cons_succ])
      refine wpAnyH_take (i := 10) (oi := _) (v := ?_) rfl (by kernel_rfl) (by kernel_rfl) (by kernel_rfl) (fun _ _ _ h => h) (Or.inl ⟨by rfl, ?_⟩) (by assumption) ?_
      rotate_left
      · (intro w hSw; (try dsimp only at hSw); go_simp) <;> with_reducible rfl
      (try simp only [List.getElem_toArray, List.getElem_cons_zero, List.getElem_cons_succ, Act.put, List.setIfInBounds_toArray, List.set_cons_zero, List.set_cons_succ])
      refine wpAnyH_ready (rs := [4, 11]) (by kernel_rfl) (by simp) ?_
      refine AllReadyH.cons (o := _) rfl (fun K hK => ?_) (AllReadyH.cons (o := _) rfl (fun K hK => ?_) AllReadyH.nil)
      · go_simp
        refine hK.out _ _ ?_ (fun hHeld => ?_)
        · ((try dsimp only); refine HC.out _ ?_; repeat (first | exact HKR.out | apply Keep.drew | apply Keep.alloc | refine Keep.setCell ?_ _ _ (fun _ => ⟨HV.out.ge, .inl rfl⟩)))
        clear hK K
        (try simp only [List.getElem_toArray, List.getElem_cons_zero, List.getElem_cons_succ, Act.put, List.setIfInBounds_toArray, List.set_cons_zero, List.set_cons_succ])
        refine wpAnyH_ready (rs := [11]) (by kernel_rfl) (by simp) ?_
        refine AllReadyH.cons (o := _) rfl (fun K hK => ?_) AllReadyH.nil
        go_simp
        refine hK.out _ _ ?_ (fun hHeld => ?_)
        · ((try dsimp only); refine HC.out _ ?_; repeat (first | exact HKR.out | apply Keep.drew | apply Keep.alloc | refine Keep.setCell ?_ _ _ (fun _ => ⟨HV.out.ge, .inl rfl⟩)))
        clear hK K
        (try simp only [List.getElem_toArray, List.getElem_cons_zero, List.getElem_cons_succ, Act.put, List.setIfInBounds_toArray, List.set_cons_zero, List.set_cons_succ])
        refine wpAnyH_ready (rs := [12]) (by kernel_rfl) (by simp) ?_
        refine AllReadyH.cons (o := _) rfl (fun K hK => ?_) AllReadyH.nil
        rw [if_pos (by rfl)]
        rw [← HW2.out]
        refine oper_app (w := w2.drew) (.tmp 22) (.tmp 29) 88 88 rfl 127 zPair 2 16 Tryz.underlying88 info176 rfl HOT.out rfl HST.out rfl (by unfold maxLen; omega) (by omega) (Nat.le_trans H1.out.lt HK12.out.size) (fun v' w7 happ => ?_)
        obtain ⟨ao7, cap7, rfl, _⟩ := ownsRow_shape happ.own
        have h6 := H1.out.keep HK12.out.drew (fun _ _ h => h)
        have h7 := h6.setTests (w1 := w7) (v' := .slice ao7 (S.tests.length + 1) cap7) (ls := S.tests ++ [(x, gd)]) happ.keep (by have := happ.own; simpa [pairCells, pairCell] using this) happ.fresh
        have hb7 := h6.blk.keep happ.keep h6.tne
        have d3 := hb7.cell 3
        have f3 := hb7.free 3
        simp [StV.cells] at d3 f3
        have HKR := Lib.hid (((HK01.out.trans HK12.out.drew (fun _ _ h => h)).mono (T := fun k => base ≤ k ∧ StV.fp ⟨b, vb, vl, vc, .slice too S.tests.length tc, .slice no' S.notes.length nc'⟩ k) (fun _ _ h => h.elim)).trans happ.keep (fun k _ e => ⟨h6.fp_ge.2.2.1 k e, .inr (.inr (.inr (.inr (.inl e))))⟩))
        have HA := Lib.hid happ
        have H6 := Lib.hid h6
        have H7 := Lib.hid h7
        clear happ h6 h7 hb7
        (try dsimp only)
        refine hK.out _ _ ?_ (fun hHeld => ?_)
        · ((try dsimp only); refine HC.out _ ?_; repeat (first | exact HKR.out | apply Keep.drew | apply Keep.alloc | refine Keep.setCell ?_ _ _ (fun _ => ⟨HV.out.ge, .inl rfl⟩)))
        clear hK K
        (try simp only [List.getElem_toArray, List.getElem_cons_zero, List.getElem_cons_succ, Act.put, List.setIfInBounds_toArray, List.set_cons_zero, List.set_cons_succ])
        refine wpAnyH_take (i := 13) (oi := _) (v := ?_) rfl (by kernel_rfl) (by kernel_rfl) (by kernel_rfl) (fun _ _ _ h => h) (Or.inl ⟨by rfl, ?_⟩) (by assumption) ?_
        rotate_left
        · (intro w hSw; (try dsimp only at hSw); go_simp) <;> with_reducible rfl
        (try simp only [List.getElem_toArray, List.getElem_cons_zero, List.getElem_cons_succ, Act.put, List.setIfInBounds_toArray, List.set_cons_zero, List.set_cons_succ])
        refine wpAnyH_take (i := 14) (oi := _) (v := ?_) rfl (by kernel_rfl) (by kernel_rfl) (by kernel_rfl) (fun _ _ _ h => h) (Or.inl ⟨by rfl, ?_⟩) (by assumption) ?_
        rotate_left
        · (intro w hSw; (try dsimp only at hSw); go_simp) <;> with_reducible rfl
        (try simp only [List.getElem_toArray, List.getElem_cons_zero, List.getElem_cons_succ, Act.put, List.setIfInBounds_toArray, List.set_cons_zero, List.set_cons_succ])
        refine wpAnyH_ready (rs := [15]) (by kernel_rfl) (by simp) ?_
        refine AllReadyH.cons (o := _) rfl (fun K hK => ?_) AllReadyH.nil
        go_simp
        refine hK.out _ _ ?_ (fun hHeld => ?_)
        · ((try dsimp only); refine HC.out _ ?_; repeat (first | exact HKR.out | apply Keep.drew | apply Keep.alloc | refine Keep.setCell ?_ _ _ (fun _ => ⟨HV.out.ge, .inl rfl⟩)))
        clear hK K
        (try simp only [List.getElem_toArray, List.getElem_cons_zero, List.getElem_cons_succ, Act.put, List.setIfInBounds_toArray, List.set_cons_zero, List.set_cons_succ])
        refine wpAnyH_done (by kernel_rfl) ?_ _
        refine NoPanic.normal ?_
        go_wp2
        obtain ⟨w4, hw4⟩ : ∃ w4, w4 = w7.setCell ⟨b, 3, none⟩ (.slice ao7 (S.tests.length + 1) cap7) := ⟨_, rfl⟩
        have hch : Chg base w1 ⟨b, vb, vl, vc, .slice too S.tests.length tc, .slice no' S.notes.length nc'⟩ ⟨b, vb, vl, vc, .slice ao7 (S.tests.length + 1) cap7, .slice no' S.notes.length nc'⟩ (w7.setCell ⟨b, 3, none⟩ (.slice ao7 (S.tests.length + 1) cap7)) := by
          refine ⟨rfl, rfl, fun k hk => ?_, ((HK12.out.drew.mono (fun _ _ h => h.elim)).trans (HA.out.keep.mono (T := fun k => base ≤ k ∧ StV.fp ⟨b, vb, vl, vc, .slice too S.tests.length tc, .slice no' S.notes.length nc'⟩ k) (fun k _ e => ⟨H6.out.fp_ge.2.2.1 k e, .inr (.inr (.inr (.inr (.inl e))))⟩)) (fun _ _ h => h)).setCell _ _ (fun _ => ⟨H1.out.ge, .inl rfl⟩)⟩
          rcases hk with e | e | e | e | e | e
          · exact .inl (.inl e)
          · exact .inl (.inr (.inl e))
          · exact .inl (.inr (.inr (.inl e)))
          · exact .inl (.inr (.inr (.inr (.inl e))))
          · rcases HA.out.fresh with h1 | ⟨g, h1, h2⟩
            · exact .inl (.inr (.inr (.inr (.inr (.inl (h1.symm.trans e))))))
            · have h3 : g = k := Option.some.inj (h1.symm.trans e)
              have h4 := HK12.out.size
              have h5 : w2.heap.size ≤ g := h2
              exact .inr (by omega)
          · exact .inl (.inr (.inr (.inr (.inr (.inr e)))))
        have HC4 := Lib.hid ((Chg.before (HK0.out.trans HK01.out (fun _ _ h => h)) hch))
        have hkw4 := HKR.out.setCell ⟨b, 3, none⟩ (.slice ao7 (S.tests.length + 1) cap7) (fun _ => ⟨HV.out.ge, .inl rfl⟩)
        have H4 := H7
        rw [← hw4] at H4 HC4 hkw4
        rw [← hw4]
        have HKW4 := Lib.hid hkw4
        clear H7 hw4 d3 f3 hch hkw4
        have d4 := H4.out.blk.cell 4
        simp [StV.cells] at d4
        have HG4 := Lib.hid (hG.keep HC4.out.keep (fun i hi e => by have := e.1; omega))
        have HIT : Hid (∀ W, Keep (fun _ => False) w4 W → Calls Tryz.prog 64 #[.int .i64 x] W (ItoaPost W x)) := Lib.hid fun W hk => itoa_any (HG4.out.glob.keep hk) HX.out.1 HX.out.2
        have HKR3 : Hid (Keep (fun _ => False) w4 w4.drew) := Lib.hid (Keep.refl _ _).drew
        have HKR2 : Hid (Keep (fun k => k = b ∨ (Value.slice no' S.notes.length nc').ownBlock = some k) w4 w4.drew) := Lib.hid (Keep.refl _ _).drew
        have HC2 : Hid (∀ W, Keep (fun k => k = b ∨ (Value.slice no' S.notes.length nc').ownBlock = some k) w4 W → (fun W => W.cell? ⟨w.heap.size, 0, none⟩ = some (.slice (some ⟨nb, no, none⟩) 1 nc) ∧ W.cell? ⟨w.heap.size, 1, none⟩ = some (.string word) ∧ W.cell? ⟨nb, no, none⟩ = some (.int .i64 x)) W) := Lib.hid fun W hk => HC.out W (HKW4.out.trans hk (fun k _ e => e.elim (fun e => ⟨e ▸ HV.out.ge, .inl e⟩) (fun e => ⟨HV.out.fp_ge.2.2.2 k e, .inr (.inr (.inr (.inr (.inr e))))⟩)))
        refine wp_region_noPanic ?_
        refine wp_region_held_drew (S := fun W => W.cell? ⟨w.heap.size, 0, none⟩ = some (.slice (some ⟨nb, no, none⟩) 1 nc) ∧ W.cell? ⟨w.heap.size, 1, none⟩ = some (.string word) ∧ W.cell? ⟨nb, no, none⟩ = some (.int .i64 x)) (by kernel_rfl) (HC2.out _ HKR2.out) (fun hHeld => ?_)
        refine wpAnyH_take (i := 0) (oi := _) (v := ?_) rfl (by kernel_rfl) (by kernel_rfl) (by kernel_rfl) (fun _ _ _ h => h) (Or.inl ⟨by rfl, ?_⟩) (by assumption) ?_
        rotate_left
        · (intro w hSw; (try dsimp only at hSw); go_simp) <;> with_reducible rfl
        (try simp only [List.getElem_toArray, List.getElem_cons_zero, List.getElem_cons_succ, Act.put, List.setIfInBounds_toArray, List.set_cons_zero, List.set_cons_succ])
        refine wpAnyH_take (i := 1) (oi := _) (v := ?_) rfl (by kernel_rfl) (by kernel_rfl) (by kernel_rfl) (fun _ _ _ h => h) (Or.inl ⟨by rfl, ?_⟩) (by assumption) ?_
        rotate_left
        · (intro w hSw; (try dsimp only at hSw); go_simp) <;> with_reducible rfl
        (try simp only [List.getElem_toArray, List.getElem_cons_zero, List.getElem_cons_succ, Act.put, List.setIfInBounds_toArray, List.set_cons_zero, List.set_cons_succ])
        refine wpAnyH_take (i := 2) (oi := _) (v := ?_) rfl (by kernel_rfl) (by kernel_rfl) (by kernel_rfl) (fun _ _ _ h => h) (Or.inl ⟨by rfl, ?_⟩) (by assumption) ?_
        rotate_left
        · (intro w hSw; (try dsimp only at hSw); go_simp) <;> with_reducible rfl
        (try simp only [List.getElem_toArray, List.getElem_cons_zero, List.getElem_cons_succ, Act.put, List.setIfInBounds_toArray, List.set_cons_zero, List.set_cons_succ])
        refine wpAnyH_take (i := 3) (oi := _) (v := ?_) rfl (by kernel_rfl) (by kernel_rfl) (by kernel_rfl) (fun _ _ _ h => h) (Or.inl ⟨by rfl, ?_⟩) (by assumption) ?_
        rotate_left
        · (intro w hSw; (try dsimp only at hSw); go_simp) <;> with_reducible rfl
        (try simp only [List.getElem_toArray, List.getElem_cons_zero, List.getElem_cons_succ, Act.put, List.setIfInBounds_toArray, List.set_cons_zero, List.set_cons_succ])
        refine wpAnyH_take (i := 5) (oi := _) (v := ?_) rfl (by kernel_rfl) (by kernel_rfl) (by kernel_rfl) (fun _ _ _ h => h) (Or.inl ⟨by rfl, ?_⟩) (by assumption) ?_
        rotate_left
        · (intro w hSw; (try dsimp only at hSw); go_simp) <;> with_reducible rfl
        (try simp only [List.getElem_toArray, List.getElem_cons_zero, List.getElem_cons_succ, Act.put, List.setIfInBounds_toArray, List.set_cons_zero, List.set_cons_succ])
        refine wpAnyH_take (i := 6) (oi := _) (v := ?_) rfl (by kernel_rfl) (by kernel_rfl) (by kernel_rfl) (fun _ _ _ h => h) (Or.inl ⟨by rfl, ?_⟩) (by assumption) ?_
        rotate_left
        · (intro w hSw; (try dsimp only at hSw); go_simp) <;> with_reducible rfl
        (try simp only [List.getElem_toArray, List.getElem_cons_zero, List.getElem_cons_succ, Act.put, List.setIfInBounds_toArray, List.set_cons_zero, List.set_cons_succ])
        refine wpAnyH_take (i := 7) (oi := _) (v := ?_) rfl (by kernel_rfl) (by kernel_rfl) (by kernel_rfl) (fun _ _ _ h => h) (Or.inl ⟨by rfl, ?_⟩) (by assumption) ?_
        rotate_left
        · (intro w hSw; (try dsimp only at hSw); go_simp) <;> with_reducible rfl
        (try simp only [List.getElem_toArray, List.getElem_cons_zero, List.getElem_cons_succ, Act.put, List.setIfInBounds_toArray, List.set_cons_zero, List.set_cons_succ])
        refine wpAnyH_take (i := 8) (oi := _) (v := ?_) rfl (by kernel_rfl) (by kernel_rfl) (by kernel_rfl) (fun _ _ _ h => h) (Or.inl ⟨by rfl, ?_⟩) (by assumption) ?_
        rotate_left
        · (intro w hSw; (try dsimp only at hSw); go_simp) <;> with_reducible rfl
        (try simp only [List.getElem_toArray, List.getElem_cons_zero, List.getElem_cons_succ, Act.put, List.setIfInBounds_toArray, List.set_cons_zero, List.set_cons_succ])
        refine wpAnyH_take (i := 12) (oi := _) (v := ?_) rfl (by kernel_rfl) (by kernel_rfl) (by kernel_rfl) (fun _ _ _ h => h) (Or.inl ⟨by rfl, ?_⟩) (by assumption) ?_
        rotate_left
        · (intro w hSw; (try dsimp only at hSw); go_simp) <;> with_reducible rfl
        (try simp only [List.getElem_toArray, List.getElem_cons_zero, List.getElem_cons_succ, Act.put, List.setIfInBounds_toArray, List.set_cons_zero, List.set_cons_succ])
        refine wpAnyH_take (i := 13) (oi := _) (v := ?_) rfl (by kernel_rfl) (by kernel_rfl) (by kernel_rfl) (fun _ _ _ h => h) (Or.inl ⟨by rfl, ?_⟩) (by assumption) ?_
        rotate_left
        · (intro w hSw; (try dsimp only at hSw); go_simp) <;> with_reducible rfl
        (try simp only [List.getElem_toArray, List.getElem_cons_zero, List.getElem_cons_succ, Act.put, List.setIfInBounds_toArray, List.set_cons_zero, List.set_cons_succ])
        refine wpAnyH_ready (rs := [4, 9]) (by kernel_rfl) (by simp) ?_
        refine AllReadyH.cons (o := _) rfl (fun K hK => ?_) (AllReadyH.cons (o := _) rfl (fun K hK => ?_) AllReadyH.nil)
        · go_simp
          refine hK.out _ _ ?_ (fun hHeld => ?_)
          · ((try dsimp only); refine HC2.out _ ?_; repeat (first | exact HKR2.out | apply Keep.drew | apply Keep.alloc | refine Keep.setCell ?_ _ _ (fun _ => .inl rfl)))
          clear hK K
          (try simp only [List.getElem_toArray, List.getElem_cons_zero, List.getElem_cons_succ, Act.put, List.setIfInBounds_toArray, List.set_cons_zero, List.set_cons_succ])
          refine wpAnyH_ready (rs := [9]) (by kernel_rfl) (by simp) ?_
          refine AllReadyH.cons (o := _) rfl (fun K hK => ?_) AllReadyH.nil
          go_simp
          refine Calls.mono (HIT.out _ HKR3.out) ?_
          rintro e Wc ⟨rfl, hkc⟩
          have HKR3 := Lib.hid (HKR3.out.trans hkc (fun _ _ h => h))
          have HKR2 := Lib.hid (HKR3.out.mono (T := fun k => k = b ∨ (Value.slice no' S.notes.length nc').ownBlock = some k) (fun _ _ h => h.elim))
          have d4 := (H4.out.keep HKR3.out (fun _ _ h => h)).blk.cell 4
          simp [StV.cells] at d4
          have hlt4 : b < Wc.heap.size := (H4.out.keep HKR3.out (fun _ _ h => h)).blk.lt
          clear hkc
          (try dsimp only)
          refine hK.out _ _ ?_ (fun hHeld => ?_)
          · ((try dsimp only); refine HC2.out _ ?_; repeat (first | exact HKR2.out | apply Keep.drew | apply Keep.alloc | refine Keep.setCell ?_ _ _ (fun _ => .inl rfl)))
          clear hK K
          (try simp only [List.getElem_toArray, List.getElem_cons_zero, List.getElem_cons_succ, Act.put, List.setIfInBounds_toArray, List.set_cons_zero, List.set_cons_succ])
          refine wpAnyH_take (i := 10) (oi := _) (v := ?_) rfl (by kernel_rfl) (by kernel_rfl) (by kernel_rfl) (fun _ _ _ h => h) (Or.inl ⟨by rfl, ?_⟩) (by assumption) ?_
          rotate_left
          · (intro w hSw; (try dsimp only at hSw); go_simp) <;> with_reducible rfl
          (try simp only [List.getElem_toArray, List.getElem_cons_zero, List.getElem_cons_succ, Act.put, List.setIfInBounds_toArray, List.set_cons_zero, List.set_cons_succ])
          refine wpAnyH_take (i := 11) (oi := _) (v := ?_) rfl (by kernel_rfl) (by kernel_rfl) (by kernel_rfl) (fun _ _ _ h => h) (Or.inl ⟨by rfl, ?_⟩) (by assumption) ?_
          rotate_left
          · (intro w hSw; (try dsimp only at hSw); go_simp) <;> with_reducible rfl
          (try simp only [List.getElem_toArray, List.getElem_cons_zero, List.getElem_cons_succ, Act.put, List.setIfInBounds_toArray, List.set_cons_zero, List.set_cons_succ])
          refine wpAnyH_take (i := 14) (oi := _) (v := ?_) rfl (by kernel_rfl) (by kernel_rfl) (by kernel_rfl) (fun _ _ _ h => h) (Or.inl ⟨by rfl, ?_⟩) (by assumption) ?_
          rotate_left
          · (intro w hSw; (try dsimp only at hSw); go_simp) <;> with_reducible rfl
          (try simp only [List.getElem_toArray, List.getElem_cons_zero, List.getElem_cons_succ, Act.put, List.setIfInBounds_toArray, List.set_cons_zero, List.set_cons_succ])
          refine wpAnyH_ready (rs := [15]) (by kernel_rfl) (by simp) ?_
          refine AllReadyH.cons (o := _) rfl (fun K hK => ?_) AllReadyH.nil
          go_simp
          refine hK.out _ _ ?_ (fun hHeld => ?_)
          · ((try dsimp only); refine HC2.out _ ?_; repeat (first | exact HKR2.out | apply Keep.drew | apply Keep.alloc | refine Keep.setCell ?_ _ _ (fun _ => .inl rfl)))
          clear hK K
          (try simp only [List.getElem_toArray, List.getElem_cons_zero, List.getElem_cons_succ, Act.put, List.setIfInBounds_toArray, List.set_cons_zero, List.set_cons_succ])
          refine wpAnyH_ready (rs := [16]) (by kernel_rfl) (by simp) ?_
          refine AllReadyH.cons (o := _) rfl (fun K hK => ?_) AllReadyH.nil
          rw [if_pos (by rfl)]
          have ho6 : (Wc.alloc (.cells #[.string (testNote x word)] 9)).ownsRow base 9 1 (.slice no' S.notes.length nc') S.notes.length (strCells S.notes) := ownsRow_keep (H4.out.on) (HKR3.out.alloc (.cells #[.string (testNote x word)] 9)) (fun _ _ h => h)
          refine oper_app (.tmp 37) (.tmp 48) 24 24 rfl 9 (.string ⟨#[]⟩) 1 16 Tryz.underlying24 info9 rfl ho6 rfl ((Rd.new Wc 1 1 [.string (testNote x word)] 9 rfl (by simp [Value.oneCell']) (by unfold maxLen; omega)).src Tryz.underlying24) rfl (by unfold maxLen; omega) (by omega) (Nat.le_trans H4.out.lt (HKR3.out.alloc (.cells #[.string (testNote x word)] 9)).size) (fun v' w8 happ => ?_)
          obtain ⟨ao8, cap8, rfl, _⟩ := ownsRow_shape happ.own
          have h6 := H4.out.keep (HKR3.out.alloc (.cells #[.string (testNote x word)] 9)) (fun _ _ h => h)
          have h8 := h6.setNotes (w1 := w8) (v' := .slice ao8 (S.notes.length + 1) cap8) (ls := S.notes ++ [testNote x word]) happ.keep (by have := happ.own; simpa [strCells] using this) happ.fresh
          have hb8 := h6.blk.keep happ.keep h6.nne
          have d4 := hb8.cell 4
          have f4 := hb8.free 4
          simp [StV.cells] at d4 f4
          have HKR2 := Lib.hid (((HKR3.out.alloc (.cells #[.string (testNote x word)] 9)).mono (T := fun k => k = b ∨ (Value.slice no' S.notes.length nc').ownBlock = some k) (fun _ _ h => h.elim)).trans happ.keep (fun _ _ e => .inr e))
          have HB := Lib.hid happ
          have H5 := Lib.hid h6
          have H8 := Lib.hid h8
          clear happ h6 h8 hb8
          (try dsimp only)
          refine hK.out _ _ ?_ (fun hHeld => ?_)
          · ((try dsimp only); refine HC2.out _ ?_; repeat (first | exact HKR2.out | apply Keep.drew | apply Keep.alloc | refine Keep.setCell ?_ _ _ (fun _ => .inl rfl)))
          clear hK K
          (try simp only [List.getElem_toArray, List.getElem_cons_zero, List.getElem_cons_succ, Act.put, List.setIfInBounds_toArray, List.set_cons_zero, List.set_cons_succ])
          refine wpAnyH_take (i := 17) (oi := _) (v := ?_) rfl (by kernel_rfl) (by kernel_rfl) (by kernel_rfl) (fun _ _ _ h => h) (Or.inl ⟨by rfl, ?_⟩) (by assumption) ?_
          rotate_left
          · (intro w hSw; (try dsimp only at hSw); go_simp) <;> with_reducible rfl
          (try simp only [List.getElem_toArray, List.getElem_cons_zero, List.getElem_cons_succ, Act.put, List.setIfInBounds_toArray, List.set_cons_zero, List.set_cons_succ])
          refine wpAnyH_take (i := 18) (oi := _) (v := ?_) rfl (by kernel_rfl) (by kernel_rfl) (by kernel_rfl) (fun _ _ _ h => h) (Or.inl ⟨by rfl, ?_⟩) (by assumption) ?_
          rotate_left
          · (intro w hSw; (try dsimp only at hSw); go_simp) <;> with_reducible rfl
          (try simp only [List.getElem_toArray, List.getElem_cons_zero, List.getElem_cons_succ, Act.put, List.setIfInBounds_toArray, List.set_cons_zero, List.set_cons_succ])
          refine wpAnyH_ready (rs := [19]) (by kernel_rfl) (by simp) ?_
          refine AllReadyH.cons (o := _) rfl (fun K hK => ?_) AllReadyH.nil
          go_simp
          refine hK.out _ _ ?_ (fun hHeld => ?_)
          · ((try dsimp only); refine HC2.out _ ?_; repeat (first | exact HKR2.out | apply Keep.drew | apply Keep.alloc | refine Keep.setCell ?_ _ _ (fun _ => .inl rfl)))
          clear hK K
          (try simp only [List.getElem_toArray, List.getElem_cons_zero, List.getElem_cons_succ, Act.put, List.setIfInBounds_toArray, List.set_cons_zero, List.set_cons_succ])
          refine wpAnyH_done (by kernel_rfl) ?_ _
          refine NoPanic.normal ?_
          go_wp2
          go_ret2
          refine ⟨by rw [HF.out]; rfl, ⟨b, vb, vl, vc, .slice ao7 (S.tests.length + 1) cap7, .slice ao8 (S.notes.length + 1) cap8⟩, fun _ => by rw [HF.out]; exact H8.out, ?_⟩
          refine HC4.out.trans ⟨rfl, rfl, fun k hk => ?_, (HKR2.out.setCell _ _ (fun _ => .inl rfl)).mono (fun k _ e => e.elim (fun e => ⟨e ▸ H4.out.ge, .inl e⟩) (fun e => ⟨H4.out.fp_ge.2.2.2 k e, .inr (.inr (.inr (.inr (.inr e))))⟩))⟩
          rcases hk with e | e | e | e | e | e
          · exact .inl (.inl e)
          · exact .inl (.inr (.inl e))
          · exact .inl (.inr (.inr (.inl e)))
          · exact .inl (.inr (.inr (.inr (.inl e))))
          · exact .inl (.inr (.inr (.inr (.inr (.inl e)))))
          · rcases HB.out.fresh with h1 | ⟨g, h1, h2⟩
            · exact .inl (.inr (.inr (.inr (.inr (.inr (h1.symm.trans e))))))
            · have h3 : g = k := Option.some.inj (h1.symm.trans e)
              have h4 := (HKR3.out.alloc (.cells #[.string (testNote x word)] 9)).size
              have h5 : (Wc.alloc (.cells #[.string (testNote x word)] 9)).heap.size ≤ g := h2
              exact .inr (by omega)
        · go_simp
          refine Calls.mono (HIT.out _ HKR3.out) ?_
          rintro e Wc ⟨rfl, hkc⟩
          have HKR3 := Lib.hid (HKR3.out.trans hkc (fun _ _ h => h))
          have HKR2 := Lib.hid (HKR3.out.mono (T := fun k => k = b ∨ (Value.slice no' S.notes.length nc').ownBlock = some k) (fun _ _ h => h.elim))
          have d4 := (H4.out.keep HKR3.out (fun _ _ h => h)).blk.cell 4
          simp [StV.cells] at d4
          have hlt4 : b < Wc.heap.size := (H4.out.keep HKR3.out (fun _ _ h => h)).blk.lt
          clear hkc
          (try dsimp only)
          refine hK.out _ _ ?_ (fun hHeld => ?_)
          · ((try dsimp only); refine HC2.out _ ?_; repeat (first | exact HKR2.out | apply Keep.drew | apply Keep.alloc | refine Keep.setCell ?_ _ _ (fun _ => .inl rfl)))
          clear hK K
          (try simp only [List.getElem_toArray, List.getElem_cons_zero, List.getElem_cons_succ, Act.put, List.setIfInBounds_toArray, List.set_cons_zero, List.set_cons_succ])
          refine wpAnyH_take (i := 10) (oi := _) (v := ?_) rfl (by kernel_rfl) (by kernel_rfl) (by kernel_rfl) (fun _ _ _ h => h) (Or.inl ⟨by rfl, ?_⟩) (by assumption) ?_
          rotate_left
          · (intro w hSw; (try dsimp only at hSw); go_simp) <;> with_reducible rfl
          (try simp only [List.getElem_toArray, List.getElem_cons_zero, List.getElem_cons_succ, Act.put, List.setIfInBounds_toArray, List.set_cons_zero, List.set_cons_succ])
          refine wpAnyH_take (i := 11) (oi := _) (v := ?_) rfl (by kernel_rfl) (by kernel_rfl) (by kernel_rfl) (fun _ _ _ h => h) (Or.inl ⟨by rfl, ?_⟩) (by assumption) ?_
          rotate_left
          · (intro w hSw; (try dsimp only at hSw); go_simp) <;> with_reducible rfl
          (try simp only [List.getElem_toArray, List.getElem_cons_zero, List.getElem_cons_succ, Act.put, List.setIfInBounds_toArray, List.set_cons_zero, List.set_cons_succ])
          refine wpAnyH_take (i := 14) (oi := _) (v := ?_) rfl (by kernel_rfl) (by kernel_rfl) (by kernel_rfl) (fun _ _ _ h => h) (Or.inl ⟨by rfl, ?_⟩) (by assumption) ?_
          rotate_left
          · (intro w hSw; (try dsimp only at hSw); go_simp) <;> with_reducible rfl
          (try simp only [List.getElem_toArray, List.getElem_cons_zero, List.getElem_cons_succ, Act.put, List.setIfInBounds_toArray, List.set_cons_zero, List.set_cons_succ])
          refine wpAnyH_ready (rs := [4, 15]) (by kernel_rfl) (by simp) ?_
          refine AllReadyH.cons (o := _) rfl (fun K hK => ?_) (AllReadyH.cons (o := _) rfl (fun K hK => ?_) AllReadyH.nil)
          · go_simp
            refine hK.out _ _ ?_ (fun hHeld => ?_)
            · ((try dsimp only); refine HC2.out _ ?_; repeat (first | exact HKR2.out | apply Keep.drew | apply Keep.alloc | refine Keep.setCell ?_ _ _ (fun _ => .inl rfl)))
            clear hK K
            (try simp only [List.getElem_toArray, List.getElem_cons_zero, List.getElem_cons_succ, Act.put, List.setIfInBounds_toArray, List.set_cons_zero, List.set_cons_succ])
            refine wpAnyH_ready (rs := [15]) (by kernel_rfl) (by simp) ?_
            refine AllReadyH.cons (o := _) rfl (fun K hK => ?_) AllReadyH.nil
            go_simp
            refine hK.out _ _ ?_ (fun hHeld => ?_)
            · ((try dsimp only); refine HC2.out _ ?_; repeat (first | exact HKR2.out | apply Keep.drew | apply Keep.alloc | refine Keep.setCell ?_ _ _ (fun _ => .inl rfl)))
            clear hK K
            (try simp only [List.getElem_toArray, List.getElem_cons_zero, List.getElem_cons_succ, Act.put, List.setIfInBounds_toArray, List.set_cons_zero, List.set_cons_succ])
            refine wpAnyH_ready (rs := [16]) (by kernel_rfl) (by simp) ?_
            refine AllReadyH.cons (o := _) rfl (fun K hK => ?_) AllReadyH.nil
            rw [if_pos (by rfl)]
            have ho6 : (Wc.alloc (.cells #[.string (testNote x word)] 9)).ownsRow base 9 1 (.slice no' S.notes.length nc') S.notes.length (strCells S.notes) := ownsRow_keep (H4.out.on) (HKR3.out.alloc (.cells #[.string (testNote x word)] 9)) (fun _ _ h => h)
            refine oper_app (.tmp 37) (.tmp 48) 24 24 rfl 9 (.string ⟨#[]⟩) 1 16 Tryz.underlying24 info9 rfl ho6 rfl ((Rd.new Wc 1 1 [.string (testNote x word)] 9 rfl (by simp [Value.oneCell']) (by unfold maxLen; omega)).src Tryz.underlying24) rfl (by unfold maxLen; omega) (by omega) (Nat.le_trans H4.out.lt (HKR3.out.alloc (.cells #[.string (testNote x word)] 9)).size) (fun v' w8 happ => ?_)
            obtain ⟨ao8, cap8, rfl, _⟩ := ownsRow_shape happ.own
            have h6 := H4.out.keep (HKR3.out.alloc (.cells #[.string (testNote x word)] 9)) (fun _ _ h => h)
            have h8 := h6.setNotes (w1 := w8) (v' := .slice ao8 (S.notes.length + 1) cap8) (ls := S.notes ++ [testNote x word]) happ.keep (by have := happ.own; simpa [strCells] using this) happ.fresh
            have hb8 := h6.blk.keep happ.keep h6.nne
            have d4 := hb8.cell 4
            have f4 := hb8.free 4
            simp [StV.cells] at d4 f4
            have HKR2 := Lib.hid (((HKR3.out.alloc (.cells #[.string (testNote x word)] 9)).mono (T := fun k => k = b ∨ (Value.slice no' S.notes.length nc').ownBlock = some k) (fun _ _ h => h.elim)).trans happ.keep (fun _ _ e => .inr e))
            have HB := Lib.hid happ
            have H5 := Lib.hid h6
            have H8 := Lib.hid h8
            clear happ h6 h8 hb8
            (try dsimp only)
            refine hK.out _ _ ?_ (fun hHeld => ?_)
            · ((try dsimp only); refine HC2.out _ ?_; repeat (first | exact HKR2.out | apply Keep.drew | apply Keep.alloc | refine Keep.setCell ?_ _ _ (fun _ => .inl rfl)))
            clear hK K
            (try simp only [List.getElem_toArray, List.getElem_cons_zero, List.getElem_cons_succ, Act.put, List.setIfInBounds_toArray, List.set_cons_zero, List.set_cons_succ])
            refine wpAnyH_take (i := 17) (oi := _) (v := ?_) rfl (by kernel_rfl) (by kernel_rfl) (by kernel_rfl) (fun _ _ _ h => h) (Or.inl ⟨by rfl, ?_⟩) (by assumption) ?_
            rotate_left
            · (intro w hSw; (try dsimp only at hSw); go_simp) <;> with_reducible rfl
            (try simp only [List.getElem_toArray, List.getElem_cons_zero, List.getElem_cons_succ, Act.put, List.setIfInBounds_toArray, List.set_cons_zero, List.set_cons_succ])
            refine wpAnyH_take (i := 18) (oi := _) (v := ?_) rfl (by kernel_rfl) (by kernel_rfl) (by kernel_rfl) (fun _ _ _ h => h) (Or.inl ⟨by rfl, ?_⟩) (by assumption) ?_
            rotate_left
            · (intro w hSw; (try dsimp only at hSw); go_simp) <;> with_reducible rfl
            (try simp only [List.getElem_toArray, List.getElem_cons_zero, List.getElem_cons_succ, Act.put, List.setIfInBounds_toArray, List.set_cons_zero, List.set_cons_succ])
            refine wpAnyH_ready (rs := [19]) (by kernel_rfl) (by simp) ?_
            refine AllReadyH.cons (o := _) rfl (fun K hK => ?_) AllReadyH.nil
            go_simp
            refine hK.out _ _ ?_ (fun hHeld => ?_)
            · ((try dsimp only); refine HC2.out _ ?_; repeat (first | exact HKR2.out | apply Keep.drew | apply Keep.alloc | refine Keep.setCell ?_ _ _ (fun _ => .inl rfl)))
            clear hK K
            (try simp only [List.getElem_toArray, List.getElem_cons_zero, List.getElem_cons_succ, Act.put, List.setIfInBounds_toArray, List.set_cons_zero, List.set_cons_succ])
            refine wpAnyH_done (by kernel_rfl) ?_ _
            refine NoPanic.normal ?_
            go_wp2
            go_ret2
            refine ⟨by rw [HF.out]; rfl, ⟨b, vb, vl, vc, .slice ao7 (S.tests.length + 1) cap7, .slice ao8 (S.notes.length + 1) cap8⟩, fun _ => by rw [HF.out]; exact H8.out, ?_⟩
            refine HC4.out.trans ⟨rfl, rfl, fun k hk => ?_, (HKR2.out.setCell _ _ (fun _ => .inl rfl)).mono (fun k _ e => e.elim (fun e => ⟨e ▸ H4.out.ge, .inl e⟩) (fun e => ⟨H4.out.fp_ge.2.2.2 k e, .inr (.inr (.inr (.inr (.inr e))))⟩))⟩
            rcases hk with e | e | e | e | e | e
            · exact .inl (.inl e)
            · exact .inl (.inr (.inl e))
            · exact .inl (.inr (.inr (.inl e)))
            · exact .inl (.inr (.inr (.inr (.inl e))))
            · exact .inl (.inr (.inr (.inr (.inr (.inl e)))))
            · rcases HB.out.fresh with h1 | ⟨g, h1, h2⟩
              · exact .inl (.inr (.inr (.inr (.inr (.inr (h1.symm.trans e))))))
              · have h3 : g = k := Option.some.inj (h1.symm.trans e)
                have h4 := (HKR3.out.alloc (.cells #[.string (testNote x word)] 9)).size
                have h5 : (Wc.alloc (.cells #[.string (testNote x word)] 9)).heap.size ≤ g := h2
                exact .inr (by omega)
          · go_simp
            refine hK.out _ _ ?_ (fun hHeld => ?_)
            · ((try dsimp only); refine HC2.out _ ?_; repeat (first | exact HKR2.out | apply Keep.drew | apply Keep.alloc | refine Keep.setCell ?_ _ _ (fun _ => .inl rfl)))
            clear hK K
            (try simp only [List.getElem_toArray, List.getElem_cons_zero, List.getElem_cons_succ, Act.put, List.setIfInBounds_toArray, List.set_cons_zero, List.set_cons_succ])
            refine wpAnyH_ready (rs := [4]) (by kernel_rfl) (by simp) ?_
            refine AllReadyH.cons (o := _) rfl (fun K hK => ?_) AllReadyH.nil
            go_simp
            refine hK.out _ _ ?_ (fun hHeld => ?_)
            · ((try dsimp only); refine HC2.out _ ?_; repeat (first | exact HKR2.out | apply Keep.drew | apply Keep.alloc | refine Keep.setCell ?_ _ _ (fun _ => .inl rfl)))
            clear hK K
            (try simp only [List.getElem_toArray, List.getElem_cons_zero, List.getElem_cons_succ, Act.put, List.setIfInBounds_toArray, List.set_cons_zero, List.set_cons_succ])
            refine wpAnyH_ready (rs := [16]) (by kernel_rfl) (by simp) ?_
            refine AllReadyH.cons (o := _) rfl (fun K hK => ?_) AllReadyH.nil
            rw [if_pos (by rfl)]
            have ho6 : (Wc.alloc (.cells #[.string (testNote x word)] 9)).ownsRow base 9 1 (.slice no' S.notes.length nc') S.notes.length (strCells S.notes) := ownsRow_keep (H4.out.on) (HKR3.out.alloc (.cells #[.string (testNote x word)] 9)) (fun _ _ h => h)
            refine oper_app (.tmp 37) (.tmp 48) 24 24 rfl 9 (.string ⟨#[]⟩) 1 16 Tryz.underlying24 info9 rfl ho6 rfl ((Rd.new Wc 1 1 [.string (testNote x word)] 9 rfl (by simp [Value.oneCell']) (by unfold maxLen; omega)).src Tryz.underlying24) rfl (by unfold maxLen; omega) (by omega) (Nat.le_trans H4.out.lt (HKR3.out.alloc (.cells #[.string (testNote x word)] 9)).size) (fun v' w8 happ => ?_)
            obtain ⟨ao8, cap8, rfl, _⟩ := ownsRow_shape happ.own
            have h6 := H4.out.keep (HKR3.out.alloc (.cells #[.string (testNote x word)] 9)) (fun _ _ h => h)
            have h8 := h6.setNotes (w1 := w8) (v' := .slice ao8 (S.notes.length + 1) cap8) (ls := S.notes ++ [testNote x word]) happ.keep (by have := happ.own; simpa [strCells] using this) happ.fresh
            have hb8 := h6.blk.keep happ.keep h6.nne
            have d4 := hb8.cell 4
            have f4 := hb8.free 4
            simp [StV.cells] at d4 f4
            have HKR2 := Lib.hid (((HKR3.out.alloc (.cells #[.string (testNote x word)] 9)).mono (T := fun k => k = b ∨ (Value.slice no' S.notes.length nc').ownBlock = some k) (fun _ _ h => h.elim)).trans happ.keep (fun _ _ e => .inr e))
            have HB := Lib.hid happ
            have H5 := Lib.hid h6
            have H8 := Lib.hid h8
            clear happ h6 h8 hb8
            (try dsimp only)
            refine hK.out _ _ ?_ (fun hHeld => ?_)
            · ((try dsimp only); refine HC2.out _ ?_; repeat (first | exact HKR2.out | apply Keep.drew | apply Keep.alloc | refine Keep.setCell ?_ _ _ (fun _ => .inl rfl)))
            clear hK K
            (try simp only [List.getElem_toArray, List.getElem_cons_zero, List.getElem_cons_succ, Act.put, List.setIfInBounds_toArray, List.set_cons_zero, List.set_cons_succ])
            refine wpAnyH_take (i := 17) (oi := _) (v := ?_) rfl (by kernel_rfl) (by kernel_rfl) (by kernel_rfl) (fun _ _ _ h => h) (Or.inl ⟨by rfl, ?_⟩) (by assumption) ?_
            rotate_left
            · (intro w hSw; (try dsimp only at hSw); go_simp) <;> with_reducible rfl
            (try simp only [List.getElem_toArray, List.getElem_cons_zero, List.getElem_cons_succ, Act.put, List.setIfInBounds_toArray, List.set_cons_zero, List.set_cons_succ])
            refine wpAnyH_take (i := 18) (oi := _) (v := ?_) rfl (by kernel_rfl) (by kernel_rfl) (by kernel_rfl) (fun _ _ _ h => h) (Or.inl ⟨by rfl, ?_⟩) (by assumption) ?_
            rotate_left
            · (intro w hSw; (try dsimp only at hSw); go_simp) <;> with_reducible rfl
            (try simp only [List.getElem_toArray, List.getElem_cons_zero, List.getElem_cons_succ, Act.put, List.setIfInBounds_toArray, List.set_cons_zero, List.set_cons_succ])
            refine wpAnyH_ready (rs := [19]) (by kernel_rfl) (by simp) ?_
            refine AllReadyH.cons (o := _) rfl (fun K hK => ?_) AllReadyH.nil
            go_simp
            refine hK.out _ _ ?_ (fun hHeld => ?_)
            · ((try dsimp only); refine HC2.out _ ?_; repeat (first | exact HKR2.out | apply Keep.drew | apply Keep.alloc | refine Keep.setCell ?_ _ _ (fun _ => .inl rfl)))
            clear hK K
            (try simp only [List.getElem_toArray, List.getElem_cons_zero, List.getElem_cons_succ, Act.put, List.setIfInBounds_toArray, List.set_cons_zero, List.set_cons_succ])
            refine wpAnyH_done (by kernel_rfl) ?_ _
            refine NoPanic.normal ?_
            go_wp2
            go_ret2
            refine ⟨by rw [HF.out]; rfl, ⟨b, vb, vl, vc, .slice ao7 (S.tests.length + 1) cap7, .slice ao8 (S.notes.length + 1) cap8⟩, fun _ => by rw [HF.out]; exact H8.out, ?_⟩
            refine HC4.out.trans ⟨rfl, rfl, fun k hk => ?_, (HKR2.out.setCell _ _ (fun _ => .inl rfl)).mono (fun k _ e => e.elim (fun e => ⟨e ▸ H4.out.ge, .inl e⟩) (fun e => ⟨H4.out.fp_ge.2.2.2 k e, .inr (.inr (.inr (.inr (.inr e))))⟩))⟩
            rcases hk with e | e | e | e | e | e
            · exact .inl (.inl e)
            · exact .inl (.inr (.inl e))
            · exact .inl (.inr (.inr (.inl e)))
            · exact .inl (.inr (.inr (.inr (.inl e))))
            · exact .inl (.inr (.inr (.inr (.inr (.inl e)))))
            · rcases HB.out.fresh with h1 | ⟨g, h1, h2⟩
              · exact .inl (.inr (.inr (.inr (.inr (.inr (h1.symm.trans e))))))
              · have h3 : g = k := Option.some.inj (h1.symm.trans e)
                have h4 := (HKR3.out.alloc (.cells #[.string (testNote x word)] 9)).size
                have h5 : (Wc.alloc (.cells #[.string (testNote x word)] 9)).heap.size ≤ g := h2
                exact .inr (by omega)
      · go_simp
        refine hK.out _ _ ?_ (fun hHeld => ?_)
        · ((try dsimp only); refine HC.out _ ?_; repeat (first | exact HKR.out | apply Keep.drew | apply Keep.alloc | refine Keep.setCell ?_ _ _ (fun _ => ⟨HV.out.ge, .inl rfl⟩)))
        clear hK K
        (try simp only [List.getElem_toArray, List.getElem_cons_zero, List.getElem_cons_succ, Act.put, List.setIfInBounds_toArray, List.set_cons_zero, List.set_cons_succ])
        refine wpAnyH_ready (rs := [4]) (by kernel_rfl) (by simp) ?_
        refine AllReadyH.cons (o := _) rfl (fun K hK => ?_) AllReadyH.nil
        go_simp
        refine hK.out _ _ ?_ (fun hHeld => ?_)
        · ((try dsimp only); refine HC.out _ ?_; repeat (first | exact HKR.out | apply Keep.drew | apply Keep.alloc | refine Keep.setCell ?_ _ _ (fun _ => ⟨HV.out.ge, .inl rfl⟩)))
        clear hK K
        (try simp only [List.getElem_toArray, List.getElem_cons_zero, List.getElem_cons_succ, Act.put, List.setIfInBounds_toArray, List.set_cons_zero, List.set_cons_succ])
        refine wpAnyH_ready (rs := [12]) (by kernel_rfl) (by simp) ?_
        refine AllReadyH.cons (o := _) rfl (fun K hK => ?_) AllReadyH.nil
        rw [if_pos (by rfl)]
        rw [← HW2.out]
        refine oper_app (w := w2.drew) (.tmp 22) (.tmp 29) 88 88 rfl 127 zPair 2 16 Tryz.underlying88 info176 rfl HOT.out rfl HST.out rfl (by unfold maxLen; omega) (by omega) (Nat.le_trans H1.out.lt HK12.out.size) (fun v' w7 happ => ?_)
        obtain ⟨ao7, cap7, rfl, _⟩ := ownsRow_shape happ.own
        have h6 := H1.out.keep HK12.out.drew (fun _ _ h => h)
        have h7 := h6.setTests (w1 := w7) (v' := .slice ao7 (S.tests.length + 1) cap7) (ls := S.tests ++ [(x, gd)]) happ.keep (by have := happ.own; simpa [pairCells, pairCell] using this) happ.fresh
        have hb7 := h6.blk.keep happ.keep h6.tne
        have d3 := hb7.cell 3
        have f3 := hb7.free 3
        simp [StV.cells] at d3 f3
        have HKR := Lib.hid (((HK01.out.trans HK12.out.drew (fun _ _ h => h)).mono (T := fun k => base ≤ k ∧ StV.fp ⟨b, vb, vl, vc, .slice too S.tests.length tc, .slice no' S.notes.length nc'⟩ k) (fun _ _ h => h.elim)).trans happ.keep (fun k _ e => ⟨h6.fp_ge.2.2.1 k e, .inr (.inr (.inr (.inr (.inl e))))⟩))
        have HA := Lib.hid happ
        have H6 := Lib.hid h6
        have H7 := Lib.hid h7
        clear happ h6 h7 hb7
        (try dsimp only)
        refine hK.out _ _ ?_ (fun hHeld => ?_)
        · ((try dsimp only); refine HC.out _ ?_; repeat (first | exact HKR.out | apply Keep.drew | apply Keep.alloc | refine Keep.setCell ?_ _ _ (fun _ => ⟨HV.out.ge, .inl rfl⟩)))
        clear hK K
        (try simp only [List.getElem_toArray, List.getElem_cons_zero, List.getElem_cons_succ, Act.put, List.setIfInBounds_toArray, List.set_cons_zero, List.set_cons_succ])
        refine wpAnyH_take (i := 13) (oi := _) (v := ?_) rfl (by kernel_rfl) (by kernel_rfl) (by kernel_rfl) (fun _ _ _ h => h) (Or.inl ⟨by rfl, ?_⟩) (by assumption) ?_
        rotate_left
        · (intro w hSw; (try dsimp only at hSw); go_simp) <;> with_reducible rfl
        (try simp only [List.getElem_toArray, List.getElem_cons_zero, List.getElem_cons_succ, Act.put, List.setIfInBounds_toArray, List.set_cons_zero, List.set_cons_succ])
        refine wpAnyH_take (i := 14) (oi := _) (v := ?_) rfl (by kernel_rfl) (by kernel_rfl) (by kernel_rfl) (fun _ _ _ h => h) (Or.inl ⟨by rfl, ?_⟩) (by assumption) ?_
        rotate_left
        · (intro w hSw; (try dsimp only at hSw); go_simp) <;> with_reducible rfl
        (try simp only [List.getElem_toArray, List.getElem_cons_zero, List.getElem_cons_succ, Act.put, List.setIfInBounds_toArray, List.set_cons_zero, List.set_cons_succ])
        refine wpAnyH_ready (rs := [15]) (by kernel_rfl) (by simp) ?_
        refine AllReadyH.cons (o := _) rfl (fun K hK => ?_) AllReadyH.nil
        go_simp
        refine hK.out _ _ ?_ (fun hHeld => ?_)
        · ((try dsimp only); refine HC.out _ ?_; repeat (first | exact HKR.out | apply Keep.drew | apply Keep.alloc | refine Keep.setCell ?_ _ _ (fun _ => ⟨HV.out.ge, .inl rfl⟩)))
        clear hK K
        (try simp only [List.getElem_toArray, List.getElem_cons_zero, List.getElem_cons_succ, Act.put, List.setIfInBounds_toArray, List.set_cons_zero, List.set_cons_succ])
        refine wpAnyH_done (by kernel_rfl) ?_ _
        refine NoPanic.normal ?_
        go_wp2
        obtain ⟨w4, hw4⟩ : ∃ w4, w4 = w7.setCell ⟨b, 3, none⟩ (.slice ao7 (S.tests.length + 1) cap7) := ⟨_, rfl⟩
        have hch : Chg base w1 ⟨b, vb, vl, vc, .slice too S.tests.length tc, .slice no' S.notes.length nc'⟩ ⟨b, vb, vl, vc, .slice ao7 (S.tests.length + 1) cap7, .slice no' S.notes.length nc'⟩ (w7.setCell ⟨b, 3, none⟩ (.slice ao7 (S.tests.length + 1) cap7)) := by
          refine ⟨rfl, rfl, fun k hk => ?_, ((HK12.out.drew.mono (fun _ _ h => h.elim)).trans (HA.out.keep.mono (T := fun k => base ≤ k ∧ StV.fp ⟨b, vb, vl, vc, .slice too S.tests.length tc, .slice no' S.notes.length nc'⟩ k) (fun k _ e => ⟨H6.out.fp_ge.2.2.1 k e, .inr (.inr (.inr (.inr (.inl e))))⟩)) (fun _ _ h => h)).setCell _ _ (fun _ => ⟨H1.out.ge, .inl rfl⟩)⟩
          rcases hk with e | e | e | e | e | e
          · exact .inl (.inl e)
          · exact .inl (.inr (.inl e))
          · exact .inl (.inr (.inr (.inl e)))
          · exact .inl (.inr (.inr (.inr (.inl e))))
          · rcases HA.out.fresh with h1 | ⟨g, h1, h2⟩
            · exact .inl (.inr (.inr (.inr (.inr (.inl (h1.symm.trans e))))))
            · have h3 : g = k := Option.some.inj (h1.symm.trans e)
              have h4 := HK12.out.size
              have h5 : w2.heap.size ≤ g := h2
              exact .inr (by omega)
          · exact .inl (.inr (.inr (.inr (.inr (.inr e)))))
        have HC4 := Lib.hid ((Chg.before (HK0.out.trans HK01.out (fun _ _ h => h)) hch))
        have hkw4 := HKR.out.setCell ⟨b, 3, none⟩ (.slice ao7 (S.tests.length + 1) cap7) (fun _ => ⟨HV.out.ge, .inl rfl⟩)
        have H4 := H7
        rw [← hw4] at H4 HC4 hkw4
        rw [← hw4]
        have HKW4 := Lib.hid hkw4
        clear H7 hw4 d3 f3 hch hkw4
        have d4 := H4.out.blk.cell 4
        simp [StV.cells] at d4
        have HG4 := Lib.hid (hG.keep HC4.out.keep (fun i hi e => by have := e.1; omega))
        have HIT : Hid (∀ W, Keep (fun _ => False) w4 W → Calls Tryz.prog 64 #[.int .i64 x] W (ItoaPost W x)) := Lib.hid fun W hk => itoa_any (HG4.out.glob.keep hk) HX.out.1 HX.out.2
        have HKR3 : Hid (Keep (fun _ => False) w4 w4.drew) := Lib.hid (Keep.refl _ _).drew
        have HKR2 : Hid (Keep (fun k => k = b ∨ (Value.slice no' S.notes.length nc').ownBlock = some k) w4 w4.drew) := Lib.hid (Keep.refl _ _).drew
        have HC2 : Hid (∀ W, Keep (fun k => k = b ∨ (Value.slice no' S.notes.length nc').ownBlock = some k) w4 W → (fun W => W.cell? ⟨w.heap.size, 0, none⟩ = some (.slice (some ⟨nb, no, none⟩) 1 nc) ∧ W.cell? ⟨w.heap.size, 1, none⟩ = some (.string word) ∧ W.cell? ⟨nb, no, none⟩ = some (.int .i64 x)) W) := Lib.hid fun W hk => HC.out W (HKW4.out.trans hk (fun k _ e => e.elim (fun e => ⟨e ▸ HV.out.ge, .inl e⟩) (fun e => ⟨HV.out.fp_ge.2.2.2 k e, .inr (.inr (.inr (.inr (.inr e))))⟩)))
        refine wp_region_noPanic ?_
        refine wp_region_held_drew (S := fun W => W.cell? ⟨w.heap.size, 0, none⟩ = some (.slice (some ⟨nb, no, none⟩) 1 nc) ∧ W.cell? ⟨w.heap.size, 1, none⟩ = some (.string word) ∧ W.cell? ⟨nb, no, none⟩ = some (.int .i64 x)) (by kernel_rfl) (HC2.out _ HKR2.out) (fun hHeld => ?_)
        refine wpAnyH_take (i := 0) (oi := _) (v := ?_) rfl (by kernel_rfl) (by kernel_rfl) (by kernel_rfl) (fun _ _ _ h => h) (Or.inl ⟨by rfl, ?_⟩) (by assumption) ?_
        rotate_left
        · (intro w hSw; (try dsimp only at hSw); go_simp) <;> with_reducible rfl
        (try simp only [List.getElem_toArray, List.getElem_cons_zero, List.getElem_cons_succ, Act.put, List.setIfInBounds_toArray, List.set_cons_zero, List.set_cons_succ])
        refine wpAnyH_take (i := 1) (oi := _) (v := ?_) rfl (by kernel_rfl) (by kernel_rfl) (by kernel_rfl) (fun _ _ _ h => h) (Or.inl ⟨by rfl, ?_⟩) (by assumption) ?_
        rotate_left
        · (intro w hSw; (try dsimp only at hSw); go_simp) <;> with_reducible rfl
        (try simp only [List.getElem_toArray, List.getElem_cons_zero, List.getElem_cons_succ, Act.put, List.setIfInBounds_toArray, List.set_cons_zero, List.set_cons_succ])
        refine wpAnyH_take (i := 2) (oi := _) (v := ?_) rfl (by kernel_rfl) (by kernel_rfl) (by kernel_rfl) (fun _ _ _ h => h) (Or.inl ⟨by rfl, ?_⟩) (by assumption) ?_
        rotate_left
        · (intro w hSw; (try dsimp only at hSw); go_simp) <;> with_reducible rfl
        (try simp only [List.getElem_toArray, List.getElem_cons_zero, List.getElem_cons_succ, Act.put, List.setIfInBounds_toArray, List.set_cons_zero, List.set_cons_succ])
        refine wpAnyH_take (i := 3) (oi := _) (v := ?_) rfl (by kernel_rfl) (by kernel_rfl) (by kernel_rfl) (fun _ _ _ h => h) (Or.inl ⟨by rfl, ?_⟩) (by assumption) ?_
        rotate_left
        · (intro w hSw; (try dsimp only at hSw); go_simp) <;> with_reducible rfl
        (try simp only [List.getElem_toArray, List.getElem_cons_zero, List.getElem_cons_succ, Act.put, List.setIfInBounds_toArray, List.set_cons_zero, List.set_cons_succ])
        refine wpAnyH_take (i := 5) (oi := _) (v := ?_) rfl (by kernel_rfl) (by kernel_rfl) (by kernel_rfl) (fun _ _ _ h => h) (Or.inl ⟨by rfl, ?_⟩) (by assumption) ?_
        rotate_left
        · (intro w hSw; (try dsimp only at hSw); go_simp) <;> with_reducible rfl
        (try simp only [List.getElem_toArray, List.getElem_cons_zero, List.getElem_cons_succ, Act.put, List.setIfInBounds_toArray, List.set_cons_zero, List.set_cons_succ])
        refine wpAnyH_take (i := 6) (oi := _) (v := ?_) rfl (by kernel_rfl) (by kernel_rfl) (by kernel_rfl) (fun _ _ _ h => h) (Or.inl ⟨by rfl, ?_⟩) (by assumption) ?_
        rotate_left
        · (intro w hSw; (try dsimp only at hSw); go_simp) <;> with_reducible rfl
        (try simp only [List.getElem_toArray, List.getElem_cons_zero, List.getElem_cons_succ, Act.put, List.setIfInBounds_toArray, List.set_cons_zero, List.set_cons_succ])
        refine wpAnyH_take (i := 7) (oi := _) (v := ?_) rfl (by kernel_rfl) (by kernel_rfl) (by kernel_rfl) (fun _ _ _ h => h) (Or.inl ⟨by rfl, ?_⟩) (by assumption) ?_
        rotate_left
        · (intro w hSw; (try dsimp only at hSw); go_simp) <;> with_reducible rfl
        (try simp only [List.getElem_toArray, List.getElem_cons_zero, List.getElem_cons_succ, Act.put, List.setIfInBounds_toArray, List.set_cons_zero, List.set_cons_succ])
        refine wpAnyH_take (i := 8) (oi := _) (v := ?_) rfl (by kernel_rfl) (by kernel_rfl) (by kernel_rfl) (fun _ _ _ h => h) (Or.inl ⟨by rfl, ?_⟩) (by assumption) ?_
        rotate_left
        · (intro w hSw; (try dsimp only at hSw); go_simp) <;> with_reducible rfl
        (try simp only [List.getElem_toArray, List.getElem_cons_zero, List.getElem_cons_succ, Act.put, List.setIfInBounds_toArray, List.set_cons_zero, List.set_cons_succ])
        refine wpAnyH_take (i := 12) (oi := _) (v := ?_) rfl (by kernel_rfl) (by kernel_rfl) (by kernel_rfl) (fun _ _ _ h => h) (Or.inl ⟨by rfl, ?_⟩) (by assumption) ?_
        rotate_left
        · (intro w hSw; (try dsimp only at hSw); go_simp) <;> with_reducible rfl
        (try simp only [List.getElem_toArray, List.getElem_cons_zero, List.getElem_cons_succ, Act.put, List.setIfInBounds_toArray, List.set_cons_zero, List.set_cons_succ])
        refine wpAnyH_take (i := 13) (oi := _) (v := ?_) rfl (by kernel_rfl) (by kernel_rfl) (by kernel_rfl) (fun _ _ _ h => h) (Or.inl ⟨by rfl, ?_⟩) (by assumption) ?_
        rotate_left
        · (intro w hSw; (try dsimp only at hSw); go_simp) <;> with_reducible rfl
        (try simp only [List.getElem_toArray, List.getElem_cons_zero, List.getElem_cons_succ, Act.put, List.setIfInBounds_toArray, List.set_cons_zero, List.set_cons_succ])
        refine wpAnyH_ready (rs := [4, 9]) (by kernel_rfl) (by simp) ?_
        refine AllReadyH.cons (o := _) rfl (fun K hK => ?_) (AllReadyH.cons (o := _) rfl (fun K hK => ?_) AllReadyH.nil)
        · go_simp
          refine hK.out _ _ ?_ (fun hHeld => ?_)
          · ((try dsimp only); refine HC2.out _ ?_; repeat (first | exact HKR2.out | apply Keep.drew | apply Keep.alloc | refine Keep.setCell ?_ _ _ (fun _ => .inl rfl)))
          clear hK K
          (try simp only [List.getElem_toArray, List.getElem_cons_zero, List.getElem_cons_succ, Act.put, List.setIfInBounds_toArray, List.set_cons_zero, List.set_cons_succ])
          refine wpAnyH_ready (rs := [9]) (by kernel_rfl) (by simp) ?_
          refine AllReadyH.cons (o := _) rfl (fun K hK => ?_) AllReadyH.nil
          go_simp
          refine Calls.mono (HIT.out _ HKR3.out) ?_
          rintro e Wc ⟨rfl, hkc⟩
          have HKR3 := Lib.hid (HKR3.out.trans hkc (fun _ _ h => h))
          have HKR2 := Lib.hid (HKR3.out.mono (T := fun k => k = b ∨ (Value.slice no' S.notes.length nc').ownBlock = some k) (fun _ _ h => h.elim))
          have d4 := (H4.out.keep HKR3.out (fun _ _ h => h)).blk.cell 4
          simp [StV.cells] at d4
          have hlt4 : b < Wc.heap.size := (H4.out.keep HKR3.out (fun _ _ h => h)).blk.lt
          clear hkc
          (try dsimp only)
          refine hK.out _ _ ?_ (fun hHeld => ?_)
          · ((try dsimp only); refine HC2.out _ ?_; repeat (first | exact HKR2.out | apply Keep.drew | apply Keep.alloc | refine Keep.setCell ?_ _ _ (fun _ => .inl rfl)))
          clear hK K
          (try simp only [List.getElem_toArray, List.getElem_cons_zero, List.getElem_cons_succ, Act.put, List.setIfInBounds_toArray, List.set_cons_zero, List.set_cons_succ])
          refine wpAnyH_take (i := 10) (oi := _) (v := ?_) rfl (by kernel_rfl) (by kernel_rfl) (by kernel_rfl) (fun _ _ _ h => h) (Or.inl ⟨by rfl, ?_⟩) (by assumption) ?_
          rotate_left
          · (intro w hSw; (try dsimp only at hSw); go_simp) <;> with_reducible rfl
          (try simp only [List.getElem_toArray, List.getElem_cons_zero, List.getElem_cons_succ, Act.put, List.setIfInBounds_toArray, List.set_cons_zero, List.set_cons_succ])
          refine wpAnyH_take (i := 11) (oi := _) (v := ?_) rfl (by kernel_rfl) (by kernel_rfl) (by kernel_rfl) (fun _ _ _ h => h) (Or.inl ⟨by rfl, ?_⟩) (by assumption) ?_
          rotate_left
          · (intro w hSw; (try dsimp only at hSw); go_simp) <;> with_reducible rfl
          (try simp only [List.getElem_toArray, List.getElem_cons_zero, List.getElem_cons_succ, Act.put, List.setIfInBounds_toArray, List.set_cons_zero, List.set_cons_succ])
          refine wpAnyH_take (i := 14) (oi := _) (v := ?_) rfl (by kernel_rfl) (by kernel_rfl) (by kernel_rfl) (fun _ _ _ h => h) (Or.inl ⟨by rfl, ?_⟩) (by assumption) ?_
          rotate_left
          · (intro w hSw; (try dsimp only at hSw); go_simp) <;> with_reducible rfl
          (try simp only [List.getElem_toArray, List.getElem_cons_zero, List.getElem_cons_succ, Act.put, List.setIfInBounds_toArray, List.set_cons_zero, List.set_cons_succ])
          refine wpAnyH_ready (rs := [15]) (by kernel_rfl) (by simp) ?_
          refine AllReadyH.cons (o := _) rfl (fun K hK => ?_) AllReadyH.nil
          go_simp
          refine hK.out _ _ ?_ (fun hHeld => ?_)
          · ((try dsimp only); refine HC2.out _ ?_; repeat (first | exact HKR2.out | apply Keep.drew | apply Keep.alloc | refine Keep.setCell ?_ _ _ (fun _ => .inl rfl)))
          clear hK K
          (try simp only [List.getElem_toArray, List.getElem_cons_zero, List.getElem_cons_succ, Act.put, List.setIfInBounds_toArray, List.set_cons_zero, List.set_cons_succ])
          refine wpAnyH_ready (rs := [16]) (by kernel_rfl) (by simp) ?_
          refine AllReadyH.cons (o := _) rfl (fun K hK => ?_) AllReadyH.nil
          rw [if_pos (by rfl)]
          have ho6 : (Wc.alloc (.cells #[.string (testNote x word)] 9)).ownsRow base 9 1 (.slice no' S.notes.length nc') S.notes.length (strCells S.notes) := ownsRow_keep (H4.out.on) (HKR3.out.alloc (.cells #[.string (testNote x word)] 9)) (fun _ _ h => h)
          refine oper_app (.tmp 37) (.tmp 48) 24 24 rfl 9 (.string ⟨#[]⟩) 1 16 Tryz.underlying24 info9 rfl ho6 rfl ((Rd.new Wc 1 1 [.string (testNote x word)] 9 rfl (by simp [Value.oneCell']) (by unfold maxLen; omega)).src Tryz.underlying24) rfl (by unfold maxLen; omega) (by omega) (Nat.le_trans H4.out.lt (HKR3.out.alloc (.cells #[.string (testNote x word)] 9)).size) (fun v' w8 happ => ?_)
          obtain ⟨ao8, cap8, rfl, _⟩ := ownsRow_shape happ.own
          have h6 := H4.out.keep (HKR3.out.alloc (.cells #[.string (testNote x word)] 9)) (fun _ _ h => h)
          have h8 := h6.setNotes (w1 := w8) (v' := .slice ao8 (S.notes.length + 1) cap8) (ls := S.notes ++ [testNote x word]) happ.keep (by have := happ.own; simpa [strCells] using this) happ.fresh
          have hb8 := h6.blk.keep happ.keep h6.nne
          have d4 := hb8.cell 4
          have f4 := hb8.free 4
          simp [StV.cells] at d4 f4
          have HKR2 := Lib.hid (((HKR3.out.alloc (.cells #[.string (testNote x word)] 9)).mono (T := fun k => k = b ∨ (Value.slice no' S.notes.length nc').ownBlock = some k) (fun _ _ h => h.elim)).trans happ.keep (fun _ _ e => .inr e))
          have HB := Lib.hid happ
          have H5 := Lib.hid h6
          have H8 := Lib.hid h8
          clear happ h6 h8 hb8
          (try dsimp only)
          refine hK.out _ _ ?_ (fun hHeld => ?_)
          · ((try dsimp only); refine HC2.out _ ?_; repeat (first | exact HKR2.out | apply Keep.drew | apply Keep.alloc | refine Keep.setCell ?_ _ _ (fun _ => .inl rfl)))
          clear hK K
          (try simp only [List.getElem_toArray, List.getElem_cons_zero, List.getElem_cons_succ, Act.put, List.setIfInBounds_toArray, List.set_cons_zero, List.set_cons_succ])
          refine wpAnyH_take (i := 17) (oi := _) (v := ?_) rfl (by kernel_rfl) (by kernel_rfl) (by kernel_rfl) (fun _ _ _ h => h) (Or.inl ⟨by rfl, ?_⟩) (by assumption) ?_
          rotate_left
          · (intro w hSw; (try dsimp only at hSw); go_simp) <;> with_reducible rfl
          (try simp only [List.getElem_toArray, List.getElem_cons_zero, List.getElem_cons_succ, Act.put, List.setIfInBounds_toArray, List.set_cons_zero, List.set_cons_succ])
          refine wpAnyH_take (i := 18) (oi := _) (v := ?_) rfl (by kernel_rfl) (by kernel_rfl) (by kernel_rfl) (fun _ _ _ h => h) (Or.inl ⟨by rfl, ?_⟩) (by assumption) ?_
          rotate_left
          · (intro w hSw; (try dsimp only at hSw); go_simp) <;> with_reducible rfl
          (try simp only [List.getElem_toArray, List.getElem_cons_zero, List.getElem_cons_succ, Act.put, List.setIfInBounds_toArray, List.set_cons_zero, List.set_cons_succ])
          refine wpAnyH_ready (rs := [19]) (by kernel_rfl) (by simp) ?_
          refine AllReadyH.cons (o := _) rfl (fun K hK => ?_) AllReadyH.nil
          go_simp
          refine hK.out _ _ ?_ (fun hHeld => ?_)
          · ((try dsimp only); refine HC2.out _ ?_; repeat (first | exact HKR2.out | apply Keep.drew | apply Keep.alloc | refine Keep.setCell ?_ _ _ (fun _ => .inl rfl)))
          clear hK K
          (try simp only [List.getElem_toArray, List.getElem_cons_zero, List.getElem_cons_succ, Act.put, List.setIfInBounds_toArray, List.set_cons_zero, List.set_cons_succ])
          refine wpAnyH_done (by kernel_rfl) ?_ _
          refine NoPanic.normal ?_
          go_wp2
          go_ret2
          refine ⟨by rw [HF.out]; rfl, ⟨b, vb, vl, vc, .slice ao7 (S.tests.length + 1) cap7, .slice ao8 (S.notes.length + 1) cap8⟩, fun _ => by rw [HF.out]; exact H8.out, ?_⟩
          refine HC4.out.trans ⟨rfl, rfl, fun k hk => ?_, (HKR2.out.setCell _ _ (fun _ => .inl rfl)).mono (fun k _ e => e.elim (fun e => ⟨e ▸ H4.out.ge, .inl e⟩) (fun e => ⟨H4.out.fp_ge.2.2.2 k e, .inr (.inr (.inr (.inr (.inr e))))⟩))⟩
          rcases hk with e | e | e | e | e | e
          · exact .inl (.inl e)
          · exact .inl (.inr (.inl e))
          · exact .inl (.inr (.inr (.inl e)))
          · exact .inl (.inr (.inr (.inr (.inl e))))
          · exact .inl (.inr (.inr (.inr (.inr (.inl e)))))
          · rcases HB.out.fresh with h1 | ⟨g, h1, h2⟩
            · exact .inl (.inr (.inr (.inr (.inr (.inr (h1.symm.trans e))))))
            · have h3 : g = k := Option.some.inj (h1.symm.trans e)
              have h4 := (HKR3.out.alloc (.cells #[.string (testNote x word)] 9)).size
              have h5 : (Wc.alloc (.cells #[.string (testNote x word)] 9)).heap.size ≤ g := h2
              exact .inr (by omega)
        · go_simp
          refine Calls.mono (HIT.out _ HKR3.out) ?_
          rintro e Wc ⟨rfl, hkc⟩
          have HKR3 := Lib.hid (HKR3.out.trans hkc (fun _ _ h => h))
          have HKR2 := Lib.hid (HKR3.out.mono (T := fun k => k = b ∨ (Value.slice no' S.notes.length nc').ownBlock = some k) (fun _ _ h => h.elim))
          have d4 := (H4.out.keep HKR3.out (fun _ _ h => h)).blk.cell 4
          simp [StV.cells] at d4
          have hlt4 : b < Wc.heap.size := (H4.out.keep HKR3.out (fun _ _ h => h)).blk.lt
          clear hkc
          (try dsimp only)
          refine hK.out _ _ ?_ (fun hHeld => ?_)
          · ((try dsimp only); refine HC2.out _ ?_; repeat (first | exact HKR2.out | apply Keep.drew | apply Keep.alloc | refine Keep.setCell ?_ _ _ (fun _ => .inl rfl)))
          clear hK K
          (try simp only [List.getElem_toArray, List.getElem_cons_zero, List.getElem_cons_succ, Act.put, List.setIfInBounds_toArray, List.set_cons_zero, List.set_cons_succ])
          refine wpAnyH_take (i := 10) (oi := _) (v := ?_) rfl (by kernel_rfl) (by kernel_rfl) (by kernel_rfl) (fun _ _ _ h => h) (Or.inl ⟨by rfl, ?_⟩) (by assumption) ?_
          rotate_left
          · (intro w hSw; (try dsimp only at hSw); go_simp) <;> with_reducible rfl
          (try simp only [List.getElem_toArray, List.getElem_cons_zero, List.getElem_cons_succ, Act.put, List.setIfInBounds_toArray, List.set_cons_zero, List.set_cons_succ])
          refine wpAnyH_take (i := 11) (oi := _) (v := ?_) rfl (by kernel_rfl) (by kernel_rfl) (by kernel_rfl) (fun _ _ _ h => h) (Or.inl ⟨by rfl, ?_⟩) (by assumption) ?_
          rotate_left
          · (intro w hSw; (try dsimp only at hSw); go_simp) <;> with_reducible rfl
          (try simp only [List.getElem_toArray, List.getElem_cons_zero, List.getElem_cons_succ, Act.put, List.setIfInBounds_toArray, List.set_cons_zero, List.set_cons_succ])
          refine wpAnyH_take (i := 14) (oi := _) (v := ?_) rfl (by kernel_rfl) (by kernel_rfl) (by kernel_rfl) (fun _ _ _ h => h) (Or.inl ⟨by rfl, ?_⟩) (by assumption) ?_
          rotate_left
          · (intro w hSw; (try dsimp only at hSw); go_simp) <;> with_reducible rfl
          (try simp only [List.getElem_toArray, List.getElem_cons_zero, List.getElem_cons_succ, Act.put, List.setIfInBounds_toArray, List.set_cons_zero, List.set_cons_succ])
          refine wpAnyH_ready (rs := [4, 15]) (by kernel_rfl) (by simp) ?_
          refine AllReadyH.cons (o := _) rfl (fun K hK => ?_) (AllReadyH.cons (o := _) rfl (fun K hK => ?_) AllReadyH.nil)
          · go_simp
            refine hK.out _ _ ?_ (fun hHeld => ?_)
            · ((try dsimp only); refine HC2.out _ ?_; repeat (first | exact HKR2.out | apply Keep.drew | apply Keep.alloc | refine Keep.setCell ?_ _ _ (fun _ => .inl rfl)))
            clear hK K
            (try simp only [List.getElem_toArray, List.getElem_cons_zero, List.getElem_cons_succ, Act.put, List.setIfInBounds_toArray, List.set_cons_zero, List.set_cons_succ])
            refine wpAnyH_ready (rs := [15]) (by kernel_rfl) (by simp) ?_
            refine AllReadyH.cons (o := _) rfl (fun K hK => ?_) AllReadyH.nil
            go_simp
            refine hK.out _ _ ?_ (fun hHeld => ?_)
            · ((try dsimp only); refine HC2.out _ ?_; repeat (first | exact HKR2.out | apply Keep.drew | apply Keep.alloc | refine Keep.setCell ?_ _ _ (fun _ => .inl rfl)))
            clear hK K
            (try simp only [List.getElem_toArray, List.getElem_cons_zero, List.getElem_cons_succ, Act.put, List.setIfInBounds_toArray, List.set_cons_zero, List.set_cons_succ])
            refine wpAnyH_ready (rs := [16]) (by kernel_rfl) (by simp) ?_
            refine AllReadyH.cons (o := _) rfl (fun K hK => ?_) AllReadyH.nil
            rw [if_pos (by rfl)]
            have ho6 : (Wc.alloc (.cells #[.string (testNote x word)] 9)).ownsRow base 9 1 (.slice no' S.notes.length nc') S.notes.length (strCells S.notes) := ownsRow_keep (H4.out.on) (HKR3.out.alloc (.cells #[.string (testNote x word)] 9)) (fun _ _ h => h)
            refine oper_app (.tmp 37) (.tmp 48) 24 24 rfl 9 (.string ⟨#[]⟩) 1 16 Tryz.underlying24 info9 rfl ho6 rfl ((Rd.new Wc 1 1 [.string (testNote x word)] 9 rfl (by simp [Value.oneCell']) (by unfold maxLen; omega)).src Tryz.underlying24) rfl (by unfold maxLen; omega) (by omega) (Nat.le_trans H4.out.lt (HKR3.out.alloc (.cells #[.string (testNote x word)] 9)).size) (fun v' w8 happ => ?_)
            obtain ⟨ao8, cap8, rfl, _⟩ := ownsRow_shape happ.own
            have h6 := H4.out.keep (HKR3.out.alloc (.cells #[.string (testNote x word)] 9)) (fun _ _ h => h)
            have h8 := h6.setNotes (w1 := w8) (v' := .slice ao8 (S.notes.length + 1) cap8) (ls := S.notes ++ [testNote x word]) happ.keep (by have := happ.own; simpa [strCells] using this) happ.fresh
            have hb8 := h6.blk.keep happ.keep h6.nne
            have d4 := hb8.cell 4
            have f4 := hb8.free 4
            simp [StV.cells] at d4 f4
            have HKR2 := Lib.hid (((HKR3.out.alloc (.cells #[.string (testNote x word)] 9)).mono (T := fun k => k = b ∨ (Value.slice no' S.notes.length nc').ownBlock = some k) (fun _ _ h => h.elim)).trans happ.keep (fun _ _ e => .inr e))
            have HB := Lib.hid happ
            have H5 := Lib.hid h6
            have H8 := Lib.hid h8
            clear happ h6 h8 hb8
            (try dsimp only)
            refine hK.out _ _ ?_ (fun hHeld => ?_)
            · ((try dsimp only); refine HC2.out _ ?_; repeat (first | exact HKR2.out | apply Keep.drew | apply Keep.alloc | refine Keep.setCell ?_ _ _ (fun _ => .inl rfl)))
            clear hK K
            (try simp only [List.getElem_toArray, List.getElem_cons_zero, List.getElem_cons_succ, Act.put, List.setIfInBounds_toArray, List.set_cons_zero, List.set_cons_succ])
            refine wpAnyH_take (i := 17) (oi := _) (v := ?_) rfl (by kernel_rfl) (by kernel_rfl) (by kernel_rfl) (fun _ _ _ h => h) (Or.inl ⟨by rfl, ?_⟩) (by assumption) ?_
            rotate_left
            · (intro w hSw; (try dsimp only at hSw); go_simp) <;> with_reducible rfl
            (try simp only [List.getElem_toArray, List.getElem_cons_zero, List.getElem_cons_succ, Act.put, List.setIfInBounds_toArray, List.set_cons_zero, List.set_cons_succ])
            refine wpAnyH_take (i := 18) (oi := _) (v := ?_) rfl (by kernel_rfl) (by kernel_rfl) (by kernel_rfl) (fun _ _ _ h => h) (Or.inl ⟨by rfl, ?_⟩) (by assumption) ?_
            rotate_left
            · (intro w hSw; (try dsimp only at hSw); go_simp) <;> with_reducible rfl
            (try simp only [List.getElem_toArray, List.getElem_cons_zero, List.getElem_cons_succ, Act.put, List.setIfInBounds_toArray, List.set_cons_zero, List.set_cons_succ])
            refine wpAnyH_ready (rs := [19]) (by kernel_rfl) (by simp) ?_
            refine AllReadyH.cons (o := _) rfl (fun K hK => ?_) AllReadyH.nil
            go_simp
            refine hK.out _ _ ?_ (fun hHeld => ?_)
            · ((try dsimp only); refine HC2.out _ ?_; repeat (first | exact HKR2.out | apply Keep.drew | apply Keep.alloc | refine Keep.setCell ?_ _ _ (fun _ => .inl rfl)))
            clear hK K
            (try simp only [List.getElem_toArray, List.getElem_cons_zero, List.getElem_cons_succ, Act.put, List.setIfInBounds_toArray, List.set_cons_zero, List.set_cons_succ])
            refine wpAnyH_done (by kernel_rfl) ?_ _
            refine NoPanic.normal ?_
            go_wp2
            go_ret2
            refine ⟨by rw [HF.out]; rfl, ⟨b, vb, vl, vc, .slice ao7 (S.tests.length + 1) cap7, .slice ao8 (S.notes.length + 1) cap8⟩, fun _ => by rw [HF.out]; exact H8.out, ?_⟩
            refine HC4.out.trans ⟨rfl, rfl, fun k hk => ?_, (HKR2.out.setCell _ _ (fun _ => .inl rfl)).mono (fun k _ e => e.elim (fun e => ⟨e ▸ H4.out.ge, .inl e⟩) (fun e => ⟨H4.out.fp_ge.2.2.2 k e, .inr (.inr (.inr (.inr (.inr e))))⟩))⟩
            rcases hk with e | e | e | e | e | e
            · exact .inl (.inl e)
            · exact .inl (.inr (.inl e))
            · exact .inl (.inr (.inr (.inl e)))
            · exact .inl (.inr (.inr (.inr (.inl e))))
            · exact .inl (.inr (.inr (.inr (.inr (.inl e)))))
            · rcases HB.out.fresh with h1 | ⟨g, h1, h2⟩
              · exact .inl (.inr (.inr (.inr (.inr (.inr (h1.symm.trans e))))))
              · have h3 : g = k := Option.some.inj (h1.symm.trans e)
                have h4 := (HKR3.out.alloc (.cells #[.string (testNote x word)] 9)).size
                have h5 : (Wc.alloc (.cells #[.string (testNote x word)] 9)).heap.size ≤ g := h2
                exact .inr (by omega)
          · go_simp
            refine hK.out _ _ ?_ (fun hHeld => ?_)
            · ((try dsimp only); refine HC2.out _ ?_; repeat (first | exact HKR2.out | apply Keep.drew | apply Keep.alloc | refine Keep.setCell ?_ _ _ (fun _ => .inl rfl)))
            clear hK K
            (try simp only [List.getElem_toArray, List.getElem_cons_zero, List.getElem_cons_succ, Act.put, List.setIfInBounds_toArray, List.set_cons_zero, List.set_cons_succ])
            refine wpAnyH_ready (rs := [4]) (by kernel_rfl) (by simp) ?_
            refine AllReadyH.cons (o := _) rfl (fun K hK => ?_) AllReadyH.nil
            go_simp
            refine hK.out _ _ ?_ (fun hHeld => ?_)
            · ((try dsimp only); refine HC2.out _ ?_; repeat (first | exact HKR2.out | apply Keep.drew | apply Keep.alloc | refine Keep.setCell ?_ _ _ (fun _ => .inl rfl)))
            clear hK K
            (try simp only [List.getElem_toArray, List.getElem_cons_zero, List.getElem_cons_succ, Act.put, List.setIfInBounds_toArray, List.set_cons_zero, List.set_cons_succ])
            refine wpAnyH_ready (rs := [16]) (by kernel_rfl) (by simp) ?_
            refine AllReadyH.cons (o := _) rfl (fun K hK => ?_) AllReadyH.nil
            rw [if_pos (by rfl)]
            have ho6 : (Wc.alloc (.cells #[.string (testNote x word)] 9)).ownsRow base 9 1 (.slice no' S.notes.length nc') S.notes.length (strCells S.notes) := ownsRow_keep (H4.out.on) (HKR3.out.alloc (.cells #[.string (testNote x word)] 9)) (fun _ _ h => h)
            refine oper_app (.tmp 37) (.tmp 48) 24 24 rfl 9 (.string ⟨#[]⟩) 1 16 Tryz.underlying24 info9 rfl ho6 rfl ((Rd.new Wc 1 1 [.string (testNote x word)] 9 rfl (by simp [Value.oneCell']) (by unfold maxLen; omega)).src Tryz.underlying24) rfl (by unfold maxLen; omega) (by omega) (Nat.le_trans H4.out.lt (HKR3.out.alloc (.cells #[.string (testNote x word)] 9)).size) (fun v' w8 happ => ?_)
            obtain ⟨ao8, cap8, rfl, _⟩ := ownsRow_shape happ.own
            have h6 := H4.out.keep (HKR3.out.alloc (.cells #[.string (testNote x word)] 9)) (fun _ _ h => h)
            have h8 := h6.setNotes (w1 := w8) (v' := .slice ao8 (S.notes.length + 1) cap8) (ls := S.notes ++ [testNote x word]) happ.keep (by have := happ.own; simpa [strCells] using this) happ.fresh
            have hb8 := h6.blk.keep happ.keep h6.nne
            have d4 := hb8.cell 4
            have f4 := hb8.free 4
            simp [StV.cells] at d4 f4
            have HKR2 := Lib.hid (((HKR3.out.alloc (.cells #[.string (testNote x word)] 9)).mono (T := fun k => k = b ∨ (Value.slice no' S.notes.length nc').ownBlock = some k) (fun _ _ h => h.elim)).trans happ.keep (fun _ _ e => .inr e))
            have HB := Lib.hid happ
            have H5 := Lib.hid h6
            have H8 := Lib.hid h8
            clear happ h6 h8 hb8
            (try dsimp only)
            refine hK.out _ _ ?_ (fun hHeld => ?_)
            · ((try dsimp only); refine HC2.out _ ?_; repeat (first | exact HKR2.out | apply Keep.drew | apply Keep.alloc | refine Keep.setCell ?_ _ _ (fun _ => .inl rfl)))
            clear hK K
            (try simp only [List.getElem_toArray, List.getElem_cons_zero, List.getElem_cons_succ, Act.put, List.setIfInBounds_toArray, List.set_cons_zero, List.set_cons_succ])
            refine wpAnyH_take (i := 17) (oi := _) (v := ?_) rfl (by kernel_rfl) (by kernel_rfl) (by kernel_rfl) (fun _ _ _ h => h) (Or.inl ⟨by rfl, ?_⟩) (by assumption) ?_
            rotate_left
            · (intro w hSw; (try dsimp only at hSw); go_simp) <;> with_reducible rfl
            (try simp only [List.getElem_toArray, List.getElem_cons_zero, List.getElem_cons_succ, Act.put, List.setIfInBounds_toArray, List.set_cons_zero, List.set_cons_succ])
            refine wpAnyH_take (i := 18) (oi := _) (v := ?_) rfl (by kernel_rfl) (by kernel_rfl) (by kernel_rfl) (fun _ _ _ h => h) (Or.inl ⟨by rfl, ?_⟩) (by assumption) ?_
            rotate_left
            · (intro w hSw; (try dsimp only at hSw); go_simp) <;> with_reducible rfl
            (try simp only [List.getElem_toArray, List.getElem_cons_zero, List.getElem_cons_succ, Act.put, List.setIfInBounds_toArray, List.set_cons_zero, List.set_cons_succ])
            refine wpAnyH_ready (rs := [19]) (by kernel_rfl) (by simp) ?_
            refine AllReadyH.cons (o := _) rfl (fun K hK => ?_) AllReadyH.nil
            go_simp
            refine hK.out _ _ ?_ (fun hHeld => ?_)
            · ((try dsimp only); refine HC2.out _ ?_; repeat (first | exact HKR2.out | apply Keep.drew | apply Keep.alloc | refine Keep.setCell ?_ _ _ (fun _ => .inl rfl)))
            clear hK K
            (try simp only [List.getElem_toArray, List.getElem_cons_zero, List.getElem_cons_succ, Act.put, List.setIfInBounds_toArray, List.set_cons_zero, List.set_cons_succ])
            refine wpAnyH_done (by kernel_rfl) ?_ _
            refine NoPanic.normal ?_
            go_wp2
            go_ret2
            refine ⟨by rw [HF.out]; rfl, ⟨b, vb, vl, vc, .slice ao7 (S.tests.length + 1) cap7, .slice ao8 (S.notes.length + 1) cap8⟩, fun _ => by rw [HF.out]; exact H8.out, ?_⟩
            refine HC4.out.trans ⟨rfl, rfl, fun k hk => ?_, (HKR2.out.setCell _ _ (fun _ => .inl rfl)).mono (fun k _ e => e.elim (fun e => ⟨e ▸ H4.out.ge, .inl e⟩) (fun e => ⟨H4.out.fp_ge.2.2.2 k e, .inr (.inr (.inr (.inr (.inr e))))⟩))⟩
            rcases hk with e | e | e | e | e | e
            · exact .inl (.inl e)
            · exact .inl (.inr (.inl e))
            · exact .inl (.inr (.inr (.inl e)))
            · exact .inl (.inr (.inr (.inr (.inl e))))
            · exact .inl (.inr (.inr (.inr (.inr (.inl e)))))
            · rcases HB.out.fresh with h1 | ⟨g, h1, h2⟩
              · exact .inl (.inr (.inr (.inr (.inr (.inr (h1.symm.trans e))))))
              · have h3 : g = k := Option.some.inj (h1.symm.trans e)
                have h4 := (HKR3.out.alloc (.cells #[.string (testNote x word)] 9)).size
                have h5 : (Wc.alloc (.cells #[.string (testNote x word)] 9)).heap.size ≤ g := h2
                exact .inr (by omega)
    · have HF := Lib.hid (show testF S ⟨[x], word, aok⟩ = ⟨0, testS S x 0 word, bs [116, 101, 115, 116]⟩ by unfold testF; simp only [List.getD_cons_zero]; rw [hb, if_pos rfl, if_neg hwd])
      have hgl : (word.toList = [103, 111, 111, 100]) = False := eq_false (fun h => hwd ((toList_bs _ _).1 h))
      have hgb : (word.toList == [103, 111, 111, 100]) = false := beq_eq_false_iff_ne.2 (fun h => hwd ((toList_bs _ _).1 h))
      obtain ⟨gd, hgd⟩ : ∃ gd : Int, gd = 0 := ⟨_, rfl⟩
      rw [show testS S x 0 word = testS S x gd word by rw [hgd]] at HF
      have HGD := Lib.hid hgd; clear hgd
      clear hb hwd
      go_enter Tryz.func403, Tryz.ntmps403
      go_wp2_with (go_at_call 406; rw [← HW0.out]; refine HTH.out.mono ?_; rintro e w1 ⟨rfl, hk1⟩; have HK01 := Lib.hid (((Keep.refl (fun _ => False) w0).alloc (.cells #[.int .i64 x] 3)).trans hk1 (fun _ _ h => h)); obtain ⟨a0, a1, a2⟩ := HC.out w1 (HK01.out.mono (fun _ _ h => h.elim)); clear hk1)
      have h1 := H0.out.keep HK01.out (fun _ _ h => h)
      have d3 := h1.blk.cell 3
      have hlt3 := h1.blk.lt
      simp [StV.cells] at d3 hlt3
      have H1 := Lib.hid h1; clear h1
      obtain ⟨w2, hw2⟩ : ∃ w2, w2 = w1.alloc (.cells #[.int .i64 x, .int .i64 gd] 127) := ⟨_, rfl⟩
      have hk12 : Keep (fun _ => False) w1 w2 := by rw [hw2]; exact (Keep.refl _ _).alloc _
      have HK12 := Lib.hid hk12; clear hk12
      have HST : Hid (Src Tryz.prog 2 88 (.slice (some ⟨w1.heap.size, 0, none⟩) 1 1) 1 (pairCell (x, gd)) w2.drew) := Lib.hid (by
        have := Rd.new w1 2 1 (pairCell (x, gd)) 127 rfl (by simp [pairCell, Value.oneCell']) (by unfold maxLen; omega)
        rw [hw2]; exact this.drew.src Tryz.underlying88)
      have HOT : Hid (w2.drew.ownsRow base 127 2 (.slice too S.tests.length tc) S.tests.length (pairCells S.tests)) := Lib.hid (ownsRow_keep H1.out.ot HK12.out.drew (fun _ _ h => h))
      rw [HGD.out] at hw2
      have HW2 := Lib.hid hw2; clear hw2
      have HKR : Hid (Keep (fun k => base ≤ k ∧ StV.fp ⟨b, vb, vl, vc, .slice too S.tests.length tc, .slice no' S.notes.length nc'⟩ k) w0 w1) := Lib.hid (HK01.out.mono (fun _ _ h => h.elim))
      refine wp_region_noPanic ?_
      refine wp_region_held_drew (S := fun W => W.cell? ⟨w.heap.size, 0, none⟩ = some (.slice (some ⟨nb, no, none⟩) 1 nc) ∧ W.cell? ⟨w.heap.size, 1, none⟩ = some (.string word) ∧ W.cell? ⟨nb, no, none⟩ = some (.int .i64 x)) (by kernel_rfl) (HC.out _ HKR.out.drew) (fun hHeld => ?_)
      refine wpAnyH_take (i := 0) (oi := _) (v := ?_) rfl (by kernel_rfl) (by kernel_rfl) (by kernel_rfl) (fun _ _ _ h => h) (Or.inl ⟨by rfl, ?_⟩) (by assumption) ?_
      rotate_left
      · (intro w hSw; (try dsimp only at hSw); go_simp) <;> with_reducible rfl
      (try simp only [List.getElem_toArray, List.getElem_cons_zero, List.getElem_cons_succ, Act.put, List.setIfInBounds_toArray, List.set_cons_zero, List.set_cons_succ])
      refine wpAnyH_take (i := 1) (oi := _) (v := ?_) rfl (by kernel_rfl) (by kernel_rfl) (by kernel_rfl) (fun _ _ _ h => h) (Or.inl ⟨by rfl, ?_⟩) (by assumption) ?_
      rotate_left
      · (intro w hSw; (try dsimp only at hSw); go_simp) <;> with_reducible rfl
      (try simp only [List.getElem_toArray, List.getElem_cons_zero, List.getElem_cons_succ, Act.put, List.setIfInBounds_toArray, List.set_cons_zero, List.set_cons_succ])
      refine wpAnyH_take (i := 2) (oi := _) (v := ?_) rfl (by kernel_rfl) (by kernel_rfl) (by kernel_rfl) (fun _ _ _ h => h) (Or.inl ⟨by rfl, ?_⟩) (by assumption) ?_
      rotate_left
      · (intro w hSw; (try dsimp only at hSw); go_simp) <;> with_reducible rfl
      (try simp only [List.getElem_toArray, List.getElem_cons_zero, List.getElem_cons_succ, Act.put, List.setIfInBounds_toArray, List.set_cons_zero, List.set_cons_succ])
      refine wpAnyH_take (i := 3) (oi := _) (v := ?_) rfl (by kernel_rfl) (by kernel_rfl) (by kernel_rfl) (fun _ _ _ h => h) (Or.inl ⟨by rfl, ?_⟩) (by assumption) ?_
      rotate_left
      · (intro w hSw; (try dsimp only at hSw); go_simp) <;> with_reducible rfl
      (try simp only [List.getElem_toArray, List.getElem_cons_zero, List.getElem_cons_succ, Act.put, List.setIfInBounds_toArray, List.set_cons_zero, List.set_cons_succ])
      refine wpAnyH_take (i := 5) (oi := _) (v := ?_) rfl (by kernel_rfl) (by kernel_rfl) (by kernel_rfl) (fun _ _ _ h => h) (Or.inl ⟨by rfl, ?_⟩) (by assumption) ?_
      rotate_left
      · (intro w hSw; (try dsimp only at hSw); go_simp) <;> with_reducible rfl
      (try simp only [List.getElem_toArray, List.getElem_cons_zero, List.getElem_cons_succ, Act.put, List.setIfInBounds_toArray, List.set_cons_zero, List.set_cons_succ])
      refine wpAnyH_take (i := 6) (oi := _) (v := ?_) rfl (by kernel_rfl) (by kernel_rfl) (by kernel_rfl) (fun _ _ _ h => h) (Or.inl ⟨by rfl, ?_⟩) (by assumption) ?_
      rotate_left
      · (intro w hSw; (try dsimp only at hSw); go_simp) <;> with_reducible rfl
      (try simp only [List.getElem_toArray, List.getElem_cons_zero, List.getElem_cons_succ, Act.put, List.setIfInBounds_toArray, List.set_cons_zero, List.set_cons_succ])
      refine wpAnyH_take (i := 7) (oi := _) (v := ?_) rfl (by kernel_rfl) (by kernel_rfl) (by kernel_rfl) (fun _ _ _ h => h) (Or.inl ⟨by rfl, ?_⟩) (by assumption) ?_
      rotate_left
      · (intro w hSw; (try dsimp only at hSw); go_simp) <;> with_reducible rfl
      (try simp only [List.getElem_toArray, List.getElem_cons_zero, List.getElem_cons_succ, Act.put, List.setIfInBounds_toArray, List.set_cons_zero, List.set_cons_succ])
      refine wpAnyH_take (i := 8) (oi := _) (v := ?_) rfl (by kernel_rfl) (by kernel_rfl) (by kernel_rfl) (fun _ _ _ h => h) (Or.inl ⟨by rfl, ?_⟩) (by assumption) ?_
      rotate_left
      · (intro w hSw; (try dsimp only at hSw); go_simp) <;> with_reducible rfl
      (try simp only [List.getElem_toArray, List.getElem_cons_zero, List.getElem_cons_succ, Act.put, List.setIfInBounds_toArray, List.set_cons_zero, List.set_cons_succ])
      refine wpAnyH_take (i := 9) (oi := _) (v := ?_) rfl (by kernel_rfl) (by kernel_rfl) (by kernel_rfl) (fun _ _ _ h => h) (Or.inl ⟨by rfl, ?_⟩) (by assumption) ?_
      rotate_left
      · (intro w hSw; (try dsimp only at hSw); go_simp) <;> with_reducible rfl
      (try simp only [List.getElem_toArray, List.getElem_cons_zero, List.getElem_cons_succ, Act.put, List.setIfInBounds_toArray, List.set_cons_zero, List.set_cons_succ])
      refine wpAnyH_take (i := 10) (oi := _) (v := ?_) rfl (by kernel_rfl) (by kernel_rfl) (by kernel_rfl) (fun _ _ _ h => h) (Or.inl ⟨by rfl, ?_⟩) (by assumption) ?_
      rotate_left
      · (intro w hSw; (try dsimp only at hSw); go_simp) <;> with_reducible rfl
      (try simp only [List.getElem_toArray, List.getElem_cons_zero, List.getElem_cons_succ, Act.put, List.setIfInBounds_toArray, List.set_cons_zero, List.set_cons_succ])
      refine wpAnyH_ready (rs := [4, 11]) (by kernel_rfl) (by simp) ?_
      refine AllReadyH.cons (o := _) rfl (fun K hK => ?_) (AllReadyH.cons (o := _) rfl (fun K hK => ?_) AllReadyH.nil)
      · go_simp
        refine hK.out _ _ ?_ (fun hHeld => ?_)
        · ((try dsimp only); refine HC.out _ ?_; repeat (first | exact HKR.out | apply Keep.drew | apply Keep.alloc | refine Keep.setCell ?_ _ _ (fun _ => ⟨HV.out.ge, .inl rfl⟩)))
        clear hK K
        (try simp only [List.getElem_toArray, List.getElem_cons_zero, List.getElem_cons_succ, Act.put, List.setIfInBounds_toArray, List.set_cons_zero, List.set_cons_succ])
        refine wpAnyH_ready (rs := [11]) (by kernel_rfl) (by simp) ?_
        refine AllReadyH.cons (o := _) rfl (fun K hK => ?_) AllReadyH.nil
        go_simp
        refine hK.out _ _ ?_ (fun hHeld => ?_)
        · ((try dsimp only); refine HC.out _ ?_; repeat (first | exact HKR.out | apply Keep.drew | apply Keep.alloc | refine Keep.setCell ?_ _ _ (fun _ => ⟨HV.out.ge, .inl rfl⟩)))
        clear hK K
        (try simp only [List.getElem_toArray, List.getElem_cons_zero, List.getElem_cons_succ, Act.put, List.setIfInBounds_toArray, List.set_cons_zero, List.set_cons_succ])
        refine wpAnyH_ready (rs := [12]) (by kernel_rfl) (by simp) ?_
        refine AllReadyH.cons (o := _) rfl (fun K hK => ?_) AllReadyH.nil
        rw [if_pos (by rfl)]
        rw [← HW2.out]
        refine oper_app (w := w2.drew) (.tmp 22) (.tmp 29) 88 88 rfl 127 zPair 2 16 Tryz.underlying88 info176 rfl HOT.out rfl HST.out rfl (by unfold maxLen; omega) (by omega) (Nat.le_trans H1.out.lt HK12.out.size) (fun v' w7 happ => ?_)
        obtain ⟨ao7, cap7, rfl, _⟩ := ownsRow_shape happ.own
        have h6 := H1.out.keep HK12.out.drew (fun _ _ h => h)
        have h7 := h6.setTests (w1 := w7) (v' := .slice ao7 (S.tests.length + 1) cap7) (ls := S.tests ++ [(x, gd)]) happ.keep (by have := happ.own; simpa [pairCells, pairCell] using this) happ.fresh
        have hb7 := h6.blk.keep happ.keep h6.tne
        have d3 := hb7.cell 3
        have f3 := hb7.free 3
        simp [StV.cells] at d3 f3
        have HKR := Lib.hid (((HK01.out.trans HK12.out.drew (fun _ _ h => h)).mono (T := fun k => base ≤ k ∧ StV.fp ⟨b, vb, vl, vc, .slice too S.tests.length tc, .slice no' S.notes.length nc'⟩ k) (fun _ _ h => h.elim)).trans happ.keep (fun k _ e => ⟨h6.fp_ge.2.2.1 k e, .inr (.inr (.inr (.inr (.inl e))))⟩))
        have HA := Lib.hid happ
        have H6 := Lib.hid h6
        have H7 := Lib.hid h7
        clear happ h6 h7 hb7
        (try dsimp only)
        refine hK.out _ _ ?_ (fun hHeld => ?_)
        · ((try dsimp only); refine HC.out _ ?_; repeat (first | exact HKR.out | apply Keep.drew | apply Keep.alloc | refine Keep.setCell ?_ _ _ (fun _ => ⟨HV.out.ge, .inl rfl⟩)))
        clear hK K
        (try simp only [List.getElem_toArray, List.getElem_cons_zero, List.getElem_cons_succ, Act.put, List.setIfInBounds_toArray, List.set_cons_zero, List.set_cons_succ])
        refine wpAnyH_take (i := 13) (oi := _) (v := ?_) rfl (by kernel_rfl) (by kernel_rfl) (by kernel_rfl) (fun _ _ _ h => h) (Or.inl ⟨by rfl, ?_⟩) (by assumption) ?_
        rotate_left
        · (intro w hSw; (try dsimp only at hSw); go_simp) <;> with_reducible rfl
        (try simp only [List.getElem_toArray, List.getElem_cons_zero, List.getElem_cons_succ, Act.put, List.setIfInBounds_toArray, List.set_cons_zero, List.set_cons_succ])
        refine wpAnyH_take (i := 14) (oi := _) (v := ?_) rfl (by kernel_rfl) (by kernel_rfl) (by kernel_rfl) (fun _ _ _ h => h) (Or.inl ⟨by rfl, ?_⟩) (by assumption) ?_
        rotate_left
        · (intro w hSw; (try dsimp only at hSw); go_simp) <;> with_reducible rfl
        (try simp only [List.getElem_toArray, List.getElem_cons_zero, List.getElem_cons_succ, Act.put, List.setIfInBounds_toArray, List.set_cons_zero, List.set_cons_succ])
        refine wpAnyH_ready (rs := [15]) (by kernel_rfl) (by simp) ?_
        refine AllReadyH.cons (o := _) rfl (fun K hK => ?_) AllReadyH.nil
        go_simp
        refine hK.out _ _ ?_ (fun hHeld => ?_)
        · ((try dsimp only); refine HC.out _ ?_; repeat (first | exact HKR.out | apply Keep.drew | apply Keep.alloc | refine Keep.setCell ?_ _ _ (fun _ => ⟨HV.out.ge, .inl rfl⟩)))
        clear hK K
        (try simp only [List.getElem_toArray, List.getElem_cons_zero, List.getElem_cons_succ, Act.put, List.setIfInBounds_toArray, List.set_cons_zero, List.set_cons_succ])
        refine wpAnyH_done (by kernel_rfl) ?_ _
        refine NoPanic.normal ?_
        go_wp2
        obtain ⟨w4, hw4⟩ : ∃ w4, w4 = w7.setCell ⟨b, 3, none⟩ (.slice ao7 (S.tests.length + 1) cap7) := ⟨_, rfl⟩
        have hch : Chg base w1 ⟨b, vb, vl, vc, .slice too S.tests.length tc, .slice no' S.notes.length nc'⟩ ⟨b, vb, vl, vc, .slice ao7 (S.tests.length + 1) cap7, .slice no' S.notes.length nc'⟩ (w7.setCell ⟨b, 3, none⟩ (.slice ao7 (S.tests.length + 1) cap7)) := by
          refine ⟨rfl, rfl, fun k hk => ?_, ((HK12.out.drew.mono (fun _ _ h => h.elim)).trans (HA.out.keep.mono (T := fun k => base ≤ k ∧ StV.fp ⟨b, vb, vl, vc, .slice too S.tests.length tc, .slice no' S.notes.length nc'⟩ k) (fun k _ e => ⟨H6.out.fp_ge.2.2.1 k e, .inr (.inr (.inr (.inr (.inl e))))⟩)) (fun _ _ h => h)).setCell _ _ (fun _ => ⟨H1.out.ge, .inl rfl⟩)⟩
          rcases hk with e | e | e | e | e | e
          · exact .inl (.inl e)
          · exact .inl (.inr (.inl e))
          · exact .inl (.inr (.inr (.inl e)))
          · exact .inl (.inr (.inr (.inr (.inl e))))
          · rcases HA.out.fresh with h1 | ⟨g, h1, h2⟩
            · exact .inl (.inr (.inr (.inr (.inr (.inl (h1.symm.trans e))))))
            · have h3 : g = k := Option.some.inj (h1.symm.trans e)
              have h4 := HK12.out.size
              have h5 : w2.heap.size ≤ g := h2
              exact .inr (by omega)
          · exact .inl (.inr (.inr (.inr (.inr (.inr e)))))
        have HC4 := Lib.hid ((Chg.before (HK0.out.trans HK01.out (fun _ _ h => h)) hch))
        have hkw4 := HKR.out.setCell ⟨b, 3, none⟩ (.slice ao7 (S.tests.length + 1) cap7) (fun _ => ⟨HV.out.ge, .inl rfl⟩)
        have H4 := H7
        rw [← hw4] at H4 HC4 hkw4
        rw [← hw4]
        have HKW4 := Lib.hid hkw4
        clear H7 hw4 d3 f3 hch hkw4
        have d4 := H4.out.blk.cell 4
        simp [StV.cells] at d4
        have HG4 := Lib.hid (hG.keep HC4.out.keep (fun i hi e => by have := e.1; omega))
        have HIT : Hid (∀ W, Keep (fun _ => False) w4 W → Calls Tryz.prog 64 #[.int .i64 x] W (ItoaPost W x)) := Lib.hid fun W hk => itoa_any (HG4.out.glob.keep hk) HX.out.1 HX.out.2
        have HKR3 : Hid (Keep (fun _ => False) w4 w4.drew) := Lib.hid (Keep.refl _ _).drew
        have HKR2 : Hid (Keep (fun k => k = b ∨ (Value.slice no' S.notes.length nc').ownBlock = some k) w4 w4.drew) := Lib.hid (Keep.refl _ _).drew
        have HC2 : Hid (∀ W, Keep (fun k => k = b ∨ (Value.slice no' S.notes.length nc').ownBlock = some k) w4 W → (fun W => W.cell? ⟨w.heap.size, 0, none⟩ = some (.slice (some ⟨nb, no, none⟩) 1 nc) ∧ W.cell? ⟨w.heap.size, 1, none⟩ = some (.string word) ∧ W.cell? ⟨nb, no, none⟩ = some (.int .i64 x)) W) := Lib.hid fun W hk => HC.out W (HKW4.out.trans hk (fun k _ e => e.elim (fun e => ⟨e ▸ HV.out.ge, .inl e⟩) (fun e => ⟨HV.out.fp_ge.2.2.2 k e, .inr (.inr (.inr (.inr (.inr e))))⟩)))
        refine wp_region_noPanic ?_
        refine wp_region_held_drew (S := fun W => W.cell? ⟨w.heap.size, 0, none⟩ = some (.slice (some ⟨nb, no, none⟩) 1 nc) ∧ W.cell? ⟨w.heap.size, 1, none⟩ = some (.string word) ∧ W.cell? ⟨nb, no, none⟩ = some (.int .i64 x)) (by kernel_rfl) (HC2.out _ HKR2.out) (fun hHeld => ?_)
        refine wpAnyH_take (i := 0) (oi := _) (v := ?_) rfl (by kernel_rfl) (by kernel_rfl) (by kernel_rfl) (fun _ _ _ h => h) (Or.inl ⟨by rfl, ?_⟩) (by assumption) ?_
        rotate_left
        · (intro w hSw; (try dsimp only at hSw); go_simp) <;> with_reducible rfl
        (try simp only [List.getElem_toArray, List.getElem_cons_zero, List.getElem_cons_succ, Act.put, List.setIfInBounds_toArray, List.set_cons_zero, List.set_cons_succ])
        refine wpAnyH_take (i := 1) (oi := _) (v := ?_) rfl (by kernel_rfl) (by kernel_rfl) (by kernel_rfl) (fun _ _ _ h => h) (Or.inl ⟨by rfl, ?_⟩) (by assumption) ?_
        rotate_left
        · (intro w hSw; (try dsimp only at hSw); go_simp) <;> with_reducible rfl
        (try simp only [List.getElem_toArray, List.getElem_cons_zero, List.getElem_cons_succ, Act.put, List.setIfInBounds_toArray, List.set_cons_zero, List.set_cons_succ])
        refine wpAnyH_take (i := 2) (oi := _) (v := ?_) rfl (by kernel_rfl) (by kernel_rfl) (by kernel_rfl) (fun _ _ _ h => h) (Or.inl ⟨by rfl, ?_⟩) (by assumption) ?_
        rotate_left
        · (intro w hSw; (try dsimp only at hSw); go_simp) <;> with_reducible rfl
        (try simp only [List.getElem_toArray, List.getElem_cons_zero, List.getElem_cons_succ, Act.put, List.setIfInBounds_toArray, List.set_cons_zero, List.set_cons_succ])
        refine wpAnyH_take (i := 3) (oi := _) (v := ?_) rfl (by kernel_rfl) (by kernel_rfl) (by kernel_rfl) (fun _ _ _ h => h) (Or.inl ⟨by rfl, ?_⟩) (by assumption) ?_
        rotate_left
        · (intro w hSw; (try dsimp only at hSw); go_simp) <;> with_reducible rfl
        (try simp only [List.getElem_toArray, List.getElem_cons_zero, List.getElem_cons_succ, Act.put, List.setIfInBounds_toArray, List.set_cons_zero, List.set_cons_succ])
        refine wpAnyH_take (i := 5) (oi := _) (v := ?_) rfl (by kernel_rfl) (by kernel_rfl) (by kernel_rfl) (fun _ _ _ h => h) (Or.inl ⟨by rfl, ?_⟩) (by assumption) ?_
        rotate_left
        · (intro w hSw; (try dsimp only at hSw); go_simp) <;> with_reducible rfl
        (try simp only [List.getElem_toArray, List.getElem_cons_zero, List.getElem_cons_succ, Act.put, List.setIfInBounds_toArray, List.set_cons_zero, List.set_cons_succ])
        refine wpAnyH_take (i := 6) (oi := _) (v := ?_) rfl (by kernel_rfl) (by kernel_rfl) (by kernel_rfl) (fun _ _ _ h => h) (Or.inl ⟨by rfl, ?_⟩) (by assumption) ?_
        rotate_left
        · (intro w hSw; (try dsimp only at hSw); go_simp) <;> with_reducible rfl
        (try simp only [List.getElem_toArray, List.getElem_cons_zero, List.getElem_cons_succ, Act.put, List.setIfInBounds_toArray, List.set_cons_zero, List.set_cons_succ])
        refine wpAnyH_take (i := 7) (oi := _) (v := ?_) rfl (by kernel_rfl) (by kernel_rfl) (by kernel_rfl) (fun _ _ _ h => h) (Or.inl ⟨by rfl, ?_⟩) (by assumption) ?_
        rotate_left
        · (intro w hSw; (try dsimp only at hSw); go_simp) <;> with_reducible rfl
        (try simp only [List.getElem_toArray, List.getElem_cons_zero, List.getElem_cons_succ, Act.put, List.setIfInBounds_toArray, List.set_cons_zero, List.set_cons_succ])
        refine wpAnyH_take (i := 8) (oi := _) (v := ?_) rfl (by kernel_rfl) (by kernel_rfl) (by kernel_rfl) (fun _ _ _ h => h) (Or.inl ⟨by rfl, ?_⟩) (by assumption) ?_
        rotate_left
        · (intro w hSw; (try dsimp only at hSw); go_simp) <;> with_reducible rfl
        (try simp only [List.getElem_toArray, List.getElem_cons_zero, List.getElem_cons_succ, Act.put, List.setIfInBounds_toArray, List.set_cons_zero, List.set_cons_succ])
        refine wpAnyH_take (i := 12) (oi := _) (v := ?_) rfl (by kernel_rfl) (by kernel_rfl) (by kernel_rfl) (fun _ _ _ h => h) (Or.inl ⟨by rfl, ?_⟩) (by assumption) ?_
        rotate_left
        · (intro w hSw; (try dsimp only at hSw); go_simp) <;> with_reducible rfl
        (try simp only [List.getElem_toArray, List.getElem_cons_zero, List.getElem_cons_succ, Act.put, List.setIfInBounds_toArray, List.set_cons_zero, List.set_cons_succ])
        refine wpAnyH_take (i := 13) (oi := _) (v := ?_) rfl (by kernel_rfl) (by kernel_rfl) (by kernel_rfl) (fun _ _ _ h => h) (Or.inl ⟨by rfl, ?_⟩) (by assumption) ?_
        rotate_left
        · (intro w hSw; (try dsimp only at hSw); go_simp) <;> with_reducible rfl
        (try simp only [List.getElem_toArray, List.getElem_cons_zero, List.getElem_cons_succ, Act.put, List.setIfInBounds_toArray, List.set_cons_zero, List.set_cons_succ])
        refine wpAnyH_ready (rs := [4, 9]) (by kernel_rfl) (by simp) ?_
        refine AllReadyH.cons (o := _) rfl (fun K hK => ?_) (AllReadyH.cons (o := _) rfl (fun K hK => ?_) AllReadyH.nil)
        · go_simp
          refine hK.out _ _ ?_ (fun hHeld => ?_)
          · ((try dsimp only); refine HC2.out _ ?_; repeat (first | exact HKR2.out | apply Keep.drew | apply Keep.alloc | refine Keep.setCell ?_ _ _ (fun _ => .inl rfl)))
          clear hK K
          (try simp only [List.getElem_toArray, List.getElem_cons_zero, List.getElem_cons_succ, Act.put, List.setIfInBounds_toArray, List.set_cons_zero, List.set_cons_succ])
          refine wpAnyH_ready (rs := [9]) (by kernel_rfl) (by simp) ?_
          refine AllReadyH.cons (o := _) rfl (fun K hK => ?_) AllReadyH.nil
          go_simp
          refine Calls.mono (HIT.out _ HKR3.out) ?_
          rintro e Wc ⟨rfl, hkc⟩
          have HKR3 := Lib.hid (HKR3.out.trans hkc (fun _ _ h => h))
          have HKR2 := Lib.hid (HKR3.out.mono (T := fun k => k = b ∨ (Value.slice no' S.notes.length nc').ownBlock = some k) (fun _ _ h => h.elim))
          have d4 := (H4.out.keep HKR3.out (fun _ _ h => h)).blk.cell 4
          simp [StV.cells] at d4
          have hlt4 : b < Wc.heap.size := (H4.out.keep HKR3.out (fun _ _ h => h)).blk.lt
          clear hkc
          (try dsimp only)
          refine hK.out _ _ ?_ (fun hHeld => ?_)
          · ((try dsimp only); refine HC2.out _ ?_; repeat (first | exact HKR2.out | apply Keep.drew | apply Keep.alloc | refine Keep.setCell ?_ _ _ (fun _ => .inl rfl)))
          clear hK K
          (try simp only [List.getElem_toArray, List.getElem_cons_zero, List.getElem_cons_succ, Act.put, List.setIfInBounds_toArray, List.set_cons_zero, List.set_cons_succ])
          refine wpAnyH_take (i := 10) (oi := _) (v := ?_) rfl (by kernel_rfl) (by kernel_rfl) (by kernel_rfl) (fun _ _ _ h => h) (Or.inl ⟨by rfl, ?_⟩) (by assumption) ?_
          rotate_left
          · (intro w hSw; (try dsimp only at hSw); go_simp) <;> with_reducible rfl
          (try simp only [List.getElem_toArray, List.getElem_cons_zero, List.getElem_cons_succ, Act.put, List.setIfInBounds_toArray, List.set_cons_zero, List.set_cons_succ])
          refine wpAnyH_take (i := 11) (oi := _) (v := ?_) rfl (by kernel_rfl) (by kernel_rfl) (by kernel_rfl) (fun _ _ _ h => h) (Or.inl ⟨by rfl, ?_⟩) (by assumption) ?_
          rotate_left
          · (intro w hSw; (try dsimp only at hSw); go_simp) <;> with_reducible rfl
          (try simp only [List.getElem_toArray, List.getElem_cons_zero, List.getElem_cons_succ, Act.put, List.setIfInBounds_toArray, List.set_cons_zero, List.set_cons_succ])
          refine wpAnyH_take (i := 14) (oi := _) (v := ?_) rfl (by kernel_rfl) (by kernel_rfl) (by kernel_rfl) (fun _ _ _ h => h) (Or.inl ⟨by rfl, ?_⟩) (by assumption) ?_
          rotate_left
          · (intro w hSw; (try dsimp only at hSw); go_simp) <;> with_reducible rfl
          (try simp only [List.getElem_toArray, List.getElem_cons_zero, List.getElem_cons_succ, Act.put, List.setIfInBounds_toArray, List.set_cons_zero, List.set_cons_succ])
          refine wpAnyH_ready (rs := [15]) (by kernel_rfl) (by simp) ?_
          refine AllReadyH.cons (o := _) rfl (fun K hK => ?_) AllReadyH.nil
          go_simp
          refine hK.out _ _ ?_ (fun hHeld => ?_)
          · ((try dsimp only); refine HC2.out _ ?_; repeat (first | exact HKR2.out | apply Keep.drew | apply Keep.alloc | refine Keep.setCell ?_ _ _ (fun _ => .inl rfl)))
          clear hK K
          (try simp only [List.getElem_toArray, List.getElem_cons_zero, List.getElem_cons_succ, Act.put, List.setIfInBounds_toArray, List.set_cons_zero, List.set_cons_succ])
          refine wpAnyH_ready (rs := [16]) (by kernel_rfl) (by simp) ?_
          refine AllReadyH.cons (o := _) rfl (fun K hK => ?_) AllReadyH.nil
          rw [if_pos (by rfl)]
          have ho6 : (Wc.alloc (.cells #[.string (testNote x word)] 9)).ownsRow base 9 1 (.slice no' S.notes.length nc') S.notes.length (strCells S.notes) := ownsRow_keep (H4.out.on) (HKR3.out.alloc (.cells #[.string (testNote x word)] 9)) (fun _ _ h => h)
          refine oper_app (.tmp 37) (.tmp 48) 24 24 rfl 9 (.string ⟨#[]⟩) 1 16 Tryz.underlying24 info9 rfl ho6 rfl ((Rd.new Wc 1 1 [.string (testNote x word)] 9 rfl (by simp [Value.oneCell']) (by unfold maxLen; omega)).src Tryz.underlying24) rfl (by unfold maxLen; omega) (by omega) (Nat.le_trans H4.out.lt (HKR3.out.alloc (.cells #[.string (testNote x word)] 9)).size) (fun v' w8 happ => ?_)
          obtain ⟨ao8, cap8, rfl, _⟩ := ownsRow_shape happ.own
          have h6 := H4.out.keep (HKR3.out.alloc (.cells #[.string (testNote x word)] 9)) (fun _ _ h => h)
          have h8 := h6.setNotes (w1 := w8) (v' := .slice ao8 (S.notes.length + 1) cap8) (ls := S.notes ++ [testNote x word]) happ.keep (by have := happ.own; simpa [strCells] using this) happ.fresh
          have hb8 := h6.blk.keep happ.keep h6.nne
          have d4 := hb8.cell 4
          have f4 := hb8.free 4
          simp [StV.cells] at d4 f4
          have HKR2 := Lib.hid (((HKR3.out.alloc (.cells #[.string (testNote x word)] 9)).mono (T := fun k => k = b ∨ (Value.slice no' S.notes.length nc').ownBlock = some k) (fun _ _ h => h.elim)).trans happ.keep (fun _ _ e => .inr e))
          have HB := Lib.hid happ
          have H5 := Lib.hid h6
          have H8 := Lib.hid h8
          clear happ h6 h8 hb8
          (try dsimp only)
          refine hK.out _ _ ?_ (fun hHeld => ?_)
          · ((try dsimp only); refine HC2.out _ ?_; repeat (first | exact HKR2.out | apply Keep.drew | apply Keep.alloc | refine Keep.setCell ?_ _ _ (fun _ => .inl rfl)))
          clear hK K
          (try simp only [List.getElem_toArray, List.getElem_cons_zero, List.getElem_cons_succ, Act.put, List.setIfInBounds_toArray, List.set_cons_zero, List.set_cons_succ])
          refine wpAnyH_take (i := 17) (oi := _) (v := ?_) rfl (by kernel_rfl) (by kernel_rfl) (by kernel_rfl) (fun _ _ _ h => h) (Or.inl ⟨by rfl, ?_⟩) (by assumption) ?_
          rotate_left
          · (intro w hSw; (try dsimp only at hSw); go_simp) <;> with_reducible rfl
          (try simp only [List.getElem_toArray, List.getElem_cons_zero, List.getElem_cons_succ, Act.put, List.setIfInBounds_toArray, List.set_cons_zero, List.set_cons_succ])
          refine wpAnyH_take (i := 18) (oi := _) (v := ?_) rfl (by kernel_rfl) (by kernel_rfl) (by kernel_rfl) (fun _ _ _ h => h) (Or.inl ⟨by rfl, ?_⟩) (by assumption) ?_
          rotate_left
          · (intro w hSw; (try dsimp only at hSw); go_simp) <;> with_reducible rfl
          (try simp only [List.getElem_toArray, List.getElem_cons_zero, List.getElem_cons_succ, Act.put, List.setIfInBounds_toArray, List.set_cons_zero, List.set_cons_succ])
          refine wpAnyH_ready (rs := [19]) (by kernel_rfl) (by simp) ?_
          refine AllReadyH.cons (o := _) rfl (fun K hK => ?_) AllReadyH.nil
          go_simp
          refine hK.out _ _ ?_ (fun hHeld => ?_)
          · ((try dsimp only); refine HC2.out _ ?_; repeat (first | exact HKR2.out | apply Keep.drew | apply Keep.alloc | refine Keep.setCell ?_ _ _ (fun _ => .inl rfl)))
          clear hK K
          (try simp only [List.getElem_toArray, List.getElem_cons_zero, List.getElem_cons_succ, Act.put, List.setIfInBounds_toArray, List.set_cons_zero, List.set_cons_succ])
          refine wpAnyH_done (by kernel_rfl) ?_ _
          refine NoPanic.normal ?_
          go_wp2
          go_ret2
          refine ⟨by rw [HF.out]; rfl, ⟨b, vb, vl, vc, .slice ao7 (S.tests.length + 1) cap7, .slice ao8 (S.notes.length + 1) cap8⟩, fun _ => by rw [HF.out]; exact H8.out, ?_⟩
          refine HC4.out.trans ⟨rfl, rfl, fun k hk => ?_, (HKR2.out.setCell _ _ (fun _ => .inl rfl)).mono (fun k _ e => e.elim (fun e => ⟨e ▸ H4.out.ge, .inl e⟩) (fun e => ⟨H4.out.fp_ge.2.2.2 k e, .inr (.inr (.inr (.inr (.inr e))))⟩))⟩
          rcases hk with e | e | e | e | e | e
          · exact .inl (.inl e)
          · exact .inl (.inr (.inl e))
          · exact .inl (.inr (.inr (.inl e)))
          · exact .inl (.inr (.inr (.inr (.inl e))))
          · exact .inl (.inr (.inr (.inr (.inr (.inl e)))))
          · rcases HB.out.fresh with h1 | ⟨g, h1, h2⟩
            · exact .inl (.inr (.inr (.inr (.inr (.inr (h1.symm.trans e))))))
            · have h3 : g = k := Option.some.inj (h1.symm.trans e)
              have h4 := (HKR3.out.alloc (.cells #[.string (testNote x word)] 9)).size
              have h5 : (Wc.alloc (.cells #[.string (testNote x word)] 9)).heap.size ≤ g := h2
              exact .inr (by omega)
        · go_simp
          refine Calls.mono (HIT.out _ HKR3.out) ?_
          rintro e Wc ⟨rfl, hkc⟩
          have HKR3 := Lib.hid (HKR3.out.trans hkc (fun _ _ h => h))
          have HKR2 := Lib.hid (HKR3.out.mono (T := fun k => k = b ∨ (Value.slice no' S.notes.length nc').ownBlock = some k) (fun _ _ h => h.elim))
          have d4 := (H4.out.keep HKR3.out (fun _ _ h => h)).blk.cell 4
          simp [StV.cells] at d4
          have hlt4 : b < Wc.heap.size := (H4.out.keep HKR3.out (fun _ _ h => h)).blk.lt
          clear hkc
          (try dsimp only)
          refine hK.out _ _ ?_ (fun hHeld => ?_)
          · ((try dsimp only); refine HC2.out _ ?_; repeat (first | exact HKR2.out | apply Keep.drew | apply Keep.alloc | refine Keep.setCell ?_ _ _ (fun _ => .inl rfl)))
          clear hK K
          (try simp only [List.getElem_toArray, List.getElem_cons_zero, List.getElem_cons_succ, Act.put, List.setIfInBounds_toArray, List.set_cons_zero, List.set_cons_succ])
          refine wpAnyH_take (i := 10) (oi := _) (v := ?_) rfl (by kernel_rfl) (by kernel_rfl) (by kernel_rfl) (fun _ _ _ h => h) (Or.inl ⟨by rfl, ?_⟩) (by assumption) ?_
          rotate_left
          · (intro w hSw; (try dsimp only at hSw); go_simp) <;> with_reducible rfl
          (try simp only [List.getElem_toArray, List.getElem_cons_zero, List.getElem_cons_succ, Act.put, List.setIfInBounds_toArray, List.set_cons_zero, List.set_cons_succ])
          refine wpAnyH_take (i := 11) (oi := _) (v := ?_) rfl (by kernel_rfl) (by kernel_rfl) (by kernel_rfl) (fun _ _ _ h => h) (Or.inl ⟨by rfl, ?_⟩) (by assumption) ?_
          rotate_left
          · (intro w hSw; (try dsimp only at hSw); go_simp) <;> with_reducible rfl
          (try simp only [List.getElem_toArray, List.getElem_cons_zero, List.getElem_cons_succ, Act.put, List.setIfInBounds_toArray, List.set_cons_zero, List.set_cons_succ])
          refine wpAnyH_take (i := 14) (oi := _) (v := ?_) rfl (by kernel_rfl) (by kernel_rfl) (by kernel_rfl) (fun _ _ _ h => h) (Or.inl ⟨by rfl, ?_⟩) (by assumption) ?_
          rotate_left
          · (intro w hSw; (try dsimp only at hSw); go_simp) <;> with_reducible rfl
          (try simp only [List.getElem_toArray, List.getElem_cons_zero, List.getElem_cons_succ, Act.put, List.setIfInBounds_toArray, List.set_cons_zero, List.set_cons_succ])
          refine wpAnyH_ready (rs := [4, 15]) (by kernel_rfl) (by simp) ?_
          refine AllReadyH.cons (o := _) rfl (fun K hK => ?_) (AllReadyH.cons (o := _) rfl (fun K hK => ?_) AllReadyH.nil)
          · go_simp
            refine hK.out _ _ ?_ (fun hHeld => ?_)
            · ((try dsimp only); refine HC2.out _ ?_; repeat (first | exact HKR2.out | apply Keep.drew | apply Keep.alloc | refine Keep.setCell ?_ _ _ (fun _ => .inl rfl)))
            clear hK K
            (try simp only [List.getElem_toArray, List.getElem_cons_zero, List.getElem_cons_succ, Act.put, List.setIfInBounds_toArray, List.set_cons_zero, List.set_cons_succ])
            refine wpAnyH_ready (rs := [15]) (by kernel_rfl) (by simp) ?_
            refine AllReadyH.cons (o := _) rfl (fun K hK => ?_) AllReadyH.nil
            go_simp
            refine hK.out _ _ ?_ (fun hHeld => ?_)
            · ((try dsimp only); refine HC2.out _ ?_; repeat (first | exact HKR2.out | apply Keep.drew | apply Keep.alloc | refine Keep.setCell ?_ _ _ (fun _ => .inl rfl)))
            clear hK K
            (try simp only [List.getElem_toArray, List.getElem_cons_zero, List.getElem_cons_succ, Act.put, List.setIfInBounds_toArray, List.set_cons_zero, List.set_cons_succ])
            refine wpAnyH_ready (rs := [16]) (by kernel_rfl) (by simp) ?_
            refine AllReadyH.cons (o := _) rfl (fun K hK => ?_) AllReadyH.nil
            rw [if_pos (by rfl)]
            have ho6 : (Wc.alloc (.cells #[.string (testNote x word)] 9)).ownsRow base 9 1 (.slice no' S.notes.length nc') S.notes.length (strCells S.notes) := ownsRow_keep (H4.out.on) (HKR3.out.alloc (.cells #[.string (testNote x word)] 9)) (fun _ _ h => h)
            refine oper_app (.tmp 37) (.tmp 48) 24 24 rfl 9 (.string ⟨#[]⟩) 1 16 Tryz.underlying24 info9 rfl ho6 rfl ((Rd.new Wc 1 1 [.string (testNote x word)] 9 rfl (by simp [Value.oneCell']) (by unfold maxLen; omega)).src Tryz.underlying24) rfl (by unfold maxLen; omega) (by omega) (Nat.le_trans H4.out.lt (HKR3.out.alloc (.cells #[.string (testNote x word)] 9)).size) (fun v' w8 happ => ?_)
            obtain ⟨ao8, cap8, rfl, _⟩ := ownsRow_shape happ.own
            have h6 := H4.out.keep (HKR3.out.alloc (.cells #[.string (testNote x word)] 9)) (fun _ _ h => h)
            have h8 := h6.setNotes (w1 := w8) (v' := .slice ao8 (S.notes.length + 1) cap8) (ls := S.notes ++ [testNote x word]) happ.keep (by have := happ.own; simpa [strCells] using this) happ.fresh
            have hb8 := h6.blk.keep happ.keep h6.nne
            have d4 := hb8.cell 4
            have f4 := hb8.free 4
            simp [StV.cells] at d4 f4
            have HKR2 := Lib.hid (((HKR3.out.alloc (.cells #[.string (testNote x word)] 9)).mono (T := fun k => k = b ∨ (Value.slice no' S.notes.length nc').ownBlock = some k) (fun _ _ h => h.elim)).trans happ.keep (fun _ _ e => .inr e))
            have HB := Lib.hid happ
            have H5 := Lib.hid h6
            have H8 := Lib.hid h8
            clear happ h6 h8 hb8
            (try dsimp only)
            refine hK.out _ _ ?_ (fun hHeld => ?_)
            · ((try dsimp only); refine HC2.out _ ?_; repeat (first | exact HKR2.out | apply Keep.drew | apply Keep.alloc | refine Keep.setCell ?_ _ _ (fun _ => .inl rfl)))
            clear hK K
            (try simp only [List.getElem_toArray, List.getElem_cons_zero, List.getElem_cons_succ, Act.put, List.setIfInBounds_toArray, List.set_cons_zero, List.set_cons_succ])
            refine wpAnyH_take (i := 17) (oi := _) (v := ?_) rfl (by kernel_rfl) (by kernel_rfl) (by kernel_rfl) (fun _ _ _ h => h) (Or.inl ⟨by rfl, ?_⟩) (by assumption) ?_
            rotate_left
            · (intro w hSw; (try dsimp only at hSw); go_simp) <;> with_reducible rfl
            (try simp only [List.getElem_toArray, List.getElem_cons_zero, List.getElem_cons_succ, Act.put, List.setIfInBounds_toArray, List.set_cons_zero, List.set_cons_succ])
            refine wpAnyH_take (i := 18) (oi := _) (v := ?_) rfl (by kernel_rfl) (by kernel_rfl) (by kernel_rfl) (fun _ _ _ h => h) (Or.inl ⟨by rfl, ?_⟩) (by assumption) ?_
            rotate_left
            · (intro w hSw; (try dsimp only at hSw); go_simp) <;> with_reducible rfl
            (try simp only [List.getElem_toArray, List.getElem_cons_zero, List.getElem_cons_succ, Act.put, List.setIfInBounds_toArray, List.set_cons_zero, List.set_cons_succ])
            refine wpAnyH_ready (rs := [19]) (by kernel_rfl) (by simp) ?_
            refine AllReadyH.cons (o := _) rfl (fun K hK => ?_) AllReadyH.nil
            go_simp
            refine hK.out _ _ ?_ (fun hHeld => ?_)
            · ((try dsimp only); refine HC2.out _ ?_; repeat (first | exact HKR2.out | apply Keep.drew | apply Keep.alloc | refine Keep.setCell ?_ _ _ (fun _ => .inl rfl)))
            clear hK K
            (try simp only [List.getElem_toArray, List.getElem_cons_zero, List.getElem_cons_succ, Act.put, List.setIfInBounds_toArray, List.set_cons_zero, List.set_cons_succ])
            refine wpAnyH_done (by kernel_rfl) ?_ _
            refine NoPanic.normal ?_
            go_wp2
            go_ret2
            refine ⟨by rw [HF.out]; rfl, ⟨b, vb, vl, vc, .slice ao7 (S.tests.length + 1) cap7, .slice ao8 (S.notes.length + 1) cap8⟩, fun _ => by rw [HF.out]; exact H8.out, ?_⟩
            refine HC4.out.trans ⟨rfl, rfl, fun k hk => ?_, (HKR2.out.setCell _ _ (fun _ => .inl rfl)).mono (fun k _ e => e.elim (fun e => ⟨e ▸ H4.out.ge, .inl e⟩) (fun e => ⟨H4.out.fp_ge.2.2.2 k e, .inr (.inr (.inr (.inr (.inr e))))⟩))⟩
            rcases hk with e | e | e | e | e | e
            · exact .inl (.inl e)
            · exact .inl (.inr (.inl e))
            · exact .inl (.inr (.inr (.inl e)))
            · exact .inl (.inr (.inr (.inr (.inl e))))
            · exact .inl (.inr (.inr (.inr (.inr (.inl e)))))
            · rcases HB.out.fresh with h1 | ⟨g, h1, h2⟩
              · exact .inl (.inr (.inr (.inr (.inr (.inr (h1.symm.trans e))))))
              · have h3 : g = k := Option.some.inj (h1.symm.trans e)
                have h4 := (HKR3.out.alloc (.cells #[.string (testNote x word)] 9)).size
                have h5 : (Wc.alloc (.cells #[.string (testNote x word)] 9)).heap.size ≤ g := h2
                exact .inr (by omega)
          · go_simp
            refine hK.out _ _ ?_ (fun hHeld => ?_)
            · ((try dsimp only); refine HC2.out _ ?_; repeat (first | exact HKR2.out | apply Keep.drew | apply Keep.alloc | refine Keep.setCell ?_ _ _ (fun _ => .inl rfl)))
            clear hK K
            (try simp only [List.getElem_toArray, List.getElem_cons_zero, List.getElem_cons_succ, Act.put, List.setIfInBounds_toArray, List.set_cons_zero, List.set_cons_succ])
            refine wpAnyH_ready (rs := [4]) (by kernel_rfl) (by simp) ?_
            refine AllReadyH.cons (o := _) rfl (fun K hK => ?_) AllReadyH.nil
            go_simp
            refine hK.out _ _ ?_ (fun hHeld => ?_)
            · ((try dsimp only); refine HC2.out _ ?_; repeat (first | exact HKR2.out | apply Keep.drew | apply Keep.alloc | refine Keep.setCell ?_ _ _ (fun _ => .inl rfl)))
            clear hK K
            (try simp only [List.getElem_toArray, List.getElem_cons_zero, List.getElem_cons_succ, Act.put, List.setIfInBounds_toArray, List.set_cons_zero, List.set_cons_succ])
            refine wpAnyH_ready (rs := [16]) (by kernel_rfl) (by simp) ?_
            refine AllReadyH.cons (o := _) rfl (fun K hK => ?_) AllReadyH.nil
            rw [if_pos (by rfl)]
            have ho6 : (Wc.alloc (.cells #[.string (testNote x word)] 9)).ownsRow base 9 1 (.slice no' S.notes.length nc') S.notes.length (strCells S.notes) := ownsRow_keep (H4.out.on) (HKR3.out.alloc (.cells #[.string (testNote x word)] 9)) (fun _ _ h => h)
            refine oper_app (.tmp 37) (.tmp 48) 24 24 rfl 9 (.string ⟨#[]⟩) 1 16 Tryz.underlying24 info9 rfl ho6 rfl ((Rd.new Wc 1 1 [.string (testNote x word)] 9 rfl (by simp [Value.oneCell']) (by unfold maxLen; omega)).src Tryz.underlying24) rfl (by unfold maxLen; omega) (by omega) (Nat.le_trans H4.out.lt (HKR3.out.alloc (.cells #[.string (testNote x word)] 9)).size) (fun v' w8 happ => ?_)
            obtain ⟨ao8, cap8, rfl, _⟩ := ownsRow_shape happ.own
            have h6 := H4.out.keep (HKR3.out.alloc (.cells #[.string (testNote x word)] 9)) (fun _ _ h => h)
            have h8 := h6.setNotes (w1 := w8) (v' := .slice ao8 (S.notes.length + 1) cap8) (ls := S.notes ++ [testNote x word]) happ.keep (by have := happ.own; simpa [strCells] using this) happ.fresh
            have hb8 := h6.blk.keep happ.keep h6.nne
            have d4 := hb8.cell 4
            have f4 := hb8.free 4
            simp [StV.cells] at d4 f4
            have HKR2 := Lib.hid (((HKR3.out.alloc (.cells #[.string (testNote x word)] 9)).mono (T := fun k => k = b ∨ (Value.slice no' S.notes.length nc').ownBlock = some k) (fun _ _ h => h.elim)).trans happ.keep (fun _ _ e => .inr e))
            have HB := Lib.hid happ
            have H5 := Lib.hid h6
            have H8 := Lib.hid h8
            clear happ h6 h8 hb8
            (try dsimp only)
            refine hK.out _ _ ?_ (fun hHeld => ?_)
            · ((try dsimp only); refine HC2.out _ ?_; repeat (first | exact HKR2.out | apply Keep.drew | apply Keep.alloc | refine Keep.setCell ?_ _ _ (fun _ => .inl rfl)))
            clear hK K
            (try simp only [List.getElem_toArray, List.getElem_cons_zero, List.getElem_cons_succ, Act.put, List.setIfInBounds_toArray, List.set_cons_zero, List.set_cons_succ])
            refine wpAnyH_take (i := 17) (oi := _) (v := ?_) rfl (by kernel_rfl) (by kernel_rfl) (by kernel_rfl) (fun _ _ _ h => h) (Or.inl ⟨by rfl, ?_⟩) (by assumption) ?_
            rotate_left
            · (intro w hSw; (try dsimp only at hSw); go_simp) <;> with_reducible rfl
            (try simp only [List.getElem_toArray, List.getElem_cons_zero, List.getElem_cons_succ, Act.put, List.setIfInBounds_toArray, List.set_cons_zero, List.set_cons_succ])
            refine wpAnyH_take (i := 18) (oi := _) (v := ?_) rfl (by kernel_rfl) (by kernel_rfl) (by kernel_rfl) (fun _ _ _ h => h) (Or.inl ⟨by rfl, ?_⟩) (by assumption) ?_
            rotate_left
            · (intro w hSw; (try dsimp only at hSw); go_simp) <;> with_reducible rfl
            (try simp only [List.getElem_toArray, List.getElem_cons_zero, List.getElem_cons_succ, Act.put, List.setIfInBounds_toArray, List.set_cons_zero, List.set_cons_succ])
            refine wpAnyH_ready (rs := [19]) (by kernel_rfl) (by simp) ?_
            refine AllReadyH.cons (o := _) rfl (fun K hK => ?_) AllReadyH.nil
            go_simp
            refine hK.out _ _ ?_ (fun hHeld => ?_)
            · ((try dsimp only); refine HC2.out _ ?_; repeat (first | exact HKR2.out | apply Keep.drew | apply Keep.alloc | refine Keep.setCell ?_ _ _ (fun _ => .inl rfl)))
            clear hK K
            (try simp only [List.getElem_toArray, List.getElem_cons_zero, List.getElem_cons_succ, Act.put, List.setIfInBounds_toArray, List.set_cons_zero, List.set_cons_succ])
            refine wpAnyH_done (by kernel_rfl) ?_ _
            refine NoPanic.normal ?_
            go_wp2
            go_ret2
            refine ⟨by rw [HF.out]; rfl, ⟨b, vb, vl, vc, .slice ao7 (S.tests.length + 1) cap7, .slice ao8 (S.notes.length + 1) cap8⟩, fun _ => by rw [HF.out]; exact H8.out, ?_⟩
            refine HC4.out.trans ⟨rfl, rfl, fun k hk => ?_, (HKR2.out.setCell _ _ (fun _ => .inl rfl)).mono (fun k _ e => e.elim (fun e => ⟨e ▸ H4.out.ge, .inl e⟩) (fun e => ⟨H4.out.fp_ge.2.2.2 k e, .inr (.inr (.inr (.inr (.inr e))))⟩))⟩
            rcases hk with e | e | e | e | e | e
            · exact .inl (.inl e)
            · exact .inl (.inr (.inl e))
            · exact .inl (.inr (.inr (.inl e)))
            · exact .inl (.inr (.inr (.inr (.inl e))))
            · exact .inl (.inr (.inr (.inr (.inr (.inl e)))))
            · rcases HB.out.fresh with h1 | ⟨g, h1, h2⟩
              · exact .inl (.inr (.inr (.inr (.inr (.inr (h1.symm.trans e))))))
              · have h3 : g = k := Option.some.inj (h1.symm.trans e)
                have h4 := (HKR3.out.alloc (.cells #[.string (testNote x word)] 9)).size
                have h5 : (Wc.alloc (.cells #[.string (testNote x word)] 9)).heap.size ≤ g := h2
                exact .inr (by omega)
      · go_simp
        refine hK.out _ _ ?_ (fun hHeld => ?_)
        · ((try dsimp only); refine HC.out _ ?_; repeat (first | exact HKR.out | apply Keep.drew | apply Keep.alloc | refine Keep.setCell ?_ _ _ (fun _ => ⟨HV.out.ge, .inl rfl⟩)))
        clear hK K
        (try simp only [List.getElem_toArray, List.getElem_cons_zero, List.getElem_cons_succ, Act.put, List.setIfInBounds_toArray, List.set_cons_zero, List.set_cons_succ])
        refine wpAnyH_ready (rs := [4]) (by kernel_rfl) (by simp) ?_
        refine AllReadyH.cons (o := _) rfl (fun K hK => ?_) AllReadyH.nil
        go_simp
        refine hK.out _ _ ?_ (fun hHeld => ?_)
        · ((try dsimp only); refine HC.out _ ?_; repeat (first | exact HKR.out | apply Keep.drew | apply Keep.alloc | refine Keep.setCell ?_ _ _ (fun _ => ⟨HV.out.ge, .inl rfl⟩)))
        clear hK K
        (try simp only [List.getElem_toArray, List.getElem_cons_zero, List.getElem_cons_succ, Act.put, List.setIfInBounds_toArray, List.set_cons_zero, List.set_cons_succ])
        refine wpAnyH_ready (rs := [12]) (by kernel_rfl) (by simp) ?_
        refine AllReadyH.cons (o := _) rfl (fun K hK => ?_) AllReadyH.nil
        rw [if_pos (by rfl)]
        rw [← HW2.out]
        refine oper_app (w := w2.drew) (.tmp 22) (.tmp 29) 88 88 rfl 127 zPair 2 16 Tryz.underlying88 info176 rfl HOT.out rfl HST.out rfl (by unfold maxLen; omega) (by omega) (Nat.le_trans H1.out.lt HK12.out.size) (fun v' w7 happ => ?_)
        obtain ⟨ao7, cap7, rfl, _⟩ := ownsRow_shape happ.own
        have h6 := H1.out.keep HK12.out.drew (fun _ _ h => h)
        have h7 := h6.setTests (w1 := w7) (v' := .slice ao7 (S.tests.length + 1) cap7) (ls := S.tests ++ [(x, gd)]) happ.keep (by have := happ.own; simpa [pairCells, pairCell] using this) happ.fresh
        have hb7 := h6.blk.keep happ.keep h6.tne
        have d3 := hb7.cell 3
        have f3 := hb7.free 3
        simp [StV.cells] at d3 f3
        have HKR := Lib.hid (((HK01.out.trans HK12.out.drew (fun _ _ h => h)).mono (T := fun k => base ≤ k ∧ StV.fp ⟨b, vb, vl, vc, .slice too S.tests.length tc, .slice no' S.notes.length nc'⟩ k) (fun _ _ h => h.elim)).trans happ.keep (fun k _ e => ⟨h6.fp_ge.2.2.1 k e, .inr (.inr (.inr (.inr (.inl e))))⟩))
        have HA := Lib.hid happ
        have H6 := Lib.hid h6
        have H7 := Lib.hid h7
        clear happ h6 h7 hb7
        (try dsimp only)
        refine hK.out _ _ ?_ (fun hHeld => ?_)
        · ((try dsimp only); refine HC.out _ ?_; repeat (first | exact HKR.out | apply Keep.drew | apply Keep.alloc | refine Keep.setCell ?_ _ _ (fun _ => ⟨HV.out.ge, .inl rfl⟩)))
        clear hK K
        (try simp only [List.getElem_toArray, List.getElem_cons_zero, List.getElem_cons_succ, Act.put, List.setIfInBounds_toArray, List.set_cons_zero, List.set_cons_succ])
        refine wpAnyH_take (i := 13) (oi := _) (v := ?_) rfl (by kernel_rfl) (by kernel_rfl) (by kernel_rfl) (fun _ _ _ h => h) (Or.inl ⟨by rfl, ?_⟩) (by assumption) ?_
        rotate_left
        · (intro w hSw; (try dsimp only at hSw); go_simp) <;> with_reducible rfl
        (try simp only [List.getElem_toArray, List.getElem_cons_zero, List.getElem_cons_succ, Act.put, List.setIfInBounds_toArray, List.set_cons_zero, List.set_cons_succ])
        refine wpAnyH_take (i := 14) (oi := _) (v := ?_) rfl (by kernel_rfl) (by kernel_rfl) (by kernel_rfl) (fun _ _ _ h => h) (Or.inl ⟨by rfl, ?_⟩) (by assumption) ?_
        rotate_left
        · (intro w hSw; (try dsimp only at hSw); go_simp) <;> with_reducible rfl
        (try simp only [List.getElem_toArray, List.getElem_cons_zero, List.getElem_cons_succ, Act.put, List.setIfInBounds_toArray, List.set_cons_zero, List.set_cons_succ])
        refine wpAnyH_ready (rs := [15]) (by kernel_rfl) (by simp) ?_
        refine AllReadyH.cons (o := _) rfl (fun K hK => ?_) AllReadyH.nil
        go_simp
        refine hK.out _ _ ?_ (fun hHeld => ?_)
        · ((try dsimp only); refine HC.out _ ?_; repeat (first | exact HKR.out | apply Keep.drew | apply Keep.alloc | refine Keep.setCell ?_ _ _ (fun _ => ⟨HV.out.ge, .inl rfl⟩)))
        clear hK K
        (try simp only [List.getElem_toArray, List.getElem_cons_zero, List.getElem_cons_succ, Act.put, List.setIfInBounds_toArray, List.set_cons_zero, List.set_cons_succ])
        refine wpAnyH_done (by kernel_rfl) ?_ _
        refine NoPanic.normal ?_
        go_wp2
        obtain ⟨w4, hw4⟩ : ∃ w4, w4 = w7.setCell ⟨b, 3, none⟩ (.slice ao7 (S.tests.length + 1) cap7) := ⟨_, rfl⟩
        have hch : Chg base w1 ⟨b, vb, vl, vc, .slice too S.tests.length tc, .slice no' S.notes.length nc'⟩ ⟨b, vb, vl, vc, .slice ao7 (S.tests.length + 1) cap7, .slice no' S.notes.length nc'⟩ (w7.setCell ⟨b, 3, none⟩ (.slice ao7 (S.tests.length + 1) cap7)) := by
          refine ⟨rfl, rfl, fun k hk => ?_, ((HK12.out.drew.mono (fun _ _ h => h.elim)).trans (HA.out.keep.mono (T := fun k => base ≤ k ∧ StV.fp ⟨b, vb, vl, vc, .slice too S.tests.length tc, .slice no' S.notes.length nc'⟩ k) (fun k _ e => ⟨H6.out.fp_ge.2.2.1 k e, .inr (.inr (.inr (.inr (.inl e))))⟩)) (fun _ _ h => h)).setCell _ _ (fun _ => ⟨H1.out.ge, .inl rfl⟩)⟩
          rcases hk with e | e | e | e | e | e
          · exact .inl (.inl e)
          · exact .inl (.inr (.inl e))
          · exact .inl (.inr (.inr (.inl e)))
          · exact .inl (.inr (.inr (.inr (.inl e))))
          · rcases HA.out.fresh with h1 | ⟨g, h1, h2⟩
            · exact .inl (.inr (.inr (.inr (.inr (.inl (h1.symm.trans e))))))
            · have h3 : g = k := Option.some.inj (h1.symm.trans e)
              have h4 := HK12.out.size
              have h5 : w2.heap.size ≤ g := h2
              exact .inr (by omega)
          · exact .inl (.inr (.inr (.inr (.inr (.inr e)))))
        have HC4 := Lib.hid ((Chg.before (HK0.out.trans HK01.out (fun _ _ h => h)) hch))
        have hkw4 := HKR.out.setCell ⟨b, 3, none⟩ (.slice ao7 (S.tests.length + 1) cap7) (fun _ => ⟨HV.out.ge, .inl rfl⟩)
        have H4 := H7
        rw [← hw4] at H4 HC4 hkw4
        rw [← hw4]
        have HKW4 := Lib.hid hkw4
        clear H7 hw4 d3 f3 hch hkw4
        have d4 := H4.out.blk.cell 4
        simp [StV.cells] at d4
        have HG4 := Lib.hid (hG.keep HC4.out.keep (fun i hi e => by have := e.1; omega))
        have HIT : Hid (∀ W, Keep (fun _ => False) w4 W → Calls Tryz.prog 64 #[.int .i64 x] W (ItoaPost W x)) := Lib.hid fun W hk => itoa_any (HG4.out.glob.keep hk) HX.out.1 HX.out.2
        have HKR3 : Hid (Keep (fun _ => False) w4 w4.drew) := Lib.hid (Keep.refl _ _).drew
        have HKR2 : Hid (Keep (fun k => k = b ∨ (Value.slice no' S.notes.length nc').ownBlock = some k) w4 w4.drew) := Lib.hid (Keep.refl _ _).drew
        have HC2 : Hid (∀ W, Keep (fun k => k = b ∨ (Value.slice no' S.notes.length nc').ownBlock = some k) w4 W → (fun W => W.cell? ⟨w.heap.size, 0, none⟩ = some (.slice (some ⟨nb, no, none⟩) 1 nc) ∧ W.cell? ⟨w.heap.size, 1, none⟩ = some (.string word) ∧ W.cell? ⟨nb, no, none⟩ = some (.int .i64 x)) W) := Lib.hid fun W hk => HC.out W (HKW4.out.trans hk (fun k _ e => e.elim (fun e => ⟨e ▸ HV.out.ge, .inl e⟩) (fun e => ⟨HV.out.fp_ge.2.2.2 k e, .inr (.inr (.inr (.inr (.inr e))))⟩)))
        refine wp_region_noPanic ?_
        refine wp_region_held_drew (S := fun W => W.cell? ⟨w.heap.size, 0, none⟩ = some (.slice (some ⟨nb, no, none⟩) 1 nc) ∧ W.cell? ⟨w.heap.size, 1, none⟩ = some (.string word) ∧ W.cell? ⟨nb, no, none⟩ = some (.int .i64 x)) (by kernel_rfl) (HC2.out _ HKR2.out) (fun hHeld => ?_)
        refine wpAnyH_take (i := 0) (oi := _) (v := ?_) rfl (by kernel_rfl) (by kernel_rfl) (by kernel_rfl) (fun _ _ _ h => h) (Or.inl ⟨by rfl, ?_⟩) (by assumption) ?_
        rotate_left
        · (intro w hSw; (try dsimp only at hSw); go_simp) <;> with_reducible rfl
        (try simp only [List.getElem_toArray, List.getElem_cons_zero, List.getElem_cons_succ, Act.put, List.setIfInBounds_toArray, List.set_cons_zero, List.set_cons_succ])
        refine wpAnyH_take (i := 1) (oi := _) (v := ?_) rfl (by kernel_rfl) (by kernel_rfl) (by kernel_rfl) (fun _ _ _ h => h) (Or.inl ⟨by rfl, ?_⟩) (by assumption) ?_
        rotate_left
        · (intro w hSw; (try dsimp only at hSw); go_simp) <;> with_reducible rfl
        (try simp only [List.getElem_toArray, List.getElem_cons_zero, List.getElem_cons_succ, Act.put, List.setIfInBounds_toArray, List.set_cons_zero, List.set_cons_succ])
        refine wpAnyH_take (i := 2) (oi := _) (v := ?_) rfl (by kernel_rfl) (by kernel_rfl) (by kernel_rfl) (fun _ _ _ h => h) (Or.inl ⟨by rfl, ?_⟩) (by assumption) ?_
        rotate_left
        · (intro w hSw; (try dsimp only at hSw); go_simp) <;> with_reducible rfl
        (try simp only [List.getElem_toArray, List.getElem_cons_zero, List.getElem_cons_succ, Act.put, List.setIfInBounds_toArray, List.set_cons_zero, List.set_cons_succ])
        refine wpAnyH_take (i := 3) (oi := _) (v := ?_) rfl (by kernel_rfl) (by kernel_rfl) (by kernel_rfl) (fun _ _ _ h => h) (Or.inl ⟨by rfl, ?_⟩) (by assumption) ?_
        rotate_left
        · (intro w hSw; (try dsimp only at hSw); go_simp) <;> with_reducible rfl
        (try simp only [List.getElem_toArray, List.getElem_cons_zero, List.getElem_cons_succ, Act.put, List.setIfInBounds_toArray, List.set_cons_zero, List.set_cons_succ])
        refine wpAnyH_take (i := 5) (oi := _) (v := ?_) rfl (by kernel_rfl) (by kernel_rfl) (by kernel_rfl) (fun _ _ _ h => h) (Or.inl ⟨by rfl, ?_⟩) (by assumption) ?_
        rotate_left
        · (intro w hSw; (try dsimp only at hSw); go_simp) <;> with_reducible rfl
        (try simp only [List.getElem_toArray, List.getElem_cons_zero, List.getElem_cons_succ, Act.put, List.setIfInBounds_toArray, List.set_cons_zero, List.set_cons_succ])
        refine wpAnyH_take (i := 6) (oi := _) (v := ?_) rfl (by kernel_rfl) (by kernel_rfl) (by kernel_rfl) (fun _ _ _ h => h) (Or.inl ⟨by rfl, ?_⟩) (by assumption) ?_
        rotate_left
        · (intro w hSw; (try dsimp only at hSw); go_simp) <;> with_reducible rfl
        (try simp only [List.getElem_toArray, List.getElem_cons_zero, List.getElem_cons_succ, Act.put, List.setIfInBounds_toArray, List.set_cons_zero, List.set_cons_succ])
        refine wpAnyH_take (i := 7) (oi := _) (v := ?_) rfl (by kernel_rfl) (by kernel_rfl) (by kernel_rfl) (fun _ _ _ h => h) (Or.inl ⟨by rfl, ?_⟩) (by assumption) ?_
        rotate_left
        · (intro w hSw; (try dsimp only at hSw); go_simp) <;> with_reducible rfl
        (try simp only [List.getElem_toArray, List.getElem_cons_zero, List.getElem_cons_succ, Act.put, List.setIfInBounds_toArray, List.set_cons_zero, List.set_cons_succ])
        refine wpAnyH_take (i := 8) (oi := _) (v := ?_) rfl (by kernel_rfl) (by kernel_rfl) (by kernel_rfl) (fun _ _ _ h => h) (Or.inl ⟨by rfl, ?_⟩) (by assumption) ?_
        rotate_left
        · (intro w hSw; (try dsimp only at hSw); go_simp) <;> with_reducible rfl
        (try simp only [List.getElem_toArray, List.getElem_cons_zero, List.getElem_cons_succ, Act.put, List.setIfInBounds_toArray, List.set_cons_zero, List.set_cons_succ])
        refine wpAnyH_take (i := 12) (oi := _) (v := ?_) rfl (by kernel_rfl) (by kernel_rfl) (by kernel_rfl) (fun _ _ _ h => h) (Or.inl ⟨by rfl, ?_⟩) (by assumption) ?_
        rotate_left
        · (intro w hSw; (try dsimp only at hSw); go_simp) <;> with_reducible rfl
        (try simp only [List.getElem_toArray, List.getElem_cons_zero, List.getElem_cons_succ, Act.put, List.setIfInBounds_toArray, List.set_cons_zero, List.set_cons_succ])
        refine wpAnyH_take (i := 13) (oi := _) (v := ?_) rfl (by kernel_rfl) (by kernel_rfl) (by kernel_rfl) (fun _ _ _ h => h) (Or.inl ⟨by rfl, ?_⟩) (by assumption) ?_
        rotate_left
        · (intro w hSw; (try dsimp only at hSw); go_simp) <;> with_reducible rfl
        (try simp only [List.getElem_toArray, List.getElem_cons_zero, List.getElem_cons_succ, Act.put, List.setIfInBounds_toArray, List.set_cons_zero, List.set_cons_succ])
        refine wpAnyH_ready (rs := [4, 9]) (by kernel_rfl) (by simp) ?_
        refine AllReadyH.cons (o := _) rfl (fun K hK => ?_) (AllReadyH.cons (o := _) rfl (fun K hK => ?_) AllReadyH.nil)
        · go_simp
          refine hK.out _ _ ?_ (fun hHeld => ?_)
          · ((try dsimp only); refine HC2.out _ ?_; repeat (first | exact HKR2.out | apply Keep.drew | apply Keep.alloc | refine Keep.setCell ?_ _ _ (fun _ => .inl rfl)))
          clear hK K
          (try simp only [List.getElem_toArray, List.getElem_cons_zero, List.getElem_cons_succ, Act.put, List.setIfInBounds_toArray, List.set_cons_zero, List.set_cons_succ])
          refine wpAnyH_ready (rs := [9]) (by kernel_rfl) (by simp) ?_
          refine AllReadyH.cons (o := _) rfl (fun K hK => ?_) AllReadyH.nil
          go_simp
          refine Calls.mono (HIT.out _ HKR3.out) ?_
          rintro e Wc ⟨rfl, hkc⟩
          have HKR3 := Lib.hid (HKR3.out.trans hkc (fun _ _ h => h))
          have HKR2 := Lib.hid (HKR3.out.mono (T := fun k => k = b ∨ (Value.slice no' S.notes.length nc').ownBlock = some k) (fun _ _ h => h.elim))
          have d4 := (H4.out.keep HKR3.out (fun _ _ h => h)).blk.cell 4
          simp [StV.cells] at d4
          have hlt4 : b < Wc.heap.size := (H4.out.keep HKR3.out (fun _ _ h => h)).blk.lt
          clear hkc
          (try dsimp only)
          refine hK.out _ _ ?_ (fun hHeld => ?_)
          · ((try dsimp only); refine HC2.out _ ?_; repeat (first | exact HKR2.out | apply Keep.drew | apply Keep.alloc | refine Keep.setCell ?_ _ _ (fun _ => .inl rfl)))
          clear hK K
          (try simp only [List.getElem_toArray, List.getElem_cons_zero, List.getElem_cons_succ, Act.put, List.setIfInBounds_toArray, List.set_cons_zero, List.set_cons_succ])
          refine wpAnyH_take (i := 10) (oi := _) (v := ?_) rfl (by kernel_rfl) (by kernel_rfl) (by kernel_rfl) (fun _ _ _ h => h) (Or.inl ⟨by rfl, ?_⟩) (by assumption) ?_
          rotate_left
          · (intro w hSw; (try dsimp only at hSw); go_simp) <;> with_reducible rfl
          (try simp only [List.getElem_toArray, List.getElem_cons_zero, List.getElem_cons_succ, Act.put, List.setIfInBounds_toArray, List.set_cons_zero, List.set_cons_succ])
          refine wpAnyH_take (i := 11) (oi := _) (v := ?_) rfl (by kernel_rfl) (by kernel_rfl) (by kernel_rfl) (fun _ _ _ h => h) (Or.inl ⟨by rfl, ?_⟩) (by assumption) ?_
          rotate_left
          · (intro w hSw; (try dsimp only at hSw); go_simp) <;> with_reducible rfl
          (try simp only [List.getElem_toArray, List.getElem_cons_zero, List.getElem_cons_succ, Act.put, List.setIfInBounds_toArray, List.set_cons_zero, List.set_cons_succ])
          refine wpAnyH_take (i := 14) (oi := _) (v := ?_) rfl (by kernel_rfl) (by kernel_rfl) (by kernel_rfl) (fun _ _ _ h => h) (Or.inl ⟨by rfl, ?_⟩) (by assumption) ?_
          rotate_left
          · (intro w hSw; (try dsimp only at hSw); go_simp) <;> with_reducible rfl
          (try simp only [List.getElem_toArray, List.getElem_cons_zero, List.getElem_cons_succ, Act.put, List.setIfInBounds_toArray, List.set_cons_zero, List.set_cons_succ])
          refine wpAnyH_ready (rs := [15]) (by kernel_rfl) (by simp) ?_
          refine AllReadyH.cons (o := _) rfl (fun K hK => ?_) AllReadyH.nil
          go_simp
          refine hK.out _ _ ?_ (fun hHeld => ?_)
          · ((try dsimp only); refine HC2.out _ ?_; repeat (first | exact HKR2.out | apply Keep.drew | apply Keep.alloc | refine Keep.setCell ?_ _ _ (fun _ => .inl rfl)))
          clear hK K
          (try simp only [List.getElem_toArray, List.getElem_cons_zero, List.getElem_cons_succ, Act.put, List.setIfInBounds_toArray, List.set_cons_zero, List.set_cons_succ])
          refine wpAnyH_ready (rs := [16]) (by kernel_rfl) (by simp) ?_
          refine AllReadyH.cons (o := _) rfl (fun K hK => ?_) AllReadyH.nil
          rw [if_pos (by rfl)]
          have ho6 : (Wc.alloc (.cells #[.string (testNote x word)] 9)).ownsRow base 9 1 (.slice no' S.notes.length nc') S.notes.length (strCells S.notes) := ownsRow_keep (H4.out.on) (HKR3.out.alloc (.cells #[.string (testNote x word)] 9)) (fun _ _ h => h)
          refine oper_app (.tmp 37) (.tmp 48) 24 24 rfl 9 (.string ⟨#[]⟩) 1 16 Tryz.underlying24 info9 rfl ho6 rfl ((Rd.new Wc 1 1 [.string (testNote x word)] 9 rfl (by simp [Value.oneCell']) (by unfold maxLen; omega)).src Tryz.underlying24) rfl (by unfold maxLen; omega) (by omega) (Nat.le_trans H4.out.lt (HKR3.out.alloc (.cells #[.string (testNote x word)] 9)).size) (fun v' w8 happ => ?_)
          obtain ⟨ao8, cap8, rfl, _⟩ := ownsRow_shape happ.own
          have h6 := H4.out.keep (HKR3.out.alloc (.cells #[.string (testNote x word)] 9)) (fun _ _ h => h)
          have h8 := h6.setNotes (w1 := w8) (v' := .slice ao8 (S.notes.length + 1) cap8) (ls := S.notes ++ [testNote x word]) happ.keep (by have := happ.own; simpa [strCells] using this) happ.fresh
          have hb8 := h6.blk.keep happ.keep h6.nne
          have d4 := hb8.cell 4
          have f4 := hb8.free 4
          simp [StV.cells] at d4 f4
          have HKR2 := Lib.hid (((HKR3.out.alloc (.cells #[.string (testNote x word)] 9)).mono (T := fun k => k = b ∨ (Value.slice no' S.notes.length nc').ownBlock = some k) (fun _ _ h => h.elim)).trans happ.keep (fun _ _ e => .inr e))
          have HB := Lib.hid happ
          have H5 := Lib.hid h6
          have H8 := Lib.hid h8
          clear happ h6 h8 hb8
          (try dsimp only)
          refine hK.out _ _ ?_ (fun hHeld => ?_)
          · ((try dsimp only); refine HC2.out _ ?_; repeat (first | exact HKR2.out | apply Keep.drew | apply Keep.alloc | refine Keep.setCell ?_ _ _ (fun _ => .inl rfl)))
          clear hK K
          (try simp only [List.getElem_toArray, List.getElem_cons_zero, List.getElem_cons_succ, Act.put, List.setIfInBounds_toArray, List.set_cons_zero, List.set_cons_succ])
          refine wpAnyH_take (i := 17) (oi := _) (v := ?_) rfl (by kernel_rfl) (by kernel_rfl) (by kernel_rfl) (fun _ _ _ h => h) (Or.inl ⟨by rfl, ?_⟩) (by assumption) ?_
          rotate_left
          · (intro w hSw; (try dsimp only at hSw); go_simp) <;> with_reducible rfl
          (try simp only [List.getElem_toArray, List.getElem_cons_zero, List.getElem_cons_succ, Act.put, List.setIfInBounds_toArray, List.set_cons_zero, List.set_cons_succ])
          refine wpAnyH_take (i := 18) (oi := _) (v := ?_) rfl (by kernel_rfl) (by kernel_rfl) (by kernel_rfl) (fun _ _ _ h => h) (Or.inl ⟨by rfl, ?_⟩) (by assumption) ?_
          rotate_left
          · (intro w hSw; (try dsimp only at hSw); go_simp) <;> with_reducible rfl
          (try simp only [List.getElem_toArray, List.getElem_cons_zero, List.getElem_cons_succ, Act.put, List.setIfInBounds_toArray, List.set_cons_zero, List.set_cons_succ])
          refine wpAnyH_ready (rs := [19]) (by kernel_rfl) (by simp) ?_
          refine AllReadyH.cons (o := _) rfl (fun K hK => ?_) AllReadyH.nil
          go_simp
          refine hK.out _ _ ?_ (fun hHeld => ?_)
          · ((try dsimp only); refine HC2.out _ ?_; repeat (first | exact HKR2.out | apply Keep.drew | apply Keep.alloc | refine Keep.setCell ?_ _ _ (fun _ => .inl rfl)))
          clear hK K
          (try simp only [List.getElem_toArray, List.getElem_cons_zero, List.getElem_cons_succ, Act.put, List.setIfInBounds_toArray, List.set_cons_zero, List.set_cons_succ])
          refine wpAnyH_done (by kernel_rfl) ?_ _
          refine NoPanic.normal ?_
          go_wp2
          go_ret2
          refine ⟨by rw [HF.out]; rfl, ⟨b, vb, vl, vc, .slice ao7 (S.tests.length + 1) cap7, .slice ao8 (S.notes.length + 1) cap8⟩, fun _ => by rw [HF.out]; exact H8.out, ?_⟩
          refine HC4.out.trans ⟨rfl, rfl, fun k hk => ?_, (HKR2.out.setCell _ _ (fun _ => .inl rfl)).mono (fun k _ e => e.elim (fun e => ⟨e ▸ H4.out.ge, .inl e⟩) (fun e => ⟨H4.out.fp_ge.2.2.2 k e, .inr (.inr (.inr (.inr (.inr e))))⟩))⟩
          rcases hk with e | e | e | e | e | e
          · exact .inl (.inl e)
          · exact .inl (.inr (.inl e))
          · exact .inl (.inr (.inr (.inl e)))
          · exact .inl (.inr (.inr (.inr (.inl e))))
          · exact .inl (.inr (.inr (.inr (.inr (.inl e)))))
          · rcases HB.out.fresh with h1 | ⟨g, h1, h2⟩
            · exact .inl (.inr (.inr (.inr (.inr (.inr (h1.symm.trans e))))))
            · have h3 : g = k := Option.some.inj (h1.symm.trans e)
              have h4 := (HKR3.out.alloc (.cells #[.string (testNote x word)] 9)).size
              have h5 : (Wc.alloc (.cells #[.string (testNote x word)] 9)).heap.size ≤ g := h2
              exact .inr (by omega)
        · go_simp
          refine Calls.mono (HIT.out _ HKR3.out) ?_
          rintro e Wc ⟨rfl, hkc⟩
          have HKR3 := Lib.hid (HKR3.out.trans hkc (fun _ _ h => h))
          have HKR2 := Lib.hid (HKR3.out.mono (T := fun k => k = b ∨ (Value.slice no' S.notes.length nc').ownBlock = some k) (fun _ _ h => h.elim))
          have d4 := (H4.out.keep HKR3.out (fun _ _ h => h)).blk.cell 4
          simp [StV.cells] at d4
          have hlt4 : b < Wc.heap.size := (H4.out.keep HKR3.out (fun _ _ h => h)).blk.lt
          clear hkc
          (try dsimp only)
          refine hK.out _ _ ?_ (fun hHeld => ?_)
          · ((try dsimp only); refine HC2.out _ ?_; repeat (first | exact HKR2.out | apply Keep.drew | apply Keep.alloc | refine Keep.setCell ?_ _ _ (fun _ => .inl rfl)))
          clear hK K
          (try simp only [List.getElem_toArray, List.getElem_cons_zero, List.getElem_cons_succ, Act.put, List.setIfInBounds_toArray, List.set_cons_zero, List.set_cons_succ])
          refine wpAnyH_take (i := 10) (oi := _) (v := ?_) rfl (by kernel_rfl) (by kernel_rfl) (by kernel_rfl) (fun _ _ _ h => h) (Or.inl ⟨by rfl, ?_⟩) (by assumption) ?_
          rotate_left
          · (intro w hSw; (try dsimp only at hSw); go_simp) <;> with_reducible rfl
          (try simp only [List.getElem_toArray, List.getElem_cons_zero, List.getElem_cons_succ, Act.put, List.setIfInBounds_toArray, List.set_cons_zero, List.set_cons_succ])
          refine wpAnyH_take (i := 11) (oi := _) (v := ?_) rfl (by kernel_rfl) (by kernel_rfl) (by kernel_rfl) (fun _ _ _ h => h) (Or.inl ⟨by rfl, ?_⟩) (by assumption) ?_
          rotate_left
          · (intro w hSw; (try dsimp only at hSw); go_simp) <;> with_reducible rfl
          (try simp only [List.getElem_toArray, List.getElem_cons_zero, List.getElem_cons_succ, Act.put, List.setIfInBounds_toArray, List.set_cons_zero, List.set_cons_succ])
          refine wpAnyH_take (i := 14) (oi := _) (v := ?_) rfl (by kernel_rfl) (by kernel_rfl) (by kernel_rfl) (fun _ _ _ h => h) (Or.inl ⟨by rfl, ?_⟩) (by assumption) ?_
          rotate_left
          · (intro w hSw; (try dsimp only at hSw); go_simp) <;> with_reducible rfl
          (try simp only [List.getElem_toArray, List.getElem_cons_zero, List.getElem_cons_succ, Act.put, List.setIfInBounds_toArray, List.set_cons_zero, List.set_cons_succ])
          refine wpAnyH_ready (rs := [4, 15]) (by kernel_rfl) (by simp) ?_
          refine AllReadyH.cons (o := _) rfl (fun K hK => ?_) (AllReadyH.cons (o := _) rfl (fun K hK => ?_) AllReadyH.nil)
          · go_simp
            refine hK.out _ _ ?_ (fun hHeld => ?_)
            · ((try dsimp only); refine HC2.out _ ?_; repeat (first | exact HKR2.out | apply Keep.drew | apply Keep.alloc | refine Keep.setCell ?_ _ _ (fun _ => .inl rfl)))
            clear hK K
            (try simp only [List.getElem_toArray, List.getElem_cons_zero, List.getElem_cons_succ, Act.put, List.setIfInBounds_toArray, List.set_cons_zero, List.set_cons_succ])
            refine wpAnyH_ready (rs := [15]) (by kernel_rfl) (by simp) ?_
            refine AllReadyH.cons (o := _) rfl (fun K hK => ?_) AllReadyH.nil
            go_simp
            refine hK.out _ _ ?_ (fun hHeld => ?_)
            · ((try dsimp only); refine HC2.out _ ?_; repeat (first | exact HKR2.out | apply Keep.drew | apply Keep.alloc | refine Keep.setCell ?_ _ _ (fun _ => .inl rfl)))
            clear hK K
            (try simp only [List.getElem_toArray, List.getElem_cons_zero, List.getElem_cons_succ, Act.put, List.setIfInBounds_toArray, List.set_cons_zero, List.set_cons_succ])
            refine wpAnyH_ready (rs := [16]) (by kernel_rfl) (by simp) ?_
            refine AllReadyH.cons (o := _) rfl (fun K hK => ?_) AllReadyH.nil
            rw [if_pos (by rfl)]
            have ho6 : (Wc.alloc (.cells #[.string (testNote x word)] 9)).ownsRow base 9 1 (.slice no' S.notes.length nc') S.notes.length (strCells S.notes) := ownsRow_keep (H4.out.on) (HKR3.out.alloc (.cells #[.string (testNote x word)] 9)) (fun _ _ h => h)
            refine oper_app (.tmp 37) (.tmp 48) 24 24 rfl 9 (.string ⟨#[]⟩) 1 16 Tryz.underlying24 info9 rfl ho6 rfl ((Rd.new Wc 1 1 [.string (testNote x word)] 9 rfl (by simp [Value.oneCell']) (by unfold maxLen; omega)).src Tryz.underlying24) rfl (by unfold maxLen; omega) (by omega) (Nat.le_trans H4.out.lt (HKR3.out.alloc (.cells #[.string (testNote x word)] 9)).size) (fun v' w8 happ => ?_)
            obtain ⟨ao8, cap8, rfl, _⟩ := ownsRow_shape happ.own
            have h6 := H4.out.keep (HKR3.out.alloc (.cells #[.string (testNote x word)] 9)) (fun _ _ h => h)
            have h8 := h6.setNotes (w1 := w8) (v' := .slice ao8 (S.notes.length + 1) cap8) (ls := S.notes ++ [testNote x word]) happ.keep (by have := happ.own; simpa [strCells] using this) happ.fresh
            have hb8 := h6.blk.keep happ.keep h6.nne
            have d4 := hb8.cell 4
            have f4 := hb8.free 4
            simp [StV.cells] at d4 f4
            have HKR2 := Lib.hid (((HKR3.out.alloc (.cells #[.string (testNote x word)] 9)).mono (T := fun k => k = b ∨ (Value.slice no' S.notes.length nc').ownBlock = some k) (fun _ _ h => h.elim)).trans happ.keep (fun _ _ e => .inr e))
            have HB := Lib.hid happ
            have H5 := Lib.hid h6
            have H8 := Lib.hid h8
            clear happ h6 h8 hb8
            (try dsimp only)
            refine hK.out _ _ ?_ (fun hHeld => ?_)
            · ((try dsimp only); refine HC2.out _ ?_; repeat (first | exact HKR2.out | apply Keep.drew | apply Keep.alloc | refine Keep.setCell ?_ _ _ (fun _ => .inl rfl)))
            clear hK K
            (try simp only [List.getElem_toArray, List.getElem_cons_zero, List.getElem_cons_succ, Act.put, List.setIfInBounds_toArray, List.set_cons_zero, List.set_cons_succ])
            refine wpAnyH_take (i := 17) (oi := _) (v := ?_) rfl (by kernel_rfl) (by kernel_rfl) (by kernel_rfl) (fun _ _ _ h => h) (Or.inl ⟨by rfl, ?_⟩) (by assumption) ?_
            rotate_left
            · (intro w hSw; (try dsimp only at hSw); go_simp) <;> with_reducible rfl
            (try simp only [List.getElem_toArray, List.getElem_cons_zero, List.getElem_cons_succ, Act.put, List.setIfInBounds_toArray, List.set_cons_zero, List.set_cons_succ])
            refine wpAnyH_take (i := 18) (oi := _) (v := ?_) rfl (by kernel_rfl) (by kernel_rfl) (by kernel_rfl) (fun _ _ _ h => h) (Or.inl ⟨by rfl, ?_⟩) (by assumption) ?_
            rotate_left
            · (intro w hSw; (try dsimp only at hSw); go_simp) <;> with_reducible rfl
            (try simp only [List.getElem_toArray, List.getElem_cons_zero, List.getElem_cons_succ, Act.put, List.setIfInBounds_toArray, List.set_cons_zero, List.set_cons_succ])
            refine wpAnyH_ready (rs := [19]) (by kernel_rfl) (by simp) ?_
            refine AllReadyH.cons (o := _) rfl (fun K hK => ?_) AllReadyH.nil
            go_simp
            refine hK.out _ _ ?_ (fun hHeld => ?_)
            · ((try dsimp only); refine HC2.out _ ?_; repeat (first | exact HKR2.out | apply Keep.drew | apply Keep.alloc | refine Keep.setCell ?_ _ _ (fun _ => .inl rfl)))
            clear hK K
            (try simp only [List.getElem_toArray, List.getElem_cons_zero, List.getElem_cons_succ, Act.put, List.setIfInBounds_toArray, List.set_cons_zero, List.set_cons_succ])
            refine wpAnyH_done (by kernel_rfl) ?_ _
            refine NoPanic.normal ?_
            go_wp2
            go_ret2
            refine ⟨by rw [HF.out]; rfl, ⟨b, vb, vl, vc, .slice ao7 (S.tests.length + 1) cap7, .slice ao8 (S.notes.length + 1) cap8⟩, fun _ => by rw [HF.out]; exact H8.out, ?_⟩
            refine HC4.out.trans ⟨rfl, rfl, fun k hk => ?_, (HKR2.out.setCell _ _ (fun _ => .inl rfl)).mono (fun k _ e => e.elim (fun e => ⟨e ▸ H4.out.ge, .inl e⟩) (fun e => ⟨H4.out.fp_ge.2.2.2 k e, .inr (.inr (.inr (.inr (.inr e))))⟩))⟩
            rcases hk with e | e | e | e | e | e
            · exact .inl (.inl e)
            · exact .inl (.inr (.inl e))
            · exact .inl (.inr (.inr (.inl e)))
            · exact .inl (.inr (.inr (.inr (.inl e))))
            · exact .inl (.inr (.inr (.inr (.inr (.inl e)))))
            · rcases HB.out.fresh with h1 | ⟨g, h1, h2⟩
              · exact .inl (.inr (.inr (.inr (.inr (.inr (h1.symm.trans e))))))
              · have h3 : g = k := Option.some.inj (h1.symm.trans e)
                have h4 := (HKR3.out.alloc (.cells #[.string (testNote x word)] 9)).size
                have h5 : (Wc.alloc (.cells #[.string (testNote x word)] 9)).heap.size ≤ g := h2
                exact .inr (by omega)
          · go_simp
            refine hK.out _ _ ?_ (fun hHeld => ?_)
            · ((try dsimp only); refine HC2.out _ ?_; repeat (first | exact HKR2.out | apply Keep.drew | apply Keep.alloc | refine Keep.setCell ?_ _ _ (fun _ => .inl rfl)))
            clear hK K
            (try simp only [List.getElem_toArray, List.getElem_cons_zero, List.getElem_cons_succ, Act.put, List.setIfInBounds_toArray, List.set_cons_zero, List.set_cons_succ])
            refine wpAnyH_ready (rs := [4]) (by kernel_rfl) (by simp) ?_
            refine AllReadyH.cons (o := _) rfl (fun K hK => ?_) AllReadyH.nil
            go_simp
            refine hK.out _ _ ?_ (fun hHeld => ?_)
            · ((try dsimp only); refine HC2.out _ ?_; repeat (first | exact HKR2.out | apply Keep.drew | apply Keep.alloc | refine Keep.setCell ?_ _ _ (fun _ => .inl rfl)))
            clear hK K
            (try simp only [List.getElem_toArray, List.getElem_cons_zero, List.getElem_cons_succ, Act.put, List.setIfInBounds_toArray, List.set_cons_zero, List.set_cons_succ])
            refine wpAnyH_ready (rs := [16]) (by kernel_rfl) (by simp) ?_
            refine AllReadyH.cons (o := _) rfl (fun K hK => ?_) AllReadyH.nil
            rw [if_pos (by rfl)]
            have ho6 : (Wc.alloc (.cells #[.string (testNote x word)] 9)).ownsRow base 9 1 (.slice no' S.notes.length nc') S.notes.length (strCells S.notes) := ownsRow_keep (H4.out.on) (HKR3.out.alloc (.cells #[.string (testNote x word)] 9)) (fun _ _ h => h)
            refine oper_app (.tmp 37) (.tmp 48) 24 24 rfl 9 (.string ⟨#[]⟩) 1 16 Tryz.underlying24 info9 rfl ho6 rfl ((Rd.new Wc 1 1 [.string (testNote x word)] 9 rfl (by simp [Value.oneCell']) (by unfold maxLen; omega)).src Tryz.underlying24) rfl (by unfold maxLen; omega) (by omega) (Nat.le_trans H4.out.lt (HKR3.out.alloc (.cells #[.string (testNote x word)] 9)).size) (fun v' w8 happ => ?_)
            obtain ⟨ao8, cap8, rfl, _⟩ := ownsRow_shape happ.own
            have h6 := H4.out.keep (HKR3.out.alloc (.cells #[.string (testNote x word)] 9)) (fun _ _ h => h)
            have h8 := h6.setNotes (w1 := w8) (v' := .slice ao8 (S.notes.length + 1) cap8) (ls := S.notes ++ [testNote x word]) happ.keep (by have := happ.own; simpa [strCells] using this) happ.fresh
            have hb8 := h6.blk.keep happ.keep h6.nne
            have d4 := hb8.cell 4
            have f4 := hb8.free 4
            simp [StV.cells] at d4 f4
            have HKR2 := Lib.hid (((HKR3.out.alloc (.cells #[.string (testNote x word)] 9)).mono (T := fun k => k = b ∨ (Value.slice no' S.notes.length nc').ownBlock = some k) (fun _ _ h => h.elim)).trans happ.keep (fun _ _ e => .inr e))
            have HB := Lib.hid happ
            have H5 := Lib.hid h6
            have H8 := Lib.hid h8
            clear happ h6 h8 hb8
            (try dsimp only)
            refine hK.out _ _ ?_ (fun hHeld => ?_)
            · ((try dsimp only); refine HC2.out _ ?_; repeat (first | exact HKR2.out | apply Keep.drew | apply Keep.alloc | refine Keep.setCell ?_ _ _ (fun _ => .inl rfl)))
            clear hK K
            (try simp only [List.getElem_toArray, List.getElem_cons_zero, List.getElem_cons_succ, Act.put, List.setIfInBounds_toArray, List.set_cons_zero, List.set_cons_succ])
            refine wpAnyH_take (i := 17) (oi := _) (v := ?_) rfl (by kernel_rfl) (by kernel_rfl) (by kernel_rfl) (fun _ _ _ h => h) (Or.inl ⟨by rfl, ?_⟩) (by assumption) ?_
            rotate_left
            · (intro w hSw; (try dsimp only at hSw); go_simp) <;> with_reducible rfl
            (try simp only [List.getElem_toArray, List.getElem_cons_zero, List.getElem_cons_succ, Act.put, List.setIfInBounds_toArray, List.set_cons_zero, List.set_cons_succ])
            refine wpAnyH_take (i := 18) (oi := _) (v := ?_) rfl (by kernel_rfl) (by kernel_rfl) (by kernel_rfl) (fun _ _ _ h => h) (Or.inl ⟨by rfl, ?_⟩) (by assumption) ?_
            rotate_left
            · (intro w hSw; (try dsimp only at hSw); go_simp) <;> with_reducible rfl
            (try simp only [List.getElem_toArray, List.getElem_cons_zero, List.getElem_cons_succ, Act.put, List.setIfInBounds_toArray, List.set_cons_zero, List.set_cons_succ])
            refine wpAnyH_ready (rs := [19]) (by kernel_rfl) (by simp) ?_
            refine AllReadyH.cons (o := _) rfl (fun K hK => ?_) AllReadyH.nil
            go_simp
            refine hK.out _ _ ?_ (fun hHeld => ?_)
            · ((try dsimp only); refine HC2.out _ ?_; repeat (first | exact HKR2.out | apply Keep.drew | apply Keep.alloc | refine Keep.setCell ?_ _ _ (fun _ => .inl rfl)))
            clear hK K
            (try simp only [List.getElem_toArray, List.getElem_cons_zero, List.getElem_cons_succ, Act.put, List.setIfInBounds_toArray, List.set_cons_zero, List.set_cons_succ])
            refine wpAnyH_done (by kernel_rfl) ?_ _
            refine NoPanic.normal ?_
            go_wp2
            go_ret2
            refine ⟨by rw [HF.out]; rfl, ⟨b, vb, vl, vc, .slice ao7 (S.tests.length + 1) cap7, .slice ao8 (S.notes.length + 1) cap8⟩, fun _ => by rw [HF.out]; exact H8.out, ?_⟩
            refine HC4.out.trans ⟨rfl, rfl, fun k hk => ?_, (HKR2.out.setCell _ _ (fun _ => .inl rfl)).mono (fun k _ e => e.elim (fun e => ⟨e ▸ H4.out.ge, .inl e⟩) (fun e => ⟨H4.out.fp_ge.2.2.2 k e, .inr (.inr (.inr (.inr (.inr e))))⟩))⟩
            rcases hk with e | e | e | e | e | e
            · exact .inl (.inl e)
            · exact .inl (.inr (.inl e))
            · exact .inl (.inr (.inr (.inl e)))
            · exact .inl (.inr (.inr (.inr (.inl e))))
            · exact .inl (.inr (.inr (.inr (.inr (.inl e)))))
            · rcases HB.out.fresh with h1 | ⟨g, h1, h2⟩
              · exact .inl (.inr (.inr (.inr (.inr (.inr (h1.symm.trans e))))))
              · have h3 : g = k := Option.some.inj (h1.symm.trans e)
                have h4 := (HKR3.out.alloc (.cells #[.string (testNote x word)] 9)).size
                have h5 : (Wc.alloc (.cells #[.string (testNote x word)] 9)).heap.size ≤ g := h2
                exact .inr (by omega)
end Go.Proofs.YtkkjonkcjlnohaaGreatDoor

/- A word of digits, plain Lean: the reference's test and the program's are the same. -/
namespace Go.Proofs.YtkkjonkcjlnohaaGreatDoor
set_option linter.unusedSimpArgs false
set_option linter.unusedVariables false
set_option linter.unnecessarySimpa false
open Go.RowKit

def digB (c : UInt8) : Bool := decide (48 ≤ c.toNat) && decide (c.toNat ≤ 57)
def numV (acc : Nat) (l : List UInt8) : Nat := l.foldl (fun a c => a * 10 + (c.toNat - 48)) acc
/-- The reference's test of a number's word. -/
def decOk (l : List UInt8) : Bool := decide (1 ≤ l.length) && decide (l.length ≤ 6) && l.all digB && !(decide (1 < l.length) && (l.headD 0 == 48))
theorem digB_iff {c : UInt8} : digB c = true ↔ 48 ≤ c.toNat ∧ c.toNat ≤ 57 := by unfold digB; simp
theorem parse_digits : ∀ (l : List UInt8) (acc k : Nat), l.all digB = true → acc < 10 ^ k → l.length + k ≤ 18 → Lib.parseUint10 acc l = .ok (numV acc l) := by
  intro l
  induction l with
  | nil => intro acc k _ _ _; rfl
  | cons c l ih =>
    intro acc k hd ha hk
    simp only [List.all_cons, Bool.and_eq_true] at hd
    simp only [List.length_cons] at hk
    have hc := digB_iff.1 hd.1
    have hp : 10 ^ (k + 1) ≤ 10 ^ 18 := Nat.pow_le_pow_right (by decide) (by omega)
    have hp2 : 10 ^ (k + 1) = 10 ^ k * 10 := Nat.pow_succ 10 k
    have h18 : (10 : Nat) ^ 18 = 1000000000000000000 := by decide
    unfold Lib.parseUint10
    rw [if_pos hc, if_neg (by omega), if_neg (by omega)]
    exact ih _ (k + 1) hd.2 (by omega) (by omega)
theorem atoi_digits {l : List UInt8} (hne : l ≠ []) (hd : l.all digB = true) (hl : l.length ≤ 6) : Lib.atoiAll l = .ok (numV 0 l : Nat) := by
  have hp := parse_digits l 0 0 hd (by decide) (by omega)
  have hlt : numV 0 l < 10 ^ 6 := by
    have : ∀ (l : List UInt8) (acc k : Nat), l.all digB = true → acc < 10 ^ k → numV acc l < 10 ^ (k + l.length) := by
      intro l
      induction l with
      | nil => intro acc k _ ha; exact ha
      | cons c l ih =>
        intro acc k hd ha
        simp only [List.all_cons, Bool.and_eq_true] at hd
        have hc := digB_iff.1 hd.1
        have hp2 : 10 ^ (k + 1) = 10 ^ k * 10 := Nat.pow_succ 10 k
        have := ih (acc * 10 + (c.toNat - 48)) (k + 1) hd.2 (by omega)
        rw [List.length_cons, show k + (l.length + 1) = k + 1 + l.length by omega]
        exact this
    have h1 := this l 0 0 hd (by decide)
    exact Nat.lt_of_lt_of_le h1 (Nat.pow_le_pow_right (by decide) (by omega))
  have h6 : (10 : Nat) ^ 6 = 1000000 := by decide
  cases l with
  | nil => exact absurd rfl hne
  | cons c r =>
    have hc := digB_iff.1 (List.all_eq_true.1 hd c (List.mem_cons_self ..))
    have hm : Lib.parseMag (c :: r) = .ok (numV 0 (c :: r)) := by unfold Lib.parseMag; rw [if_neg (by simp), hp]
    unfold Lib.atoiAll
    simp only
    rw [if_neg (by omega : ¬ (c.toNat = 43 ∨ c.toNat = 45)), hm]
    simp only
    rw [if_neg (by omega), if_neg (by omega), if_neg (by omega)]
theorem dig_of {c : UInt8} (h : digB c = true) : UInt8.ofNat (48 + (c.toNat - 48)) = c := by
  have hc := digB_iff.1 h
  rw [show 48 + (c.toNat - 48) = c.toNat by omega]
  simp
theorem numV_snoc (l : List UInt8) (c : UInt8) : numV 0 (l ++ [c]) = numV 0 l * 10 + (c.toNat - 48) := by simp [numV, List.foldl_append]
theorem dec_back : ∀ (n : Nat) (l : List UInt8), l.length = n + 1 → l.all digB = true → l.headD 0 ≠ 48 → 1 ≤ numV 0 l ∧ Lib.decDigits (numV 0 l) = l := by
  intro n
  induction n with
  | zero =>
    intro l hl hd hh
    match l, hl with
    | [c], _ =>
      have hc := digB_iff.1 (List.all_eq_true.1 hd c (List.mem_cons_self ..))
      have hne : c.toNat ≠ 48 := fun e => hh (by show c = 48; exact UInt8.toNat_inj.1 e)
      have e : numV 0 [c] = c.toNat - 48 := by simp [numV]
      rw [e]
      refine ⟨by omega, ?_⟩
      rw [Lib.decDigits, dif_pos (by omega)]
      rw [dig_of (List.all_eq_true.1 hd c (List.mem_cons_self ..))]
  | succ n ih =>
    intro l hl hd hh
    obtain ⟨l', c, rfl⟩ : ∃ l' c, l = l' ++ [c] := ⟨l.dropLast, l.getLast (by intro e; rw [e] at hl; simp at hl), (List.dropLast_concat_getLast _).symm⟩
    simp only [List.length_append, List.length_cons, List.length_nil] at hl
    rw [List.all_append, Bool.and_eq_true] at hd
    have hh' : l'.headD 0 ≠ 48 := by
      cases l' with
      | nil => simp at hl
      | cons a t => simpa using hh
    obtain ⟨h1, h2⟩ := ih l' (by omega) hd.1 hh'
    have hcd : digB c = true := by simpa using hd.2
    have hc := digB_iff.1 hcd
    rw [numV_snoc]
    refine ⟨by omega, ?_⟩
    rw [Lib.decDigits, dif_neg (by omega)]
    rw [show (numV 0 l' * 10 + (c.toNat - 48)) / 10 = numV 0 l' by omega, show (numV 0 l' * 10 + (c.toNat - 48)) % 10 = c.toNat - 48 by omega, h2, dig_of hcd]
theorem dec_digits : ∀ (u : Nat), (Lib.decDigits u).all digB = true ∧ 1 ≤ (Lib.decDigits u).length ∧ (1 ≤ u → (Lib.decDigits u).headD 0 ≠ 48) := by
  intro u
  induction u using Nat.strongRecOn with
  | _ u ih =>
    rw [Lib.decDigits]
    by_cases h : u < 10
    · rw [dif_pos h]
      have e : (UInt8.ofNat (48 + u)).toNat = 48 + u := by simp; omega
      refine ⟨by simp only [List.all_cons, List.all_nil, Bool.and_true]; exact digB_iff.2 (by omega), by simp, fun h1 h2 => ?_⟩
      have h3 : (UInt8.ofNat (48 + u)) = 48 := h2
      have h4 := congrArg UInt8.toNat h3
      rw [e] at h4
      have : (48 : UInt8).toNat = 48 := rfl
      omega
    · rw [dif_neg h]
      obtain ⟨h1, h2, h3⟩ := ih (u / 10) (by omega)
      have e : (UInt8.ofNat (48 + u % 10)).toNat = 48 + u % 10 := by simp; omega
      refine ⟨by rw [List.all_append, h1]; simp only [List.all_cons, List.all_nil, Bool.and_true, Bool.true_and]; exact digB_iff.2 (by omega), by simp, fun _ => ?_⟩
      have h4 := h3 (by omega)
      cases hd : Lib.decDigits (u / 10) with
      | nil => rw [hd] at h2; simp at h2
      | cons a t => rw [hd] at h4; simpa using h4
/-- The reference's test is the program's. -/
theorem dec_same (s : ByteArray) : decOk s.data.toList = (atoiOk s && decide (s.size ≤ 6) && decide (0 ≤ atoiN s) && decide (itoaB (atoiN s) = s)) := by
  have hz : s.data.toList.length = s.size := by simp
  have hext : ∀ n, itoaB n = s ↔ Lib.itoa n = s.data.toList := fun n => by
    unfold itoaB
    constructor
    · intro h; rw [← h]
    · intro h; exact ByteArray.ext (by rw [h])
  rw [Bool.eq_iff_iff]
  constructor
  · intro h
    unfold decOk at h
    simp only [Bool.and_eq_true, decide_eq_true_eq, Bool.not_eq_true', Bool.and_eq_false_iff, decide_eq_false_iff_not] at h
    obtain ⟨⟨⟨h1, h6⟩, hd⟩, hh⟩ := h
    have hat := atoi_digits (fun e => by rw [e] at h1; simp at h1) hd h6
    have hN : atoiN s = (numV 0 s.data.toList : Nat) := by unfold atoiN; rw [hat]
    have hO : atoiOk s = true := by unfold atoiOk; rw [hat]
    have hI : itoaB (atoiN s) = s := by
      rw [hext, hN, Lib.itoa_nonneg]
      by_cases h0 : s.data.toList.headD 0 = 48
      · have hl1 : s.data.toList.length = 1 := by
          rcases hh with hh | hh
          · omega
          · rw [h0] at hh; simp at hh
        match hs : s.data.toList, hl1 with
        | [c], _ =>
          rw [hs] at h0
          have hc : c = 48 := h0
          subst hc
          rw [show numV 0 [48] = 0 from rfl, Lib.decDigits, dif_pos (by omega)]
          rfl
      · exact (dec_back (s.data.toList.length - 1) _ (by omega) hd h0).2
    simp only [Bool.and_eq_true, decide_eq_true_eq]
    exact ⟨⟨⟨hO, by omega⟩, by rw [hN]; omega⟩, hI⟩
  · intro h
    simp only [Bool.and_eq_true, decide_eq_true_eq] at h
    obtain ⟨⟨⟨hO, h6⟩, h0⟩, hI⟩ := h
    obtain ⟨u, hu⟩ := Int.eq_ofNat_of_zero_le h0
    rw [hext, hu, Lib.itoa_nonneg] at hI
    obtain ⟨d1, d2, d3⟩ := dec_digits u
    rw [hI] at d1 d2 d3
    unfold decOk
    simp only [Bool.and_eq_true, decide_eq_true_eq, Bool.not_eq_true', Bool.and_eq_false_iff, decide_eq_false_iff_not]
    refine ⟨⟨⟨d2, by omega⟩, d1⟩, ?_⟩
    by_cases hu1 : 1 ≤ u
    · exact .inr (beq_eq_false_iff_ne.2 (d3 hu1))
    · have : u = 0 := by omega
      subst this
      rw [← hI]
      exact .inl (by rw [Lib.decDigits, dif_pos (by omega)]; simp)
end Go.Proofs.YtkkjonkcjlnohaaGreatDoor

/- The law's own reader of numbers. -/
namespace Go.Proofs.YtkkjonkcjlnohaaGreatDoor
set_option linter.unusedSimpArgs false
set_option linter.unusedVariables false
set_option linter.unnecessarySimpa false
open Go.RowKit

/-- What is read from n on. -/
def numF : Int → List UInt8 → Option Int
  | n, [] => some n
  | n, c :: cs => if c.toNat < 48 ∨ 57 < c.toNat ∨ 1099511627776 < n then none else numF (10 * n + ((c.toNat : Int) - 48)) cs
def numR (s : ByteArray) : Int × Bool := match numF 0 s.data.toList with
  | none => (0, false)
  | some n => (n, !s.toList.isEmpty)
theorem numF_digits : ∀ (l : List UInt8) (acc k : Nat), l.all digB = true → acc < 10 ^ k → l.length + k ≤ 13 → numF acc l = some (numV acc l : Nat) := by
  intro l
  induction l with
  | nil => intro acc k _ _ _; rfl
  | cons c l ih =>
    intro acc k hd ha hk
    simp only [List.all_cons, Bool.and_eq_true] at hd
    simp only [List.length_cons] at hk
    have hc := digB_iff.1 hd.1
    have hp2 : 10 ^ (k + 1) = 10 ^ k * 10 := Nat.pow_succ 10 k
    have h12 : (10 : Nat) ^ k ≤ 10 ^ 12 := Nat.pow_le_pow_right (by decide) (by omega)
    have e12 : (10 : Nat) ^ 12 = 1000000000000 := by decide
    have := ih (acc * 10 + (c.toNat - 48)) (k + 1) hd.2 (by omega) (by omega)
    unfold numF
    rw [if_neg (by omega), show (10 * (acc : Int) + ((c.toNat : Int) - 48)) = ((acc * 10 + (c.toNat - 48) : Nat) : Int) by omega, this]
    rfl
theorem numV_dec (u : Nat) : (Lib.decDigits u).all digB = true ∧ numV 0 (Lib.decDigits u) = u := by
  induction u using Nat.strongRecOn with
  | _ u ih =>
    by_cases h : u < 10
    · rw [Lib.decDigits, dif_pos h]
      have e : (UInt8.ofNat (48 + u)).toNat = 48 + u := by simp; omega
      refine ⟨by simp only [List.all_cons, List.all_nil, Bool.and_true]; exact digB_iff.2 (by omega), ?_⟩
      simp only [numV, List.foldl_cons, List.foldl_nil, e]
      omega
    · rw [Lib.decDigits, dif_neg h]
      obtain ⟨h1, h2⟩ := ih (u / 10) (by omega)
      have e : (UInt8.ofNat (48 + u % 10)).toNat = 48 + u % 10 := by simp; omega
      refine ⟨by rw [List.all_append, h1, Bool.true_and]; simp only [List.all_cons, List.all_nil, Bool.and_true]; exact digB_iff.2 (by omega), ?_⟩
      rw [numV_snoc, h2, e]
      omega
theorem str_ne {s : ByteArray} (h : s.data.toList ≠ []) : (!s.toList.isEmpty) = true := by
  rw [Lib.toList_data]
  cases hl : s.data.toList with
  | nil => exact absurd hl h
  | cons a l => rfl
/-- A word of at most six digits is read as strconv.Atoi reads it. -/
theorem numR_atoi {s : ByteArray} (hd : s.data.toList.all digB = true) (hn : s.data.toList ≠ []) (hl : s.size ≤ 6) : numR s = (atoiN s, true) := by
  have hz : s.data.toList.length = s.size := by simp
  have hf := numF_digits s.data.toList 0 0 hd (by decide) (by omega)
  have ha := atoi_digits hn hd (by omega)
  unfold numR atoiN
  have hf' : numF 0 s.data.toList = some (numV 0 s.data.toList : Int) := hf
  rw [ha, hf']
  simp only
  rw [str_ne hn]

end Go.Proofs.YtkkjonkcjlnohaaGreatDoor
