/- The law HouseKept, walked: it returns true, whatever the bays and the turns. -/
import Derived.Test.YthdkamnclbfehaaGreatDoorKeptA
import Derived.Test.YthdkamnclbfehaaGreatDoorRValid
import Derived.Test.YthdkamnclbfehaaGreatDoorHeld
import Derived.Deep.LoopGhost
import Derived.Deep.DeepCutAuto
namespace Go.Proofs.YthdkamnclbfehaaGreatDoor
set_option linter.unusedSimpArgs false
set_option linter.unusedVariables false
set_option linter.unnecessarySimpa false
open Go.RowKit

def KRel (w : World) (d n : Nat) (g : List Int) (gh : Nat) (s5 s38 : Value) (wx : World) : Prop :=
  ∃ (j : Nat) (H : HV) (D : Dsk) (S : St) (ls : List ByteArray), gh = n - j ∧ j ≤ n ∧ s38 = .int .i64 j ∧ s5 = .pointer (some ⟨H.h, 0, none⟩) ∧ H.d = d ∧ KHouse w.heap.size wx g H D S ls ∧ ls.length ≤ j ∧ Keep (fun _ => False) w wx

set_option maxHeartbeats 4000000 in
set_option maxRecDepth 100000 in
theorem houseKept_any {w : World} {gv lv : Value} {g : List Int} {l : List TurnV} (hG : Glob w) (hg : Rd w 1 gv g.length (icells g)) (hgl : g.length < 9223372036854775807) (hv : Rd w 4 lv l.length (turnCells l))
    (hl : ∀ t ∈ l, i64b t.fuse ∧ i64b t.keep ∧ t.line.size ≤ 140737488355328) (hln : l.length ≤ 9223372036854775807) :
    Calls Tryz.prog 4 #[gv, lv] w (IdxPost w (.bool true)) := by
  obtain ⟨lo, lc, hve, hlc, _⟩ := hv.shape
  subst hve
  obtain ⟨go_, gc, hge, hgc, _⟩ := hg.shape
  subst hge
  have H16 := Lib.hid (opened_any hG hg (Nat.le_of_lt hgl))
  have HG := Lib.hid hG; clear hG
  have HGR := Lib.hid hg; clear hg
  have HV := Lib.hid hv; clear hv
  have HL := Lib.hid hl; clear hl
  cases hb : baysB (g.take 10) with
  | false =>
    have HB := Lib.hid hb; clear hb
    by_cases h8 : g.length = 8
    · have hval : validB g = false := by
        have := HB.out
        unfold baysB at this
        rw [List.take_of_length_le (by omega), h8] at this
        simpa using this
      have HVAL := Lib.hid hval; clear hval
      have hz1 : ((g.length : Int) != 8) = false := by simp [h8]
      have H8 := Lib.hid h8; clear h8
      go_enter Tryz.func4, Tryz.ntmps4
      go_wp2_with (first
        | (go_at_call 16; refine H16.out.mono ?_; rintro e w1 ⟨hk1, _, hbad⟩; obtain ⟨d, rfl⟩ := hbad HB.out; have HK1 := Lib.hid hk1; clear hk1 hbad)
        | (go_at_call 17; have hh := rvalid_any (HGR.out.keep HK1.out (fun _ _ h => h)) hgl; rw [HVAL.out] at hh; refine Calls.mono hh ?_; clear hh; rintro e w2 ⟨rfl, q2, rfl⟩)
        | (go_at_call 13; refine Calls.mono (awake_any (HG.out.keep (HK1.out.drewN q2))) ?_; rintro e w3 ⟨rfl, hk3⟩; have HK3 := Lib.hid hk3; clear hk3))
      go_ret
      exact ⟨rfl, (HK1.out.drewN q2).trans HK3.out (fun _ _ h => h)⟩
    · have hz1 : ((g.length : Int) != 8) = true := by simp; omega
      have H8 := Lib.hid h8; clear h8
      go_enter Tryz.func4, Tryz.ntmps4
      go_wp2_with (first
        | (go_at_call 16; refine H16.out.mono ?_; rintro e w1 ⟨hk1, _, hbad⟩; obtain ⟨d, rfl⟩ := hbad HB.out; have HK1 := Lib.hid hk1; clear hk1 hbad)
        | (go_at_call 13; refine Calls.mono (awake_any (HG.out.keep HK1.out)) ?_; rintro e w3 ⟨rfl, hk3⟩; have HK3 := Lib.hid hk3; clear hk3))
      go_ret
      exact ⟨rfl, HK1.out.trans HK3.out (fun _ _ h => h)⟩
  | true =>
    have HB := Lib.hid hb; clear hb
    go_enter Tryz.func4, Tryz.ntmps4
    go_wp2_with (first
      | (go_at_call 16; refine H16.out.mono ?_; rintro e w1 ⟨hk1, hok, _⟩; obtain ⟨H, D, rfl, hkh⟩ := hok HB.out; have HK1 := Lib.hid hk1; have HKH := Lib.hid hkh; clear hk1 hok hkh))
    obtain ⟨d, hd⟩ : ∃ d, H.d = d := ⟨_, rfl⟩
    rw [hd]
    have HD := Lib.hid hd; clear hd
    go_loopg [5, 38] l.length (fun gh s5 s38 wx => KRel w d l.length (g.take 10) gh s5 s38 wx)
    case atStart => exact ⟨0, H, _, _, _, rfl, Nat.zero_le _, rfl, rfl, HD.out, HKH.out, Nat.le_refl _, HK1.out⟩
    case round =>
      obtain ⟨j, ⟨hb, hd, v, V, vl⟩, D, S, ls, rfl, hj, rfl, rfl, hdd, hkh, hlsj, hkw⟩ := hrel
      simp only at hdd
      subst hdd
      have HKH := Lib.hid hkh; clear hkh
      have HK := Lib.hid hkw; clear hkw
      by_cases hlt : j < l.length
      · have hjl : ((j : Int) < (l.length : Int)) = True := by simp; omega
        by_cases h40 : 40 < j
        · have hj40 : ((40 : Int) < (j : Int)) = True := by simp; omega
          have hrd := HV.out.keep HK.out (fun _ _ h => h)
          obtain ⟨b, o, hao, hcell⟩ : ∃ b o, lo = some ⟨b, o, none⟩ ∧ ∀ i, i < 4 → wr.cell? ⟨b, o + (j * 4 + i), none⟩ = (turnCell l[j])[i]? := by
            rcases hrd.2.2 with ⟨h, h'⟩ | ⟨b, o, c, h, _, _, hx⟩
            · omega
            · injection h with h1 h2 h3
              refine ⟨b, o, h1, fun i hi => ?_⟩
              have e := turnCells_get l j i hlt hi
              have : ∃ u, (turnCell l[j])[i]? = some u := ⟨(turnCell l[j])[i]'(by simp [turnCell]; omega), List.getElem?_eq_getElem _⟩
              obtain ⟨u, hu⟩ := this
              rw [hu]
              exact hx _ u (e.trans hu)
          subst hao
          obtain ⟨A, hA⟩ : ∃ A, l[j] = A := ⟨_, rfl⟩
          rw [hA] at hcell
          obtain ⟨line, fuse, kp, again⟩ := A
          have c0 := hcell 0 (by omega)
          have c1 := hcell 1 (by omega)
          have c2 := hcell 2 (by omega)
          have c3 := hcell 3 (by omega)
          simp [turnCell] at c0 c1 c2 c3
          simp only [← Nat.add_assoc] at c1 c2 c3
          clear hcell hA hrd
          go_wp2_with (first
            | (go_at_call 13; refine Calls.mono (awake_any (HG.out.keep (HK.out.alloc _))) ?_; rintro e w3 ⟨rfl, hk3⟩; have HK3 := Lib.hid hk3; clear hk3))
          go_ret
          exact ⟨rfl, (HK.out.alloc _).trans HK3.out (fun _ _ h => h)⟩
        · have hj40 : ((40 : Int) < (j : Int)) = False := by simp; omega
          have hrd := HV.out.keep HK.out (fun _ _ h => h)
          obtain ⟨b, o, hao, hcell⟩ : ∃ b o, lo = some ⟨b, o, none⟩ ∧ ∀ i, i < 4 → wr.cell? ⟨b, o + (j * 4 + i), none⟩ = (turnCell l[j])[i]? := by
            rcases hrd.2.2 with ⟨h, h'⟩ | ⟨b, o, c, h, _, _, hx⟩
            · omega
            · injection h with h1 h2 h3
              refine ⟨b, o, h1, fun i hi => ?_⟩
              have e := turnCells_get l j i hlt hi
              have : ∃ u, (turnCell l[j])[i]? = some u := ⟨(turnCell l[j])[i]'(by simp [turnCell]; omega), List.getElem?_eq_getElem _⟩
              obtain ⟨u, hu⟩ := this
              rw [hu]
              exact hx _ u (e.trans hu)
          subst hao
          have hln1 := HL.out l[j] (by simp)
          obtain ⟨A, hA⟩ : ∃ A, l[j] = A := ⟨_, rfl⟩
          rw [hA] at hcell hln1
          obtain ⟨line, fuse, kp, again⟩ := A
          have c0 := hcell 0 (by omega)
          have c1 := hcell 1 (by omega)
          have c2 := hcell 2 (by omega)
          have c3 := hcell 3 (by omega)
          simp [turnCell] at c0 c1 c2 c3
          simp only [← Nat.add_assoc] at c1 c2 c3
          clear hcell hA hrd
          simp only at hln1
          have HLN := Lib.hid hln1; clear hln1
          have hkr0 : KR w ⟨hb, hd, v, V, vl⟩ D S ls false wr.heap.size ⟨line, fuse, kp, again⟩ (wr.alloc (.cells #[.string line, .int .i64 fuse, .int .i64 kp, .bool again] 42)) :=
            ⟨HKH.out.at_.idle ((Keep.refl _ _).alloc _), HKH.out.fp, HK.out.alloc _, Blk.new _ _ _⟩
          have HKR0 := Lib.hid hkr0; clear hkr0
          go_upto_if 47 with fail
          clear c0 c1 c2 c3
          go_cut [9] (fun s9 wx => s9 = .pointer (some ⟨wr.heap.size, 0, none⟩) ∧ ∃ (v' : Value) (D' : Dsk), KR w ⟨hb, hd, v', V, vl⟩ D' S ls false wr.heap.size ⟨line, fuse, kp, again⟩ wx ∧ Good (g.take 10) D' S ls)
          case first =>
            have c1 := HKR0.out.t.cell 1
            simp at c1
            by_cases hf : 0 ≤ fuse
            · have hfu : ((0 : Int) ≤ fuse) = True := eq_true hf
              go_wp2_with (first
                | (go_at_call 18; have hh := fuse_any (fuse % 4) (by omega) HKR0.out.at_.disk; refine Calls.mono hh ?_; clear hh; rintro e W1 ⟨rfl, ⟨v1, hd1, hf1⟩, hk1⟩; obtain ⟨h1, hc1⟩ := HKR0.out.at_.onDisk hk1 hd1 hf1; have HKR1 := Lib.hid (HKR0.out.step h1 hc1); clear hd1 hf1 hk1 h1 hc1))
              go_meet
              exact ⟨rfl, _, _, HKR1.out, good_fuse HKH.out.good _⟩
            · have hfu : ((0 : Int) ≤ fuse) = False := eq_false hf
              go_wp2
              go_meet
              exact ⟨rfl, _, _, HKR0.out, HKH.out.good⟩
          case rest =>
            obtain ⟨rfl, v1, D1, hkr1, hgood1⟩ := hcut
            have hstp := kept_step HB.out hgood1 (by omega) line
            obtain ⟨r, hr⟩ : ∃ r, hdoF runF D1 S ls false line = r := ⟨_, rfl⟩
            rw [hr] at hstp
            obtain ⟨e, out, rD, rS, rls, rlost⟩ := r
            have hrl := hstp.len
            simp only at hrl
            have HRR := Lib.hid hr
            have HSTP := Lib.hid hstp
            have HKR1 := Lib.hid hkr1
            have HINV := Lib.hid (rep_inv (baysB_8 HB.out) hgood1.rep)
            have c0 := hkr1.t.cell 0
            simp at c0
            clear hr hstp hkr1 hgood1
            go_upto_region 13 with (first
              | (go_at_call 19; have hh := journal_any HKR3.out.at_ (by omega); refine Calls.mono hh ?_; clear hh; rintro e' wb ⟨v13, rfl, ho4, hk4⟩; have HKR4 := Lib.hid (HKR3.out.idle hk4); have HL13 := Lib.hid (Lst.new HKR3.out.at_ ho4); have HL10 := Lib.hid (HL10.out.idle hk4); have c0 := HKR4.out.t.cell 0; simp at c0; clear ho4 hk4)
              | (go_at_call 19; have hh := journal_any HKR1.out.at_ (by omega); refine Calls.mono hh ?_; clear hh; rintro e' W2 ⟨v10, rfl, ho2, hk2⟩; have HKR2 := Lib.hid (HKR1.out.idle hk2); have HL10 := Lib.hid (Lst.new HKR1.out.at_ ho2); have c0 := HKR2.out.t.cell 0; simp at c0; clear ho2 hk2)
              | (go_at_call 20; have hh := hdo_any (F := runF) (HG.out.keep HKR2.out.keep) HKR2.out.keep.size HKR2.out.at_ (HINV.out.small (by omega)) (by omega) (by have := HLN.out.2.2; omega) (run_ok HINV.out (by omega) line); rw [HRR.out] at hh; refine Calls.mono hh ?_; clear hh; rintro e' W3 ⟨⟨hb3, hd3, v3, V3, vl3⟩, rfl, h3, hc3⟩; obtain rfl : hb = hb3 := hc3.h.symm; obtain rfl : hd = hd3 := hc3.d.symm; have HKR3 := Lib.hid (HKR2.out.step h3 hc3); have HL10 := Lib.hid (HL10.out.step hc3); have c0 := HKR3.out.t.cell 0; simp at c0; clear h3 hc3))
            go_cut [86] (fun s86 wx => s86 = .bool false ∧ Keep (fun _ => False) wb wx)
            case first =>
              by_cases he : e = 0
              · subst he
                have HLS := Lib.hid (HSTP.out.ls1 rfl)
                have HC22 : Hid (∀ W, Keep (fun _ => False) wb W → Calls Tryz.prog 22 #[v10] W (ClonePost W 9 1 ls.length (strCells ls))) := Lib.hid fun W hk => clone22 (HL10.out.idle hk).rd (by omega)
                have HSA : Hid (∀ W, Keep (fun _ => False) wb W → W.cell? ⟨wr.heap.size, 0, none⟩ = some (.string line)) := Lib.hid fun W hk => by have := (HKR4.out.idle hk).t.cell 0; simpa using this
                refine wp_region_noPanic ?_
                refine wp_region_held_drew (S := fun W => W.cell? ⟨wr.heap.size, 0, none⟩ = some (.string line)) (by kernel_rfl) (HSA.out _ (Keep.refl (fun _ => False) wb).drew) (fun hHeld => ?_)
                refine wpAnyH_take (i := 0) (oi := _) (v := ?_) rfl (by kernel_rfl) (by kernel_rfl) (by kernel_rfl) (fun _ _ _ h => h) (Or.inl ⟨by rfl, ?_⟩) (by assumption) ?_
                rotate_left
                · (intro w hSw; (try dsimp only at hSw); go_simp) <;> with_reducible rfl
                (try simp only [List.getElem_toArray, List.getElem_cons_zero, List.getElem_cons_succ, Act.put, List.setIfInBounds_toArray, List.set_cons_zero, List.set_cons_succ])
                refine wpAnyH_take (i := 1) (oi := _) (v := ?_) rfl (by kernel_rfl) (by kernel_rfl) (by kernel_rfl) (fun _ _ _ h => h) (Or.inl ⟨by rfl, ?_⟩) (by assumption) ?_
                rotate_left
                · (intro w hSw; (try dsimp only at hSw); go_simp) <;> with_reducible rfl
                (try simp only [List.getElem_toArray, List.getElem_cons_zero, List.getElem_cons_succ, Act.put, List.setIfInBounds_toArray, List.set_cons_zero, List.set_cons_succ])
                refine wpAnyH_take (i := 2) (oi := _) (v := ?_) rfl (by kernel_rfl) (by kernel_rfl) (by kernel_rfl) (fun _ _ _ h => h) (Or.inl ⟨by rfl, ?_⟩) (by assumption) ?_
                rotate_left
                · (intro w hSw; (try dsimp only at hSw); go_simp) <;> with_reducible rfl
                (try simp only [List.getElem_toArray, List.getElem_cons_zero, List.getElem_cons_succ, Act.put, List.setIfInBounds_toArray, List.set_cons_zero, List.set_cons_succ])
                refine wpAnyH_take (i := 3) (oi := _) (v := ?_) rfl (by kernel_rfl) (by kernel_rfl) (by kernel_rfl) (fun _ _ _ h => h) (Or.inl ⟨by rfl, ?_⟩) (by assumption) ?_
                rotate_left
                · (intro w hSw; (try dsimp only at hSw); go_simp) <;> with_reducible rfl
                (try simp only [List.getElem_toArray, List.getElem_cons_zero, List.getElem_cons_succ, Act.put, List.setIfInBounds_toArray, List.set_cons_zero, List.set_cons_succ])
                refine wpAnyH_take (i := 4) (oi := _) (v := ?_) rfl (by kernel_rfl) (by kernel_rfl) (by kernel_rfl) (fun _ _ _ h => h) (Or.inl ⟨by rfl, ?_⟩) (by assumption) ?_
                rotate_left
                · (intro w hSw; (try dsimp only at hSw); go_simp) <;> with_reducible rfl
                (try simp only [List.getElem_toArray, List.getElem_cons_zero, List.getElem_cons_succ, Act.put, List.setIfInBounds_toArray, List.set_cons_zero, List.set_cons_succ])
                refine wpAnyH_take (i := 6) (oi := _) (v := ?_) rfl (by kernel_rfl) (by kernel_rfl) (by kernel_rfl) (fun _ _ _ h => h) (Or.inl ⟨by rfl, ?_⟩) (by assumption) ?_
                rotate_left
                · (intro w hSw; (try dsimp only at hSw); go_simp) <;> with_reducible rfl
                (try simp only [List.getElem_toArray, List.getElem_cons_zero, List.getElem_cons_succ, Act.put, List.setIfInBounds_toArray, List.set_cons_zero, List.set_cons_succ])
                refine wpAnyH_take (i := 7) (oi := _) (v := ?_) rfl (by kernel_rfl) (by kernel_rfl) (by kernel_rfl) (fun _ _ _ h => h) (Or.inl ⟨by rfl, ?_⟩) (by assumption) ?_
                rotate_left
                · (intro w hSw; (try dsimp only at hSw); go_simp) <;> with_reducible rfl
                (try simp only [List.getElem_toArray, List.getElem_cons_zero, List.getElem_cons_succ, Act.put, List.setIfInBounds_toArray, List.set_cons_zero, List.set_cons_succ])
                refine wpAnyH_ready (rs := [5, 8]) (by kernel_rfl) (by simp) ?_
                refine AllReadyH.cons (o := _) rfl (fun K hK => ?_) (AllReadyH.cons (o := _) rfl (fun K hK => ?_) AllReadyH.nil)
                · go_simp
                  refine Calls.mono (HC22.out _ (by repeat (first | exact HKR.out | exact Keep.refl _ _ | apply Keep.drew | apply Keep.drewN | apply Keep.alloc))) ?_
                  rintro e' Wc ⟨vc, rfl, hoc, hkc⟩
                  have HKRC := Lib.hid (Keep.trans (show Keep (fun _ => False) wb _ by repeat (first | exact HKR.out | exact Keep.refl _ _ | apply Keep.drew | apply Keep.drewN | apply Keep.alloc)) hkc (fun _ _ h => h))
                  have HKR := HKRC
                  clear HKRC
                  obtain ⟨co, cc, rfl, _⟩ := ownsRow_shape hoc
                  have HOC := Lib.hid hoc
                  have HKC := Lib.hid hkc
                  clear hoc hkc
                  (try dsimp only)
                  refine hK.out _ _ ?_ (fun hHeld => ?_)
                  · ((try dsimp only); refine HSA.out _ ?_; repeat (first | exact HKR.out | exact Keep.refl _ _ | apply Keep.drew | apply Keep.drewN | apply Keep.alloc))
                  clear hK K
                  (try simp only [List.getElem_toArray, List.getElem_cons_zero, List.getElem_cons_succ, Act.put, List.setIfInBounds_toArray, List.set_cons_zero, List.set_cons_succ])
                  refine wpAnyH_ready (rs := [8]) (by kernel_rfl) (by simp) ?_
                  refine AllReadyH.cons (o := _) rfl (fun K hK => ?_) AllReadyH.nil
                  go_simp
                  refine hK.out _ _ ?_ (fun hHeld => ?_)
                  · ((try dsimp only); refine HSA.out _ ?_; repeat (first | exact HKR.out | exact Keep.refl _ _ | apply Keep.drew | apply Keep.drewN | apply Keep.alloc))
                  clear hK K
                  (try simp only [List.getElem_toArray, List.getElem_cons_zero, List.getElem_cons_succ, Act.put, List.setIfInBounds_toArray, List.set_cons_zero, List.set_cons_succ])
                  refine wpAnyH_ready (rs := [9]) (by kernel_rfl) (by simp) ?_
                  refine AllReadyH.cons (o := _) rfl (fun K hK => ?_) AllReadyH.nil
                  rw [if_pos (by rfl)]
                  refine oper_app (base := wb.heap.size) (.tmp 69) (.tmp 72) 44 44 rfl 9 (.string ⟨#[]⟩) 1 16 Tryz.underlying44 info9 rfl (v := .slice co ls.length cc) (n := ls.length) (xs := strCells ls) (by first | exact ownsRow_base (ownsRow_keep HOC.out ((Keep.refl (fun _ => False) _).alloc _) (fun _ _ h => h)) (by simp) | exact ownsRow_base HOC.out (by simp)) rfl (m := 1) (news := [.string line]) (by first | exact (Rd.new Wc 1 1 [.string line] 9 rfl (by simp [Value.oneCell']) (by unfold maxLen; omega)).src Tryz.underlying44 | exact ((Rd.new _ 1 1 [.string line] 9 rfl (by simp [Value.oneCell']) (by unfold maxLen; omega)).drew.keep HKC.out (fun _ _ h => h)).src Tryz.underlying44 | exact ((Rd.new (wb.drewN (1 + q9)) 1 1 [.string line] 9 rfl (by simp [Value.oneCell']) (by unfold maxLen; omega)).keep HKC.out (fun _ _ h => h)).src Tryz.underlying44) rfl (by unfold maxLen; omega) (by omega) (by have := HKR.out.size; first | exact this | (simp; omega)) (fun v' w8 happ => ?_)
                  obtain ⟨ao8, cap8, rfl, _⟩ := ownsRow_shape happ.own
                  have hko : ∀ k, (Value.slice co ls.length cc).ownBlock = some k → wb.heap.size ≤ k := fun k e => by
                    have h1 := (ownsRow_lt HOC.out k e).1
                    simp at h1
                    omega
                  have HRA : Hid (Rd w8 1 (.slice ao8 (ls.length + 1) cap8) (ls ++ [line]).length (strCells (ls ++ [line]))) := Lib.hid (by
                    have h1 := ownsRow_rd happ.own (by intro u hu; rw [List.mem_append] at hu; exact hu.elim (strCells_one _ u) (fun h => by rw [List.mem_singleton.1 h]; rfl))
                    simpa [strCells] using h1)
                  have HKRC := Lib.hid (Keep.trans (show Keep (fun _ => False) wb _ by repeat (first | exact HKR.out | exact Keep.refl _ _ | apply Keep.drew | apply Keep.drewN | apply Keep.alloc)) happ.keep (fun k hk e => by have := hko k e; omega))
                  have HKR := HKRC
                  clear happ hko HKRC
                  (try dsimp only)
                  refine hK.out _ _ ?_ (fun hHeld => ?_)
                  · ((try dsimp only); refine HSA.out _ ?_; repeat (first | exact HKR.out | exact Keep.refl _ _ | apply Keep.drew | apply Keep.drewN | apply Keep.alloc))
                  clear hK K
                  (try simp only [List.getElem_toArray, List.getElem_cons_zero, List.getElem_cons_succ, Act.put, List.setIfInBounds_toArray, List.set_cons_zero, List.set_cons_succ])
                  refine wpAnyH_ready (rs := [10]) (by kernel_rfl) (by simp) ?_
                  refine AllReadyH.cons (o := _) rfl (fun K hK => ?_) AllReadyH.nil
                  go_simp
                  have hh := eqS_any ((HL13.out.idle HKR.out).rd) (HRA.out) (by omega)
                  rw [show eqL rls (ls ++ [line]) = true from decide_eq_true HLS.out] at hh
                  refine Calls.mono hh ?_
                  clear hh
                  rintro e' w9 ⟨rfl, q9, rfl⟩
                  have HKR9 := Lib.hid ((HKR.out).drewN q9)
                  have HKR := HKR9
                  clear HKR9
                  (try dsimp only)
                  refine hK.out _ _ ?_ (fun hHeld => ?_)
                  · ((try dsimp only); refine HSA.out _ ?_; repeat (first | exact HKR.out | exact Keep.refl _ _ | apply Keep.drew | apply Keep.drewN | apply Keep.alloc))
                  clear hK K
                  (try simp only [List.getElem_toArray, List.getElem_cons_zero, List.getElem_cons_succ, Act.put, List.setIfInBounds_toArray, List.set_cons_zero, List.set_cons_succ])
                  refine wpAnyH_take (i := 11) (oi := _) (v := ?_) rfl (by kernel_rfl) (by kernel_rfl) (by kernel_rfl) (fun _ _ _ h => h) (Or.inl ⟨by rfl, ?_⟩) (by assumption) ?_
                  rotate_left
                  · (intro w hSw; (try dsimp only at hSw); go_simp) <;> with_reducible rfl
                  (try simp only [List.getElem_toArray, List.getElem_cons_zero, List.getElem_cons_succ, Act.put, List.setIfInBounds_toArray, List.set_cons_zero, List.set_cons_succ])
                  refine wpAnyH_take (i := 12) (oi := _) (v := ?_) rfl (by kernel_rfl) (by kernel_rfl) (by kernel_rfl) (fun _ _ _ h => h) (Or.inl ⟨by rfl, ?_⟩) (by assumption) ?_
                  rotate_left
                  · (intro w hSw; (try dsimp only at hSw); go_simp) <;> with_reducible rfl
                  (try simp only [List.getElem_toArray, List.getElem_cons_zero, List.getElem_cons_succ, Act.put, List.setIfInBounds_toArray, List.set_cons_zero, List.set_cons_succ])
                  refine wpAnyH_take (i := 13) (oi := _) (v := ?_) rfl (by kernel_rfl) (by kernel_rfl) (by kernel_rfl) (fun _ _ _ h => h) (Or.inl ⟨by rfl, ?_⟩) (by assumption) ?_
                  rotate_left
                  · (intro w hSw; (try dsimp only at hSw); go_simp) <;> with_reducible rfl
                  (try simp only [List.getElem_toArray, List.getElem_cons_zero, List.getElem_cons_succ, Act.put, List.setIfInBounds_toArray, List.set_cons_zero, List.set_cons_succ])
                  refine wpAnyH_take (i := 14) (oi := _) (v := ?_) rfl (by kernel_rfl) (by kernel_rfl) (by kernel_rfl) (fun _ _ _ h => h) (Or.inl ⟨by rfl, ?_⟩) (by assumption) ?_
                  rotate_left
                  · (intro w hSw; (try dsimp only at hSw); go_simp) <;> with_reducible rfl
                  (try simp only [List.getElem_toArray, List.getElem_cons_zero, List.getElem_cons_succ, Act.put, List.setIfInBounds_toArray, List.set_cons_zero, List.set_cons_succ])
                  refine wpAnyH_take (i := 15) (oi := _) (v := ?_) rfl (by kernel_rfl) (by kernel_rfl) (by kernel_rfl) (fun _ _ _ h => h) (Or.inl ⟨by rfl, ?_⟩) (by assumption) ?_
                  rotate_left
                  · (intro w hSw; (try dsimp only at hSw); go_simp) <;> with_reducible rfl
                  (try simp only [List.getElem_toArray, List.getElem_cons_zero, List.getElem_cons_succ, Act.put, List.setIfInBounds_toArray, List.set_cons_zero, List.set_cons_succ])
                  refine wpAnyH_take (i := 16) (oi := _) (v := ?_) rfl (by kernel_rfl) (by kernel_rfl) (by kernel_rfl) (fun _ _ _ h => h) (Or.inl ⟨by rfl, ?_⟩) (by assumption) ?_
                  rotate_left
                  · (intro w hSw; (try dsimp only at hSw); go_simp) <;> with_reducible rfl
                  (try simp only [List.getElem_toArray, List.getElem_cons_zero, List.getElem_cons_succ, Act.put, List.setIfInBounds_toArray, List.set_cons_zero, List.set_cons_succ])
                  refine wpAnyH_take (i := 17) (oi := _) (v := undef) rfl (by kernel_rfl) (by kernel_rfl) (by kernel_rfl) (fun _ _ _ h => h) (Or.inr ⟨by rfl, rfl⟩) (by assumption) ?_
                  (try simp only [List.getElem_toArray, List.getElem_cons_zero, List.getElem_cons_succ, Act.put, List.setIfInBounds_toArray, List.set_cons_zero, List.set_cons_succ])
                  refine wpAnyH_take (i := 18) (oi := _) (v := undef) rfl (by kernel_rfl) (by kernel_rfl) (by kernel_rfl) (fun _ _ _ h => h) (Or.inr ⟨by rfl, rfl⟩) (by assumption) ?_
                  (try simp only [List.getElem_toArray, List.getElem_cons_zero, List.getElem_cons_succ, Act.put, List.setIfInBounds_toArray, List.set_cons_zero, List.set_cons_succ])
                  refine wpAnyH_take (i := 19) (oi := _) (v := undef) rfl (by kernel_rfl) (by kernel_rfl) (by kernel_rfl) (fun _ _ _ h => h) (Or.inr ⟨by rfl, rfl⟩) (by assumption) ?_
                  (try simp only [List.getElem_toArray, List.getElem_cons_zero, List.getElem_cons_succ, Act.put, List.setIfInBounds_toArray, List.set_cons_zero, List.set_cons_succ])
                  refine wpAnyH_take (i := 20) (oi := _) (v := undef) rfl (by kernel_rfl) (by kernel_rfl) (by kernel_rfl) (fun _ _ _ h => h) (Or.inr ⟨by rfl, rfl⟩) (by assumption) ?_
                  (try simp only [List.getElem_toArray, List.getElem_cons_zero, List.getElem_cons_succ, Act.put, List.setIfInBounds_toArray, List.set_cons_zero, List.set_cons_succ])
                  refine wpAnyH_take (i := 21) (oi := _) (v := ?_) rfl (by kernel_rfl) (by kernel_rfl) (by kernel_rfl) (fun _ _ _ h => h) (Or.inl ⟨by rfl, ?_⟩) (by assumption) ?_
                  rotate_left
                  · (intro w hSw; (try dsimp only at hSw); go_simp) <;> with_reducible rfl
                  (try simp only [List.getElem_toArray, List.getElem_cons_zero, List.getElem_cons_succ, Act.put, List.setIfInBounds_toArray, List.set_cons_zero, List.set_cons_succ])
                  refine wpAnyH_take (i := 22) (oi := _) (v := ?_) rfl (by kernel_rfl) (by kernel_rfl) (by kernel_rfl) (fun _ _ _ h => h) (Or.inl ⟨by rfl, ?_⟩) (by assumption) ?_
                  rotate_left
                  · (intro w hSw; (try dsimp only at hSw); go_simp) <;> with_reducible rfl
                  (try simp only [List.getElem_toArray, List.getElem_cons_zero, List.getElem_cons_succ, Act.put, List.setIfInBounds_toArray, List.set_cons_zero, List.set_cons_succ])
                  refine wpAnyH_done (by kernel_rfl) ?_ _
                  refine NoPanic.normal ?_
                  (try go_wp2_with fail)
                  go_meet
                  exact ⟨rfl, by first | exact HKR.out | exact (Keep.refl _ _).drewN _⟩
                · go_simp
                  refine hK.out _ _ ?_ (fun hHeld => ?_)
                  · ((try dsimp only); refine HSA.out _ ?_; repeat (first | exact HKR.out | exact Keep.refl _ _ | apply Keep.drew | apply Keep.drewN | apply Keep.alloc))
                  clear hK K
                  (try simp only [List.getElem_toArray, List.getElem_cons_zero, List.getElem_cons_succ, Act.put, List.setIfInBounds_toArray, List.set_cons_zero, List.set_cons_succ])
                  refine wpAnyH_ready (rs := [5]) (by kernel_rfl) (by simp) ?_
                  refine AllReadyH.cons (o := _) rfl (fun K hK => ?_) AllReadyH.nil
                  go_simp
                  refine Calls.mono (HC22.out _ (by repeat (first | exact HKR.out | exact Keep.refl _ _ | apply Keep.drew | apply Keep.drewN | apply Keep.alloc))) ?_
                  rintro e' Wc ⟨vc, rfl, hoc, hkc⟩
                  have HKRC := Lib.hid (Keep.trans (show Keep (fun _ => False) wb _ by repeat (first | exact HKR.out | exact Keep.refl _ _ | apply Keep.drew | apply Keep.drewN | apply Keep.alloc)) hkc (fun _ _ h => h))
                  have HKR := HKRC
                  clear HKRC
                  obtain ⟨co, cc, rfl, _⟩ := ownsRow_shape hoc
                  have HOC := Lib.hid hoc
                  have HKC := Lib.hid hkc
                  clear hoc hkc
                  (try dsimp only)
                  refine hK.out _ _ ?_ (fun hHeld => ?_)
                  · ((try dsimp only); refine HSA.out _ ?_; repeat (first | exact HKR.out | exact Keep.refl _ _ | apply Keep.drew | apply Keep.drewN | apply Keep.alloc))
                  clear hK K
                  (try simp only [List.getElem_toArray, List.getElem_cons_zero, List.getElem_cons_succ, Act.put, List.setIfInBounds_toArray, List.set_cons_zero, List.set_cons_succ])
                  refine wpAnyH_ready (rs := [9]) (by kernel_rfl) (by simp) ?_
                  refine AllReadyH.cons (o := _) rfl (fun K hK => ?_) AllReadyH.nil
                  rw [if_pos (by rfl)]
                  refine oper_app (base := wb.heap.size) (.tmp 69) (.tmp 72) 44 44 rfl 9 (.string ⟨#[]⟩) 1 16 Tryz.underlying44 info9 rfl (v := .slice co ls.length cc) (n := ls.length) (xs := strCells ls) (by first | exact ownsRow_base (ownsRow_keep HOC.out ((Keep.refl (fun _ => False) _).alloc _) (fun _ _ h => h)) (by simp) | exact ownsRow_base HOC.out (by simp)) rfl (m := 1) (news := [.string line]) (by first | exact (Rd.new Wc 1 1 [.string line] 9 rfl (by simp [Value.oneCell']) (by unfold maxLen; omega)).src Tryz.underlying44 | exact ((Rd.new _ 1 1 [.string line] 9 rfl (by simp [Value.oneCell']) (by unfold maxLen; omega)).drew.keep HKC.out (fun _ _ h => h)).src Tryz.underlying44 | exact ((Rd.new (wb.drewN (1 + q9)) 1 1 [.string line] 9 rfl (by simp [Value.oneCell']) (by unfold maxLen; omega)).keep HKC.out (fun _ _ h => h)).src Tryz.underlying44) rfl (by unfold maxLen; omega) (by omega) (by have := HKR.out.size; first | exact this | (simp; omega)) (fun v' w8 happ => ?_)
                  obtain ⟨ao8, cap8, rfl, _⟩ := ownsRow_shape happ.own
                  have hko : ∀ k, (Value.slice co ls.length cc).ownBlock = some k → wb.heap.size ≤ k := fun k e => by
                    have h1 := (ownsRow_lt HOC.out k e).1
                    simp at h1
                    omega
                  have HRA : Hid (Rd w8 1 (.slice ao8 (ls.length + 1) cap8) (ls ++ [line]).length (strCells (ls ++ [line]))) := Lib.hid (by
                    have h1 := ownsRow_rd happ.own (by intro u hu; rw [List.mem_append] at hu; exact hu.elim (strCells_one _ u) (fun h => by rw [List.mem_singleton.1 h]; rfl))
                    simpa [strCells] using h1)
                  have HKRC := Lib.hid (Keep.trans (show Keep (fun _ => False) wb _ by repeat (first | exact HKR.out | exact Keep.refl _ _ | apply Keep.drew | apply Keep.drewN | apply Keep.alloc)) happ.keep (fun k hk e => by have := hko k e; omega))
                  have HKR := HKRC
                  clear happ hko HKRC
                  (try dsimp only)
                  refine hK.out _ _ ?_ (fun hHeld => ?_)
                  · ((try dsimp only); refine HSA.out _ ?_; repeat (first | exact HKR.out | exact Keep.refl _ _ | apply Keep.drew | apply Keep.drewN | apply Keep.alloc))
                  clear hK K
                  (try simp only [List.getElem_toArray, List.getElem_cons_zero, List.getElem_cons_succ, Act.put, List.setIfInBounds_toArray, List.set_cons_zero, List.set_cons_succ])
                  refine wpAnyH_ready (rs := [10]) (by kernel_rfl) (by simp) ?_
                  refine AllReadyH.cons (o := _) rfl (fun K hK => ?_) AllReadyH.nil
                  go_simp
                  have hh := eqS_any ((HL13.out.idle HKR.out).rd) (HRA.out) (by omega)
                  rw [show eqL rls (ls ++ [line]) = true from decide_eq_true HLS.out] at hh
                  refine Calls.mono hh ?_
                  clear hh
                  rintro e' w9 ⟨rfl, q9, rfl⟩
                  have HKR9 := Lib.hid ((HKR.out).drewN q9)
                  have HKR := HKR9
                  clear HKR9
                  (try dsimp only)
                  refine hK.out _ _ ?_ (fun hHeld => ?_)
                  · ((try dsimp only); refine HSA.out _ ?_; repeat (first | exact HKR.out | exact Keep.refl _ _ | apply Keep.drew | apply Keep.drewN | apply Keep.alloc))
                  clear hK K
                  (try simp only [List.getElem_toArray, List.getElem_cons_zero, List.getElem_cons_succ, Act.put, List.setIfInBounds_toArray, List.set_cons_zero, List.set_cons_succ])
                  refine wpAnyH_take (i := 11) (oi := _) (v := ?_) rfl (by kernel_rfl) (by kernel_rfl) (by kernel_rfl) (fun _ _ _ h => h) (Or.inl ⟨by rfl, ?_⟩) (by assumption) ?_
                  rotate_left
                  · (intro w hSw; (try dsimp only at hSw); go_simp) <;> with_reducible rfl
                  (try simp only [List.getElem_toArray, List.getElem_cons_zero, List.getElem_cons_succ, Act.put, List.setIfInBounds_toArray, List.set_cons_zero, List.set_cons_succ])
                  refine wpAnyH_take (i := 12) (oi := _) (v := ?_) rfl (by kernel_rfl) (by kernel_rfl) (by kernel_rfl) (fun _ _ _ h => h) (Or.inl ⟨by rfl, ?_⟩) (by assumption) ?_
                  rotate_left
                  · (intro w hSw; (try dsimp only at hSw); go_simp) <;> with_reducible rfl
                  (try simp only [List.getElem_toArray, List.getElem_cons_zero, List.getElem_cons_succ, Act.put, List.setIfInBounds_toArray, List.set_cons_zero, List.set_cons_succ])
                  refine wpAnyH_take (i := 13) (oi := _) (v := ?_) rfl (by kernel_rfl) (by kernel_rfl) (by kernel_rfl) (fun _ _ _ h => h) (Or.inl ⟨by rfl, ?_⟩) (by assumption) ?_
                  rotate_left
                  · (intro w hSw; (try dsimp only at hSw); go_simp) <;> with_reducible rfl
                  (try simp only [List.getElem_toArray, List.getElem_cons_zero, List.getElem_cons_succ, Act.put, List.setIfInBounds_toArray, List.set_cons_zero, List.set_cons_succ])
                  refine wpAnyH_take (i := 14) (oi := _) (v := ?_) rfl (by kernel_rfl) (by kernel_rfl) (by kernel_rfl) (fun _ _ _ h => h) (Or.inl ⟨by rfl, ?_⟩) (by assumption) ?_
                  rotate_left
                  · (intro w hSw; (try dsimp only at hSw); go_simp) <;> with_reducible rfl
                  (try simp only [List.getElem_toArray, List.getElem_cons_zero, List.getElem_cons_succ, Act.put, List.setIfInBounds_toArray, List.set_cons_zero, List.set_cons_succ])
                  refine wpAnyH_take (i := 15) (oi := _) (v := ?_) rfl (by kernel_rfl) (by kernel_rfl) (by kernel_rfl) (fun _ _ _ h => h) (Or.inl ⟨by rfl, ?_⟩) (by assumption) ?_
                  rotate_left
                  · (intro w hSw; (try dsimp only at hSw); go_simp) <;> with_reducible rfl
                  (try simp only [List.getElem_toArray, List.getElem_cons_zero, List.getElem_cons_succ, Act.put, List.setIfInBounds_toArray, List.set_cons_zero, List.set_cons_succ])
                  refine wpAnyH_take (i := 16) (oi := _) (v := ?_) rfl (by kernel_rfl) (by kernel_rfl) (by kernel_rfl) (fun _ _ _ h => h) (Or.inl ⟨by rfl, ?_⟩) (by assumption) ?_
                  rotate_left
                  · (intro w hSw; (try dsimp only at hSw); go_simp) <;> with_reducible rfl
                  (try simp only [List.getElem_toArray, List.getElem_cons_zero, List.getElem_cons_succ, Act.put, List.setIfInBounds_toArray, List.set_cons_zero, List.set_cons_succ])
                  refine wpAnyH_take (i := 17) (oi := _) (v := undef) rfl (by kernel_rfl) (by kernel_rfl) (by kernel_rfl) (fun _ _ _ h => h) (Or.inr ⟨by rfl, rfl⟩) (by assumption) ?_
                  (try simp only [List.getElem_toArray, List.getElem_cons_zero, List.getElem_cons_succ, Act.put, List.setIfInBounds_toArray, List.set_cons_zero, List.set_cons_succ])
                  refine wpAnyH_take (i := 18) (oi := _) (v := undef) rfl (by kernel_rfl) (by kernel_rfl) (by kernel_rfl) (fun _ _ _ h => h) (Or.inr ⟨by rfl, rfl⟩) (by assumption) ?_
                  (try simp only [List.getElem_toArray, List.getElem_cons_zero, List.getElem_cons_succ, Act.put, List.setIfInBounds_toArray, List.set_cons_zero, List.set_cons_succ])
                  refine wpAnyH_take (i := 19) (oi := _) (v := undef) rfl (by kernel_rfl) (by kernel_rfl) (by kernel_rfl) (fun _ _ _ h => h) (Or.inr ⟨by rfl, rfl⟩) (by assumption) ?_
                  (try simp only [List.getElem_toArray, List.getElem_cons_zero, List.getElem_cons_succ, Act.put, List.setIfInBounds_toArray, List.set_cons_zero, List.set_cons_succ])
                  refine wpAnyH_take (i := 20) (oi := _) (v := undef) rfl (by kernel_rfl) (by kernel_rfl) (by kernel_rfl) (fun _ _ _ h => h) (Or.inr ⟨by rfl, rfl⟩) (by assumption) ?_
                  (try simp only [List.getElem_toArray, List.getElem_cons_zero, List.getElem_cons_succ, Act.put, List.setIfInBounds_toArray, List.set_cons_zero, List.set_cons_succ])
                  refine wpAnyH_take (i := 21) (oi := _) (v := ?_) rfl (by kernel_rfl) (by kernel_rfl) (by kernel_rfl) (fun _ _ _ h => h) (Or.inl ⟨by rfl, ?_⟩) (by assumption) ?_
                  rotate_left
                  · (intro w hSw; (try dsimp only at hSw); go_simp) <;> with_reducible rfl
                  (try simp only [List.getElem_toArray, List.getElem_cons_zero, List.getElem_cons_succ, Act.put, List.setIfInBounds_toArray, List.set_cons_zero, List.set_cons_succ])
                  refine wpAnyH_take (i := 22) (oi := _) (v := ?_) rfl (by kernel_rfl) (by kernel_rfl) (by kernel_rfl) (fun _ _ _ h => h) (Or.inl ⟨by rfl, ?_⟩) (by assumption) ?_
                  rotate_left
                  · (intro w hSw; (try dsimp only at hSw); go_simp) <;> with_reducible rfl
                  (try simp only [List.getElem_toArray, List.getElem_cons_zero, List.getElem_cons_succ, Act.put, List.setIfInBounds_toArray, List.set_cons_zero, List.set_cons_succ])
                  refine wpAnyH_done (by kernel_rfl) ?_ _
                  refine NoPanic.normal ?_
                  (try go_wp2_with fail)
                  go_meet
                  exact ⟨rfl, by first | exact HKR.out | exact (Keep.refl _ _).drewN _⟩
              · have he1 : (e == 0) = false := by simp [he]
                have he2 : (e != 0) = true := by simp [he]
                have HLS := Lib.hid (HSTP.out.ls2 he)
                clear he
                refine wp_region_noPanic ?_
                refine wp_region_held_drew (S := fun _ => True) (by kernel_rfl) (trivial) (fun hHeld => ?_)
                refine wpAnyH_take (i := 0) (oi := _) (v := ?_) rfl (by kernel_rfl) (by kernel_rfl) (by kernel_rfl) (fun _ _ _ h => h) (Or.inl ⟨by rfl, ?_⟩) (by assumption) ?_
                rotate_left
                · (intro w hSw; (try dsimp only at hSw); go_simp) <;> with_reducible rfl
                (try simp only [List.getElem_toArray, List.getElem_cons_zero, List.getElem_cons_succ, Act.put, List.setIfInBounds_toArray, List.set_cons_zero, List.set_cons_succ])
                refine wpAnyH_take (i := 1) (oi := _) (v := ?_) rfl (by kernel_rfl) (by kernel_rfl) (by kernel_rfl) (fun _ _ _ h => h) (Or.inl ⟨by rfl, ?_⟩) (by assumption) ?_
                rotate_left
                · (intro w hSw; (try dsimp only at hSw); go_simp) <;> with_reducible rfl
                (try simp only [List.getElem_toArray, List.getElem_cons_zero, List.getElem_cons_succ, Act.put, List.setIfInBounds_toArray, List.set_cons_zero, List.set_cons_succ])
                refine wpAnyH_take (i := 2) (oi := _) (v := ?_) rfl (by kernel_rfl) (by kernel_rfl) (by kernel_rfl) (fun _ _ _ h => h) (Or.inl ⟨by rfl, ?_⟩) (by assumption) ?_
                rotate_left
                · (intro w hSw; (try dsimp only at hSw); go_simp) <;> with_reducible rfl
                (try simp only [List.getElem_toArray, List.getElem_cons_zero, List.getElem_cons_succ, Act.put, List.setIfInBounds_toArray, List.set_cons_zero, List.set_cons_succ])
                refine wpAnyH_take (i := 3) (oi := _) (v := undef) rfl (by kernel_rfl) (by kernel_rfl) (by kernel_rfl) (fun _ _ _ h => h) (Or.inr ⟨by rfl, rfl⟩) (by assumption) ?_
                (try simp only [List.getElem_toArray, List.getElem_cons_zero, List.getElem_cons_succ, Act.put, List.setIfInBounds_toArray, List.set_cons_zero, List.set_cons_succ])
                refine wpAnyH_take (i := 4) (oi := _) (v := undef) rfl (by kernel_rfl) (by kernel_rfl) (by kernel_rfl) (fun _ _ _ h => h) (Or.inr ⟨by rfl, rfl⟩) (by assumption) ?_
                (try simp only [List.getElem_toArray, List.getElem_cons_zero, List.getElem_cons_succ, Act.put, List.setIfInBounds_toArray, List.set_cons_zero, List.set_cons_succ])
                refine wpAnyH_take (i := 5) (oi := _) (v := undef) rfl (by kernel_rfl) (by kernel_rfl) (by kernel_rfl) (fun _ _ _ h => h) (Or.inr ⟨by rfl, rfl⟩) (by assumption) ?_
                (try simp only [List.getElem_toArray, List.getElem_cons_zero, List.getElem_cons_succ, Act.put, List.setIfInBounds_toArray, List.set_cons_zero, List.set_cons_succ])
                refine wpAnyH_take (i := 6) (oi := _) (v := undef) rfl (by kernel_rfl) (by kernel_rfl) (by kernel_rfl) (fun _ _ _ h => h) (Or.inr ⟨by rfl, rfl⟩) (by assumption) ?_
                (try simp only [List.getElem_toArray, List.getElem_cons_zero, List.getElem_cons_succ, Act.put, List.setIfInBounds_toArray, List.set_cons_zero, List.set_cons_succ])
                refine wpAnyH_take (i := 7) (oi := _) (v := undef) rfl (by kernel_rfl) (by kernel_rfl) (by kernel_rfl) (fun _ _ _ h => h) (Or.inr ⟨by rfl, rfl⟩) (by assumption) ?_
                (try simp only [List.getElem_toArray, List.getElem_cons_zero, List.getElem_cons_succ, Act.put, List.setIfInBounds_toArray, List.set_cons_zero, List.set_cons_succ])
                refine wpAnyH_take (i := 8) (oi := _) (v := undef) rfl (by kernel_rfl) (by kernel_rfl) (by kernel_rfl) (fun _ _ _ h => h) (Or.inr ⟨by rfl, rfl⟩) (by assumption) ?_
                (try simp only [List.getElem_toArray, List.getElem_cons_zero, List.getElem_cons_succ, Act.put, List.setIfInBounds_toArray, List.set_cons_zero, List.set_cons_succ])
                refine wpAnyH_take (i := 9) (oi := _) (v := undef) rfl (by kernel_rfl) (by kernel_rfl) (by kernel_rfl) (fun _ _ _ h => h) (Or.inr ⟨by rfl, rfl⟩) (by assumption) ?_
                (try simp only [List.getElem_toArray, List.getElem_cons_zero, List.getElem_cons_succ, Act.put, List.setIfInBounds_toArray, List.set_cons_zero, List.set_cons_succ])
                refine wpAnyH_take (i := 10) (oi := _) (v := undef) rfl (by kernel_rfl) (by kernel_rfl) (by kernel_rfl) (fun _ _ _ h => h) (Or.inr ⟨by rfl, rfl⟩) (by assumption) ?_
                (try simp only [List.getElem_toArray, List.getElem_cons_zero, List.getElem_cons_succ, Act.put, List.setIfInBounds_toArray, List.set_cons_zero, List.set_cons_succ])
                refine wpAnyH_take (i := 11) (oi := _) (v := undef) rfl (by kernel_rfl) (by kernel_rfl) (by kernel_rfl) (fun _ _ _ h => h) (Or.inr ⟨by rfl, rfl⟩) (by assumption) ?_
                (try simp only [List.getElem_toArray, List.getElem_cons_zero, List.getElem_cons_succ, Act.put, List.setIfInBounds_toArray, List.set_cons_zero, List.set_cons_succ])
                refine wpAnyH_take (i := 12) (oi := _) (v := ?_) rfl (by kernel_rfl) (by kernel_rfl) (by kernel_rfl) (fun _ _ _ h => h) (Or.inl ⟨by rfl, ?_⟩) (by assumption) ?_
                rotate_left
                · (intro w hSw; (try dsimp only at hSw); go_simp) <;> with_reducible rfl
                (try simp only [List.getElem_toArray, List.getElem_cons_zero, List.getElem_cons_succ, Act.put, List.setIfInBounds_toArray, List.set_cons_zero, List.set_cons_succ])
                refine wpAnyH_take (i := 13) (oi := _) (v := ?_) rfl (by kernel_rfl) (by kernel_rfl) (by kernel_rfl) (fun _ _ _ h => h) (Or.inl ⟨by rfl, ?_⟩) (by assumption) ?_
                rotate_left
                · (intro w hSw; (try dsimp only at hSw); go_simp) <;> with_reducible rfl
                (try simp only [List.getElem_toArray, List.getElem_cons_zero, List.getElem_cons_succ, Act.put, List.setIfInBounds_toArray, List.set_cons_zero, List.set_cons_succ])
                refine wpAnyH_take (i := 14) (oi := _) (v := ?_) rfl (by kernel_rfl) (by kernel_rfl) (by kernel_rfl) (fun _ _ _ h => h) (Or.inl ⟨by rfl, ?_⟩) (by assumption) ?_
                rotate_left
                · (intro w hSw; (try dsimp only at hSw); go_simp) <;> with_reducible rfl
                (try simp only [List.getElem_toArray, List.getElem_cons_zero, List.getElem_cons_succ, Act.put, List.setIfInBounds_toArray, List.set_cons_zero, List.set_cons_succ])
                refine wpAnyH_take (i := 15) (oi := _) (v := ?_) rfl (by kernel_rfl) (by kernel_rfl) (by kernel_rfl) (fun _ _ _ h => h) (Or.inl ⟨by rfl, ?_⟩) (by assumption) ?_
                rotate_left
                · (intro w hSw; (try dsimp only at hSw); go_simp) <;> with_reducible rfl
                (try simp only [List.getElem_toArray, List.getElem_cons_zero, List.getElem_cons_succ, Act.put, List.setIfInBounds_toArray, List.set_cons_zero, List.set_cons_succ])
                refine wpAnyH_take (i := 16) (oi := _) (v := ?_) rfl (by kernel_rfl) (by kernel_rfl) (by kernel_rfl) (fun _ _ _ h => h) (Or.inl ⟨by rfl, ?_⟩) (by assumption) ?_
                rotate_left
                · (intro w hSw; (try dsimp only at hSw); go_simp) <;> with_reducible rfl
                (try simp only [List.getElem_toArray, List.getElem_cons_zero, List.getElem_cons_succ, Act.put, List.setIfInBounds_toArray, List.set_cons_zero, List.set_cons_succ])
                refine wpAnyH_take (i := 17) (oi := _) (v := ?_) rfl (by kernel_rfl) (by kernel_rfl) (by kernel_rfl) (fun _ _ _ h => h) (Or.inl ⟨by rfl, ?_⟩) (by assumption) ?_
                rotate_left
                · (intro w hSw; (try dsimp only at hSw); go_simp) <;> with_reducible rfl
                (try simp only [List.getElem_toArray, List.getElem_cons_zero, List.getElem_cons_succ, Act.put, List.setIfInBounds_toArray, List.set_cons_zero, List.set_cons_succ])
                refine wpAnyH_take (i := 18) (oi := _) (v := ?_) rfl (by kernel_rfl) (by kernel_rfl) (by kernel_rfl) (fun _ _ _ h => h) (Or.inl ⟨by rfl, ?_⟩) (by assumption) ?_
                rotate_left
                · (intro w hSw; (try dsimp only at hSw); go_simp) <;> with_reducible rfl
                (try simp only [List.getElem_toArray, List.getElem_cons_zero, List.getElem_cons_succ, Act.put, List.setIfInBounds_toArray, List.set_cons_zero, List.set_cons_succ])
                refine wpAnyH_ready (rs := [19]) (by kernel_rfl) (by simp) ?_
                refine AllReadyH.cons (o := _) rfl (fun K hK => ?_) AllReadyH.nil
                go_simp
                have hh := eqS_any ((HL13.out.idle (Keep.refl (fun _ => False) wb).drew).rd) ((HL10.out.idle (Keep.refl (fun _ => False) wb).drew).rd) (by omega)
                rw [show eqL rls ls = true from decide_eq_true HLS.out] at hh
                refine Calls.mono hh ?_
                clear hh
                rintro e' w9 ⟨rfl, q9, rfl⟩
                have HKR9 := Lib.hid (((Keep.refl (fun _ => False) wb).drew).drewN q9)
                have HKR := HKR9
                clear HKR9
                (try dsimp only)
                refine hK.out _ _ ?_ (fun hHeld => ?_)
                · trivial
                clear hK K
                (try simp only [List.getElem_toArray, List.getElem_cons_zero, List.getElem_cons_succ, Act.put, List.setIfInBounds_toArray, List.set_cons_zero, List.set_cons_succ])
                refine wpAnyH_take (i := 20) (oi := _) (v := ?_) rfl (by kernel_rfl) (by kernel_rfl) (by kernel_rfl) (fun _ _ _ h => h) (Or.inl ⟨by rfl, ?_⟩) (by assumption) ?_
                rotate_left
                · (intro w hSw; (try dsimp only at hSw); go_simp) <;> with_reducible rfl
                (try simp only [List.getElem_toArray, List.getElem_cons_zero, List.getElem_cons_succ, Act.put, List.setIfInBounds_toArray, List.set_cons_zero, List.set_cons_succ])
                refine wpAnyH_take (i := 21) (oi := _) (v := ?_) rfl (by kernel_rfl) (by kernel_rfl) (by kernel_rfl) (fun _ _ _ h => h) (Or.inl ⟨by rfl, ?_⟩) (by assumption) ?_
                rotate_left
                · (intro w hSw; (try dsimp only at hSw); go_simp) <;> with_reducible rfl
                (try simp only [List.getElem_toArray, List.getElem_cons_zero, List.getElem_cons_succ, Act.put, List.setIfInBounds_toArray, List.set_cons_zero, List.set_cons_succ])
                refine wpAnyH_take (i := 22) (oi := _) (v := ?_) rfl (by kernel_rfl) (by kernel_rfl) (by kernel_rfl) (fun _ _ _ h => h) (Or.inl ⟨by rfl, ?_⟩) (by assumption) ?_
                rotate_left
                · (intro w hSw; (try dsimp only at hSw); go_simp) <;> with_reducible rfl
                (try simp only [List.getElem_toArray, List.getElem_cons_zero, List.getElem_cons_succ, Act.put, List.setIfInBounds_toArray, List.set_cons_zero, List.set_cons_succ])
                refine wpAnyH_done (by kernel_rfl) ?_ _
                refine NoPanic.normal ?_
                (try go_wp2_with fail)
                go_meet
                exact ⟨rfl, by first | exact HKR.out | exact (Keep.refl _ _).drewN _⟩
            case rest =>
              obtain ⟨rfl, hk5⟩ := hcut
              have HKR5 := Lib.hid (HKR4.out.idle hk5)
              have HL135 := Lib.hid (HL13.out.idle hk5)
              clear hk5 c0
              have c0 := HKR5.out.t.cell 0
              have c2 := HKR5.out.t.cell 2
              have c3 := HKR5.out.t.cell 3
              simp at c0 c2 c3
              by_cases hcont : e ≠ 10 ∧ again = false
              · obtain ⟨h10, rfl⟩ := hcont
                have he1 : (e != 10) = true := by simp [h10]
                have HG5 := Lib.hid (HSTP.out.good h10)
                clear h10
                go_wp2
                go_roundg (l.length - (j + 1))
                case measure => omega
                case rel => exact ⟨j + 1, ⟨hb, hd, v3, V3, vl3⟩, rD, rS, rls, rfl, by omega, by go_num, rfl, rfl, ⟨by have h := HKR5.out.at_; have h2 : rlost = false := HG5.out.1; rw [h2] at h; exact h, HG5.out.2, HKR5.out.fp⟩, by omega, HKR5.out.keep⟩
              · go_upto_region 15 with fail
                obtain ⟨w5, hw5⟩ : ∃ w5, w5 = wc := ⟨_, rfl⟩
                go_cut [93] (fun s93 wx => s93 = .bool false ∧ w5 = wx)
                case first =>
                  by_cases he : e = 10
                  · subst he
                    go_wp2
                    go_meet
                    exact ⟨rfl, hw5⟩
                  · have he1 : (e != 10) = true := by simp [he]
                    obtain rfl : again = true := (Bool.eq_false_or_eq_true again).elim id (fun h => absurd ⟨he, h⟩ hcont)
                    clear he hcont
                    go_wp2
                    go_meet
                    exact ⟨rfl, hw5⟩
                case rest =>
                  subst hw5
                  obtain ⟨rfl, rfl⟩ := hcut
                  obtain ⟨D8, S8, ls8, hop, hgd8, hls8, hlen8⟩ := HSTP.out.crash kp
                  have HOP := Lib.hid hop; have HGD8 := Lib.hid hgd8; have HLS8 := Lib.hid hls8
                  clear hop hgd8 hls8 hcont
                  go_upto_region 21 with (first
                    | (go_at_call 23; have hh := crash_any kp HLN.out.2.1.2 HKR5.out.at_.disk; refine Calls.mono hh ?_; clear hh; rintro e' W6 ⟨rfl, ⟨v6, hd6, hf6⟩, hk6⟩; obtain ⟨h6, hc6⟩ := HKR5.out.at_.onDisk hk6 hd6 hf6; have HKR6 := Lib.hid (HKR5.out.step h6 hc6); have HL136 := Lib.hid (HL135.out.step hc6); clear hd6 hf6 hk6 h6 hc6)
                    | (go_at_call 25; have hh := graph_any (HGR.out.keep HKR6.out.keep (fun _ _ h => h)) (by omega); refine Calls.mono hh ?_; clear hh; rintro e' W7 ⟨gv7, rfl, ho7, hk7⟩; have HKR7 := Lib.hid (HKR6.out.idle hk7); have HL137 := Lib.hid (HL136.out.idle hk7); have HO7 := Lib.hid ho7; clear ho7 hk7)
                    | (go_at_call 24; have hh := open_any (F := runF) (I := Inv) (g := g.take 10) (HG.out.keep HKR7.out.keep) HKR7.out.at_.disk (ownsRow_rd HO7.out (icells_one _)) (by rw [List.length_take]; omega) (fun k e => (ownsRow_lt HO7.out k e).2) HKR7.out.keep.size (fun e => inv_S0 (baysB_8 e)) (sys_all (by have h1 := HKR7.out.at_.disk.ok.fits; have h2 := HKR7.out.at_.disk.ok.size1; exact Nat.le_trans h1 h2)); rw [HOP.out] at hh; refine Calls.mono hh ?_; clear hh; rintro e' W8 ⟨v8, _, _, hk8, _, hok8⟩; obtain ⟨H8, rfl, hHd, hHv, hh8, hfp8, _, _⟩ := hok8 rfl; have HKR8 := Lib.hid (HKR7.out.opened hh8 hfp8 hk8); have HRD13 := Lib.hid (HL137.out.disk hk8); have HHD := Lib.hid hHd; clear hk8 hok8 hHd hHv hh8 hfp8)
                    | (go_at_call 19; have hh := journal_any HKR8.out.at_ (by omega); refine Calls.mono hh ?_; clear hh; rintro e' wb ⟨v16, rfl, ho9, hk9⟩; have HKR9 := Lib.hid (HKR8.out.idle hk9); have HRD16 := Lib.hid (ownsRow_rd ho9 (strCells_one ls8)); have HRD139 := Lib.hid (HRD13.out.keep hk9 (fun _ _ h => h)); clear ho9 hk9))
                  have c0 := HKR9.out.t.cell 0
                  simp at c0
                  go_cut [127] (fun s127 wx => s127 = .bool false ∧ Keep (fun _ => False) wb wx)
                  case first =>
                    by_cases hsame : ls8 = rls
                    · have HSM := Lib.hid hsame; clear hsame
                      refine wp_region_noPanic ?_
                      refine wp_region_held_drew (S := fun _ => True) (by kernel_rfl) (trivial) (fun hHeld => ?_)
                      refine wpAnyH_take (i := 0) (oi := _) (v := ?_) rfl (by kernel_rfl) (by kernel_rfl) (by kernel_rfl) (fun _ _ _ h => h) (Or.inl ⟨by rfl, ?_⟩) (by assumption) ?_
                      rotate_left
                      · (intro w hSw; (try dsimp only at hSw); go_simp) <;> with_reducible rfl
                      (try simp only [List.getElem_toArray, List.getElem_cons_zero, List.getElem_cons_succ, Act.put, List.setIfInBounds_toArray, List.set_cons_zero, List.set_cons_succ])
                      refine wpAnyH_take (i := 1) (oi := _) (v := ?_) rfl (by kernel_rfl) (by kernel_rfl) (by kernel_rfl) (fun _ _ _ h => h) (Or.inl ⟨by rfl, ?_⟩) (by assumption) ?_
                      rotate_left
                      · (intro w hSw; (try dsimp only at hSw); go_simp) <;> with_reducible rfl
                      (try simp only [List.getElem_toArray, List.getElem_cons_zero, List.getElem_cons_succ, Act.put, List.setIfInBounds_toArray, List.set_cons_zero, List.set_cons_succ])
                      refine wpAnyH_ready (rs := [2]) (by kernel_rfl) (by simp) ?_
                      refine AllReadyH.cons (o := _) rfl (fun K hK => ?_) AllReadyH.nil
                      go_simp
                      have hh := eqS_any (HRD16.out.keep ((Keep.refl (fun _ => False) wb).drew) (fun _ _ h => h)) (HRD139.out.keep ((Keep.refl (fun _ => False) wb).drew) (fun _ _ h => h)) (by omega)
                      rw [show eqL ls8 rls = true from decide_eq_true HSM.out] at hh
                      refine Calls.mono hh ?_
                      clear hh
                      rintro e' w9 ⟨rfl, q9, rfl⟩
                      have HKR9 := Lib.hid (((Keep.refl (fun _ => False) wb).drew).drewN q9)
                      have HKR := HKR9
                      clear HKR9
                      (try dsimp only)
                      refine hK.out _ _ ?_ (fun hHeld => ?_)
                      · trivial
                      clear hK K
                      (try simp only [List.getElem_toArray, List.getElem_cons_zero, List.getElem_cons_succ, Act.put, List.setIfInBounds_toArray, List.set_cons_zero, List.set_cons_succ])
                      refine wpAnyH_take (i := 3) (oi := _) (v := ?_) rfl (by kernel_rfl) (by kernel_rfl) (by kernel_rfl) (fun _ _ _ h => h) (Or.inl ⟨by rfl, ?_⟩) (by assumption) ?_
                      rotate_left
                      · (intro w hSw; (try dsimp only at hSw); go_simp) <;> with_reducible rfl
                      (try simp only [List.getElem_toArray, List.getElem_cons_zero, List.getElem_cons_succ, Act.put, List.setIfInBounds_toArray, List.set_cons_zero, List.set_cons_succ])
                      refine wpAnyH_take (i := 4) (oi := _) (v := ?_) rfl (by kernel_rfl) (by kernel_rfl) (by kernel_rfl) (fun _ _ _ h => h) (Or.inl ⟨by rfl, ?_⟩) (by assumption) ?_
                      rotate_left
                      · (intro w hSw; (try dsimp only at hSw); go_simp) <;> with_reducible rfl
                      (try simp only [List.getElem_toArray, List.getElem_cons_zero, List.getElem_cons_succ, Act.put, List.setIfInBounds_toArray, List.set_cons_zero, List.set_cons_succ])
                      refine wpAnyH_take (i := 5) (oi := _) (v := undef) rfl (by kernel_rfl) (by kernel_rfl) (by kernel_rfl) (fun _ _ _ h => h) (Or.inr ⟨by rfl, rfl⟩) (by assumption) ?_
                      (try simp only [List.getElem_toArray, List.getElem_cons_zero, List.getElem_cons_succ, Act.put, List.setIfInBounds_toArray, List.set_cons_zero, List.set_cons_succ])
                      refine wpAnyH_take (i := 6) (oi := _) (v := undef) rfl (by kernel_rfl) (by kernel_rfl) (by kernel_rfl) (fun _ _ _ h => h) (Or.inr ⟨by rfl, rfl⟩) (by assumption) ?_
                      (try simp only [List.getElem_toArray, List.getElem_cons_zero, List.getElem_cons_succ, Act.put, List.setIfInBounds_toArray, List.set_cons_zero, List.set_cons_succ])
                      refine wpAnyH_take (i := 7) (oi := _) (v := undef) rfl (by kernel_rfl) (by kernel_rfl) (by kernel_rfl) (fun _ _ _ h => h) (Or.inr ⟨by rfl, rfl⟩) (by assumption) ?_
                      (try simp only [List.getElem_toArray, List.getElem_cons_zero, List.getElem_cons_succ, Act.put, List.setIfInBounds_toArray, List.set_cons_zero, List.set_cons_succ])
                      refine wpAnyH_take (i := 8) (oi := _) (v := undef) rfl (by kernel_rfl) (by kernel_rfl) (by kernel_rfl) (fun _ _ _ h => h) (Or.inr ⟨by rfl, rfl⟩) (by assumption) ?_
                      (try simp only [List.getElem_toArray, List.getElem_cons_zero, List.getElem_cons_succ, Act.put, List.setIfInBounds_toArray, List.set_cons_zero, List.set_cons_succ])
                      refine wpAnyH_take (i := 9) (oi := _) (v := undef) rfl (by kernel_rfl) (by kernel_rfl) (by kernel_rfl) (fun _ _ _ h => h) (Or.inr ⟨by rfl, rfl⟩) (by assumption) ?_
                      (try simp only [List.getElem_toArray, List.getElem_cons_zero, List.getElem_cons_succ, Act.put, List.setIfInBounds_toArray, List.set_cons_zero, List.set_cons_succ])
                      refine wpAnyH_take (i := 10) (oi := _) (v := undef) rfl (by kernel_rfl) (by kernel_rfl) (by kernel_rfl) (fun _ _ _ h => h) (Or.inr ⟨by rfl, rfl⟩) (by assumption) ?_
                      (try simp only [List.getElem_toArray, List.getElem_cons_zero, List.getElem_cons_succ, Act.put, List.setIfInBounds_toArray, List.set_cons_zero, List.set_cons_succ])
                      refine wpAnyH_take (i := 11) (oi := _) (v := undef) rfl (by kernel_rfl) (by kernel_rfl) (by kernel_rfl) (fun _ _ _ h => h) (Or.inr ⟨by rfl, rfl⟩) (by assumption) ?_
                      (try simp only [List.getElem_toArray, List.getElem_cons_zero, List.getElem_cons_succ, Act.put, List.setIfInBounds_toArray, List.set_cons_zero, List.set_cons_succ])
                      refine wpAnyH_take (i := 12) (oi := _) (v := undef) rfl (by kernel_rfl) (by kernel_rfl) (by kernel_rfl) (fun _ _ _ h => h) (Or.inr ⟨by rfl, rfl⟩) (by assumption) ?_
                      (try simp only [List.getElem_toArray, List.getElem_cons_zero, List.getElem_cons_succ, Act.put, List.setIfInBounds_toArray, List.set_cons_zero, List.set_cons_succ])
                      refine wpAnyH_take (i := 13) (oi := _) (v := undef) rfl (by kernel_rfl) (by kernel_rfl) (by kernel_rfl) (fun _ _ _ h => h) (Or.inr ⟨by rfl, rfl⟩) (by assumption) ?_
                      (try simp only [List.getElem_toArray, List.getElem_cons_zero, List.getElem_cons_succ, Act.put, List.setIfInBounds_toArray, List.set_cons_zero, List.set_cons_succ])
                      refine wpAnyH_take (i := 14) (oi := _) (v := undef) rfl (by kernel_rfl) (by kernel_rfl) (by kernel_rfl) (fun _ _ _ h => h) (Or.inr ⟨by rfl, rfl⟩) (by assumption) ?_
                      (try simp only [List.getElem_toArray, List.getElem_cons_zero, List.getElem_cons_succ, Act.put, List.setIfInBounds_toArray, List.set_cons_zero, List.set_cons_succ])
                      refine wpAnyH_take (i := 15) (oi := _) (v := undef) rfl (by kernel_rfl) (by kernel_rfl) (by kernel_rfl) (fun _ _ _ h => h) (Or.inr ⟨by rfl, rfl⟩) (by assumption) ?_
                      (try simp only [List.getElem_toArray, List.getElem_cons_zero, List.getElem_cons_succ, Act.put, List.setIfInBounds_toArray, List.set_cons_zero, List.set_cons_succ])
                      refine wpAnyH_take (i := 16) (oi := _) (v := undef) rfl (by kernel_rfl) (by kernel_rfl) (by kernel_rfl) (fun _ _ _ h => h) (Or.inr ⟨by rfl, rfl⟩) (by assumption) ?_
                      (try simp only [List.getElem_toArray, List.getElem_cons_zero, List.getElem_cons_succ, Act.put, List.setIfInBounds_toArray, List.set_cons_zero, List.set_cons_succ])
                      refine wpAnyH_take (i := 17) (oi := _) (v := undef) rfl (by kernel_rfl) (by kernel_rfl) (by kernel_rfl) (fun _ _ _ h => h) (Or.inr ⟨by rfl, rfl⟩) (by assumption) ?_
                      (try simp only [List.getElem_toArray, List.getElem_cons_zero, List.getElem_cons_succ, Act.put, List.setIfInBounds_toArray, List.set_cons_zero, List.set_cons_succ])
                      refine wpAnyH_take (i := 18) (oi := _) (v := ?_) rfl (by kernel_rfl) (by kernel_rfl) (by kernel_rfl) (fun _ _ _ h => h) (Or.inl ⟨by rfl, ?_⟩) (by assumption) ?_
                      rotate_left
                      · (intro w hSw; (try dsimp only at hSw); go_simp) <;> with_reducible rfl
                      (try simp only [List.getElem_toArray, List.getElem_cons_zero, List.getElem_cons_succ, Act.put, List.setIfInBounds_toArray, List.set_cons_zero, List.set_cons_succ])
                      refine wpAnyH_done (by kernel_rfl) ?_ _
                      refine NoPanic.normal ?_
                      (try go_wp2_with fail)
                      go_meet
                      exact ⟨rfl, by first | exact HKR.out | exact (Keep.refl _ _).drewN _⟩
                    · obtain ⟨rfl, hmore⟩ := HLS8.out.resolve_left hsame
                      have HSM := Lib.hid hsame; clear hsame
                      have HLS := Lib.hid hmore; clear hmore
                      have HC22 : Hid (∀ W, Keep (fun _ => False) wb W → Calls Tryz.prog 22 #[v13] W (ClonePost W 9 1 rls.length (strCells rls))) := Lib.hid fun W hk => clone22 (HRD139.out.keep hk (fun _ _ h => h)) (by omega)
                      have HSA : Hid (∀ W, Keep (fun _ => False) wb W → W.cell? ⟨wr.heap.size, 0, none⟩ = some (.string line)) := Lib.hid fun W hk => by have := (HKR9.out.idle hk).t.cell 0; simpa using this
                      refine wp_region_noPanic ?_
                      refine wp_region_held_drew (S := fun W => W.cell? ⟨wr.heap.size, 0, none⟩ = some (.string line)) (by kernel_rfl) (HSA.out _ (Keep.refl (fun _ => False) wb).drew) (fun hHeld => ?_)
                      refine wpAnyH_take (i := 0) (oi := _) (v := ?_) rfl (by kernel_rfl) (by kernel_rfl) (by kernel_rfl) (fun _ _ _ h => h) (Or.inl ⟨by rfl, ?_⟩) (by assumption) ?_
                      rotate_left
                      · (intro w hSw; (try dsimp only at hSw); go_simp) <;> with_reducible rfl
                      (try simp only [List.getElem_toArray, List.getElem_cons_zero, List.getElem_cons_succ, Act.put, List.setIfInBounds_toArray, List.set_cons_zero, List.set_cons_succ])
                      refine wpAnyH_take (i := 1) (oi := _) (v := ?_) rfl (by kernel_rfl) (by kernel_rfl) (by kernel_rfl) (fun _ _ _ h => h) (Or.inl ⟨by rfl, ?_⟩) (by assumption) ?_
                      rotate_left
                      · (intro w hSw; (try dsimp only at hSw); go_simp) <;> with_reducible rfl
                      (try simp only [List.getElem_toArray, List.getElem_cons_zero, List.getElem_cons_succ, Act.put, List.setIfInBounds_toArray, List.set_cons_zero, List.set_cons_succ])
                      refine wpAnyH_ready (rs := [2]) (by kernel_rfl) (by simp) ?_
                      refine AllReadyH.cons (o := _) rfl (fun K hK => ?_) AllReadyH.nil
                      go_simp
                      have hh := eqS_any (HRD16.out.keep ((Keep.refl (fun _ => False) wb).drew) (fun _ _ h => h)) (HRD139.out.keep ((Keep.refl (fun _ => False) wb).drew) (fun _ _ h => h)) (by omega)
                      rw [show eqL ls8 rls = false from decide_eq_false HSM.out] at hh
                      refine Calls.mono hh ?_
                      clear hh
                      rintro e' w9 ⟨rfl, q9, rfl⟩
                      have HKR9 := Lib.hid (((Keep.refl (fun _ => False) wb).drew).drewN q9)
                      have HKR := HKR9
                      clear HKR9
                      (try dsimp only)
                      refine hK.out _ _ ?_ (fun hHeld => ?_)
                      · ((try dsimp only); refine HSA.out _ ?_; repeat (first | exact HKR.out | exact Keep.refl _ _ | apply Keep.drew | apply Keep.drewN | apply Keep.alloc))
                      clear hK K
                      (try simp only [List.getElem_toArray, List.getElem_cons_zero, List.getElem_cons_succ, Act.put, List.setIfInBounds_toArray, List.set_cons_zero, List.set_cons_succ])
                      refine wpAnyH_take (i := 3) (oi := _) (v := ?_) rfl (by kernel_rfl) (by kernel_rfl) (by kernel_rfl) (fun _ _ _ h => h) (Or.inl ⟨by rfl, ?_⟩) (by assumption) ?_
                      rotate_left
                      · (intro w hSw; (try dsimp only at hSw); go_simp) <;> with_reducible rfl
                      (try simp only [List.getElem_toArray, List.getElem_cons_zero, List.getElem_cons_succ, Act.put, List.setIfInBounds_toArray, List.set_cons_zero, List.set_cons_succ])
                      refine wpAnyH_take (i := 4) (oi := _) (v := ?_) rfl (by kernel_rfl) (by kernel_rfl) (by kernel_rfl) (fun _ _ _ h => h) (Or.inl ⟨by rfl, ?_⟩) (by assumption) ?_
                      rotate_left
                      · (intro w hSw; (try dsimp only at hSw); go_simp) <;> with_reducible rfl
                      (try simp only [List.getElem_toArray, List.getElem_cons_zero, List.getElem_cons_succ, Act.put, List.setIfInBounds_toArray, List.set_cons_zero, List.set_cons_succ])
                      refine wpAnyH_take (i := 5) (oi := _) (v := ?_) rfl (by kernel_rfl) (by kernel_rfl) (by kernel_rfl) (fun _ _ _ h => h) (Or.inl ⟨by rfl, ?_⟩) (by assumption) ?_
                      rotate_left
                      · (intro w hSw; (try dsimp only at hSw); go_simp) <;> with_reducible rfl
                      (try simp only [List.getElem_toArray, List.getElem_cons_zero, List.getElem_cons_succ, Act.put, List.setIfInBounds_toArray, List.set_cons_zero, List.set_cons_succ])
                      refine wpAnyH_take (i := 6) (oi := _) (v := ?_) rfl (by kernel_rfl) (by kernel_rfl) (by kernel_rfl) (fun _ _ _ h => h) (Or.inl ⟨by rfl, ?_⟩) (by assumption) ?_
                      rotate_left
                      · (intro w hSw; (try dsimp only at hSw); go_simp) <;> with_reducible rfl
                      (try simp only [List.getElem_toArray, List.getElem_cons_zero, List.getElem_cons_succ, Act.put, List.setIfInBounds_toArray, List.set_cons_zero, List.set_cons_succ])
                      refine wpAnyH_take (i := 7) (oi := _) (v := ?_) rfl (by kernel_rfl) (by kernel_rfl) (by kernel_rfl) (fun _ _ _ h => h) (Or.inl ⟨by rfl, ?_⟩) (by assumption) ?_
                      rotate_left
                      · (intro w hSw; (try dsimp only at hSw); go_simp) <;> with_reducible rfl
                      (try simp only [List.getElem_toArray, List.getElem_cons_zero, List.getElem_cons_succ, Act.put, List.setIfInBounds_toArray, List.set_cons_zero, List.set_cons_succ])
                      refine wpAnyH_take (i := 8) (oi := _) (v := ?_) rfl (by kernel_rfl) (by kernel_rfl) (by kernel_rfl) (fun _ _ _ h => h) (Or.inl ⟨by rfl, ?_⟩) (by assumption) ?_
                      rotate_left
                      · (intro w hSw; (try dsimp only at hSw); go_simp) <;> with_reducible rfl
                      (try simp only [List.getElem_toArray, List.getElem_cons_zero, List.getElem_cons_succ, Act.put, List.setIfInBounds_toArray, List.set_cons_zero, List.set_cons_succ])
                      refine wpAnyH_take (i := 9) (oi := _) (v := ?_) rfl (by kernel_rfl) (by kernel_rfl) (by kernel_rfl) (fun _ _ _ h => h) (Or.inl ⟨by rfl, ?_⟩) (by assumption) ?_
                      rotate_left
                      · (intro w hSw; (try dsimp only at hSw); go_simp) <;> with_reducible rfl
                      (try simp only [List.getElem_toArray, List.getElem_cons_zero, List.getElem_cons_succ, Act.put, List.setIfInBounds_toArray, List.set_cons_zero, List.set_cons_succ])
                      refine wpAnyH_take (i := 11) (oi := _) (v := ?_) rfl (by kernel_rfl) (by kernel_rfl) (by kernel_rfl) (fun _ _ _ h => h) (Or.inl ⟨by rfl, ?_⟩) (by assumption) ?_
                      rotate_left
                      · (intro w hSw; (try dsimp only at hSw); go_simp) <;> with_reducible rfl
                      (try simp only [List.getElem_toArray, List.getElem_cons_zero, List.getElem_cons_succ, Act.put, List.setIfInBounds_toArray, List.set_cons_zero, List.set_cons_succ])
                      refine wpAnyH_take (i := 12) (oi := _) (v := ?_) rfl (by kernel_rfl) (by kernel_rfl) (by kernel_rfl) (fun _ _ _ h => h) (Or.inl ⟨by rfl, ?_⟩) (by assumption) ?_
                      rotate_left
                      · (intro w hSw; (try dsimp only at hSw); go_simp) <;> with_reducible rfl
                      (try simp only [List.getElem_toArray, List.getElem_cons_zero, List.getElem_cons_succ, Act.put, List.setIfInBounds_toArray, List.set_cons_zero, List.set_cons_succ])
                      refine wpAnyH_ready (rs := [10, 13]) (by kernel_rfl) (by simp) ?_
                      refine AllReadyH.cons (o := _) rfl (fun K hK => ?_) (AllReadyH.cons (o := _) rfl (fun K hK => ?_) AllReadyH.nil)
                      · go_simp
                        refine Calls.mono (HC22.out _ (by repeat (first | exact HKR.out | exact Keep.refl _ _ | apply Keep.drew | apply Keep.drewN | apply Keep.alloc))) ?_
                        rintro e' Wc ⟨vc, rfl, hoc, hkc⟩
                        have HKRC := Lib.hid (Keep.trans (show Keep (fun _ => False) wb _ by repeat (first | exact HKR.out | exact Keep.refl _ _ | apply Keep.drew | apply Keep.drewN | apply Keep.alloc)) hkc (fun _ _ h => h))
                        have HKR := HKRC
                        clear HKRC
                        obtain ⟨co, cc, rfl, _⟩ := ownsRow_shape hoc
                        have HOC := Lib.hid hoc
                        have HKC := Lib.hid hkc
                        clear hoc hkc
                        (try dsimp only)
                        refine hK.out _ _ ?_ (fun hHeld => ?_)
                        · ((try dsimp only); refine HSA.out _ ?_; repeat (first | exact HKR.out | exact Keep.refl _ _ | apply Keep.drew | apply Keep.drewN | apply Keep.alloc))
                        clear hK K
                        (try simp only [List.getElem_toArray, List.getElem_cons_zero, List.getElem_cons_succ, Act.put, List.setIfInBounds_toArray, List.set_cons_zero, List.set_cons_succ])
                        refine wpAnyH_ready (rs := [13]) (by kernel_rfl) (by simp) ?_
                        refine AllReadyH.cons (o := _) rfl (fun K hK => ?_) AllReadyH.nil
                        go_simp
                        refine hK.out _ _ ?_ (fun hHeld => ?_)
                        · ((try dsimp only); refine HSA.out _ ?_; repeat (first | exact HKR.out | exact Keep.refl _ _ | apply Keep.drew | apply Keep.drewN | apply Keep.alloc))
                        clear hK K
                        (try simp only [List.getElem_toArray, List.getElem_cons_zero, List.getElem_cons_succ, Act.put, List.setIfInBounds_toArray, List.set_cons_zero, List.set_cons_succ])
                        refine wpAnyH_ready (rs := [14]) (by kernel_rfl) (by simp) ?_
                        refine AllReadyH.cons (o := _) rfl (fun K hK => ?_) AllReadyH.nil
                        rw [if_pos (by rfl)]
                        refine oper_app (base := wb.heap.size) (.tmp 119) (.tmp 122) 44 44 rfl 9 (.string ⟨#[]⟩) 1 16 Tryz.underlying44 info9 rfl (v := .slice co rls.length cc) (n := rls.length) (xs := strCells rls) (by first | exact ownsRow_base (ownsRow_keep HOC.out ((Keep.refl (fun _ => False) _).alloc _) (fun _ _ h => h)) (by simp) | exact ownsRow_base HOC.out (by simp)) rfl (m := 1) (news := [.string line]) (by first | exact (Rd.new Wc 1 1 [.string line] 9 rfl (by simp [Value.oneCell']) (by unfold maxLen; omega)).src Tryz.underlying44 | exact ((Rd.new _ 1 1 [.string line] 9 rfl (by simp [Value.oneCell']) (by unfold maxLen; omega)).drew.keep HKC.out (fun _ _ h => h)).src Tryz.underlying44 | exact ((Rd.new (wb.drewN (1 + q9)) 1 1 [.string line] 9 rfl (by simp [Value.oneCell']) (by unfold maxLen; omega)).keep HKC.out (fun _ _ h => h)).src Tryz.underlying44) rfl (by unfold maxLen; omega) (by omega) (by have := HKR.out.size; first | exact this | (simp; omega)) (fun v' w8 happ => ?_)
                        obtain ⟨ao8, cap8, rfl, _⟩ := ownsRow_shape happ.own
                        have hko : ∀ k, (Value.slice co rls.length cc).ownBlock = some k → wb.heap.size ≤ k := fun k e => by
                          have h1 := (ownsRow_lt HOC.out k e).1
                          simp at h1
                          omega
                        have HRA : Hid (Rd w8 1 (.slice ao8 (rls.length + 1) cap8) (rls ++ [line]).length (strCells (rls ++ [line]))) := Lib.hid (by
                          have h1 := ownsRow_rd happ.own (by intro u hu; rw [List.mem_append] at hu; exact hu.elim (strCells_one _ u) (fun h => by rw [List.mem_singleton.1 h]; rfl))
                          simpa [strCells] using h1)
                        have HKRC := Lib.hid (Keep.trans (show Keep (fun _ => False) wb _ by repeat (first | exact HKR.out | exact Keep.refl _ _ | apply Keep.drew | apply Keep.drewN | apply Keep.alloc)) happ.keep (fun k hk e => by have := hko k e; omega))
                        have HKR := HKRC
                        clear happ hko HKRC
                        (try dsimp only)
                        refine hK.out _ _ ?_ (fun hHeld => ?_)
                        · ((try dsimp only); refine HSA.out _ ?_; repeat (first | exact HKR.out | exact Keep.refl _ _ | apply Keep.drew | apply Keep.drewN | apply Keep.alloc))
                        clear hK K
                        (try simp only [List.getElem_toArray, List.getElem_cons_zero, List.getElem_cons_succ, Act.put, List.setIfInBounds_toArray, List.set_cons_zero, List.set_cons_succ])
                        refine wpAnyH_ready (rs := [15]) (by kernel_rfl) (by simp) ?_
                        refine AllReadyH.cons (o := _) rfl (fun K hK => ?_) AllReadyH.nil
                        go_simp
                        have hh := eqS_any (HRD16.out.keep (HKR.out) (fun _ _ h => h)) (HRA.out) (by omega)
                        rw [show eqL ls8 (rls ++ [line]) = true from decide_eq_true HLS.out] at hh
                        refine Calls.mono hh ?_
                        clear hh
                        rintro e' w9 ⟨rfl, q9, rfl⟩
                        have HKR9 := Lib.hid ((HKR.out).drewN q9)
                        have HKR := HKR9
                        clear HKR9
                        (try dsimp only)
                        refine hK.out _ _ ?_ (fun hHeld => ?_)
                        · ((try dsimp only); refine HSA.out _ ?_; repeat (first | exact HKR.out | exact Keep.refl _ _ | apply Keep.drew | apply Keep.drewN | apply Keep.alloc))
                        clear hK K
                        (try simp only [List.getElem_toArray, List.getElem_cons_zero, List.getElem_cons_succ, Act.put, List.setIfInBounds_toArray, List.set_cons_zero, List.set_cons_succ])
                        refine wpAnyH_take (i := 16) (oi := _) (v := ?_) rfl (by kernel_rfl) (by kernel_rfl) (by kernel_rfl) (fun _ _ _ h => h) (Or.inl ⟨by rfl, ?_⟩) (by assumption) ?_
                        rotate_left
                        · (intro w hSw; (try dsimp only at hSw); go_simp) <;> with_reducible rfl
                        (try simp only [List.getElem_toArray, List.getElem_cons_zero, List.getElem_cons_succ, Act.put, List.setIfInBounds_toArray, List.set_cons_zero, List.set_cons_succ])
                        refine wpAnyH_take (i := 17) (oi := _) (v := ?_) rfl (by kernel_rfl) (by kernel_rfl) (by kernel_rfl) (fun _ _ _ h => h) (Or.inl ⟨by rfl, ?_⟩) (by assumption) ?_
                        rotate_left
                        · (intro w hSw; (try dsimp only at hSw); go_simp) <;> with_reducible rfl
                        (try simp only [List.getElem_toArray, List.getElem_cons_zero, List.getElem_cons_succ, Act.put, List.setIfInBounds_toArray, List.set_cons_zero, List.set_cons_succ])
                        refine wpAnyH_take (i := 18) (oi := _) (v := ?_) rfl (by kernel_rfl) (by kernel_rfl) (by kernel_rfl) (fun _ _ _ h => h) (Or.inl ⟨by rfl, ?_⟩) (by assumption) ?_
                        rotate_left
                        · (intro w hSw; (try dsimp only at hSw); go_simp) <;> with_reducible rfl
                        (try simp only [List.getElem_toArray, List.getElem_cons_zero, List.getElem_cons_succ, Act.put, List.setIfInBounds_toArray, List.set_cons_zero, List.set_cons_succ])
                        refine wpAnyH_done (by kernel_rfl) ?_ _
                        refine NoPanic.normal ?_
                        (try go_wp2_with fail)
                        go_meet
                        exact ⟨rfl, by first | exact HKR.out | exact (Keep.refl _ _).drewN _⟩
                      · go_simp
                        refine hK.out _ _ ?_ (fun hHeld => ?_)
                        · ((try dsimp only); refine HSA.out _ ?_; repeat (first | exact HKR.out | exact Keep.refl _ _ | apply Keep.drew | apply Keep.drewN | apply Keep.alloc))
                        clear hK K
                        (try simp only [List.getElem_toArray, List.getElem_cons_zero, List.getElem_cons_succ, Act.put, List.setIfInBounds_toArray, List.set_cons_zero, List.set_cons_succ])
                        refine wpAnyH_ready (rs := [10]) (by kernel_rfl) (by simp) ?_
                        refine AllReadyH.cons (o := _) rfl (fun K hK => ?_) AllReadyH.nil
                        go_simp
                        refine Calls.mono (HC22.out _ (by repeat (first | exact HKR.out | exact Keep.refl _ _ | apply Keep.drew | apply Keep.drewN | apply Keep.alloc))) ?_
                        rintro e' Wc ⟨vc, rfl, hoc, hkc⟩
                        have HKRC := Lib.hid (Keep.trans (show Keep (fun _ => False) wb _ by repeat (first | exact HKR.out | exact Keep.refl _ _ | apply Keep.drew | apply Keep.drewN | apply Keep.alloc)) hkc (fun _ _ h => h))
                        have HKR := HKRC
                        clear HKRC
                        obtain ⟨co, cc, rfl, _⟩ := ownsRow_shape hoc
                        have HOC := Lib.hid hoc
                        have HKC := Lib.hid hkc
                        clear hoc hkc
                        (try dsimp only)
                        refine hK.out _ _ ?_ (fun hHeld => ?_)
                        · ((try dsimp only); refine HSA.out _ ?_; repeat (first | exact HKR.out | exact Keep.refl _ _ | apply Keep.drew | apply Keep.drewN | apply Keep.alloc))
                        clear hK K
                        (try simp only [List.getElem_toArray, List.getElem_cons_zero, List.getElem_cons_succ, Act.put, List.setIfInBounds_toArray, List.set_cons_zero, List.set_cons_succ])
                        refine wpAnyH_ready (rs := [14]) (by kernel_rfl) (by simp) ?_
                        refine AllReadyH.cons (o := _) rfl (fun K hK => ?_) AllReadyH.nil
                        rw [if_pos (by rfl)]
                        refine oper_app (base := wb.heap.size) (.tmp 119) (.tmp 122) 44 44 rfl 9 (.string ⟨#[]⟩) 1 16 Tryz.underlying44 info9 rfl (v := .slice co rls.length cc) (n := rls.length) (xs := strCells rls) (by first | exact ownsRow_base (ownsRow_keep HOC.out ((Keep.refl (fun _ => False) _).alloc _) (fun _ _ h => h)) (by simp) | exact ownsRow_base HOC.out (by simp)) rfl (m := 1) (news := [.string line]) (by first | exact (Rd.new Wc 1 1 [.string line] 9 rfl (by simp [Value.oneCell']) (by unfold maxLen; omega)).src Tryz.underlying44 | exact ((Rd.new _ 1 1 [.string line] 9 rfl (by simp [Value.oneCell']) (by unfold maxLen; omega)).drew.keep HKC.out (fun _ _ h => h)).src Tryz.underlying44 | exact ((Rd.new (wb.drewN (1 + q9)) 1 1 [.string line] 9 rfl (by simp [Value.oneCell']) (by unfold maxLen; omega)).keep HKC.out (fun _ _ h => h)).src Tryz.underlying44) rfl (by unfold maxLen; omega) (by omega) (by have := HKR.out.size; first | exact this | (simp; omega)) (fun v' w8 happ => ?_)
                        obtain ⟨ao8, cap8, rfl, _⟩ := ownsRow_shape happ.own
                        have hko : ∀ k, (Value.slice co rls.length cc).ownBlock = some k → wb.heap.size ≤ k := fun k e => by
                          have h1 := (ownsRow_lt HOC.out k e).1
                          simp at h1
                          omega
                        have HRA : Hid (Rd w8 1 (.slice ao8 (rls.length + 1) cap8) (rls ++ [line]).length (strCells (rls ++ [line]))) := Lib.hid (by
                          have h1 := ownsRow_rd happ.own (by intro u hu; rw [List.mem_append] at hu; exact hu.elim (strCells_one _ u) (fun h => by rw [List.mem_singleton.1 h]; rfl))
                          simpa [strCells] using h1)
                        have HKRC := Lib.hid (Keep.trans (show Keep (fun _ => False) wb _ by repeat (first | exact HKR.out | exact Keep.refl _ _ | apply Keep.drew | apply Keep.drewN | apply Keep.alloc)) happ.keep (fun k hk e => by have := hko k e; omega))
                        have HKR := HKRC
                        clear happ hko HKRC
                        (try dsimp only)
                        refine hK.out _ _ ?_ (fun hHeld => ?_)
                        · ((try dsimp only); refine HSA.out _ ?_; repeat (first | exact HKR.out | exact Keep.refl _ _ | apply Keep.drew | apply Keep.drewN | apply Keep.alloc))
                        clear hK K
                        (try simp only [List.getElem_toArray, List.getElem_cons_zero, List.getElem_cons_succ, Act.put, List.setIfInBounds_toArray, List.set_cons_zero, List.set_cons_succ])
                        refine wpAnyH_ready (rs := [15]) (by kernel_rfl) (by simp) ?_
                        refine AllReadyH.cons (o := _) rfl (fun K hK => ?_) AllReadyH.nil
                        go_simp
                        have hh := eqS_any (HRD16.out.keep (HKR.out) (fun _ _ h => h)) (HRA.out) (by omega)
                        rw [show eqL ls8 (rls ++ [line]) = true from decide_eq_true HLS.out] at hh
                        refine Calls.mono hh ?_
                        clear hh
                        rintro e' w9 ⟨rfl, q9, rfl⟩
                        have HKR9 := Lib.hid ((HKR.out).drewN q9)
                        have HKR := HKR9
                        clear HKR9
                        (try dsimp only)
                        refine hK.out _ _ ?_ (fun hHeld => ?_)
                        · ((try dsimp only); refine HSA.out _ ?_; repeat (first | exact HKR.out | exact Keep.refl _ _ | apply Keep.drew | apply Keep.drewN | apply Keep.alloc))
                        clear hK K
                        (try simp only [List.getElem_toArray, List.getElem_cons_zero, List.getElem_cons_succ, Act.put, List.setIfInBounds_toArray, List.set_cons_zero, List.set_cons_succ])
                        refine wpAnyH_take (i := 16) (oi := _) (v := ?_) rfl (by kernel_rfl) (by kernel_rfl) (by kernel_rfl) (fun _ _ _ h => h) (Or.inl ⟨by rfl, ?_⟩) (by assumption) ?_
                        rotate_left
                        · (intro w hSw; (try dsimp only at hSw); go_simp) <;> with_reducible rfl
                        (try simp only [List.getElem_toArray, List.getElem_cons_zero, List.getElem_cons_succ, Act.put, List.setIfInBounds_toArray, List.set_cons_zero, List.set_cons_succ])
                        refine wpAnyH_take (i := 17) (oi := _) (v := ?_) rfl (by kernel_rfl) (by kernel_rfl) (by kernel_rfl) (fun _ _ _ h => h) (Or.inl ⟨by rfl, ?_⟩) (by assumption) ?_
                        rotate_left
                        · (intro w hSw; (try dsimp only at hSw); go_simp) <;> with_reducible rfl
                        (try simp only [List.getElem_toArray, List.getElem_cons_zero, List.getElem_cons_succ, Act.put, List.setIfInBounds_toArray, List.set_cons_zero, List.set_cons_succ])
                        refine wpAnyH_take (i := 18) (oi := _) (v := ?_) rfl (by kernel_rfl) (by kernel_rfl) (by kernel_rfl) (fun _ _ _ h => h) (Or.inl ⟨by rfl, ?_⟩) (by assumption) ?_
                        rotate_left
                        · (intro w hSw; (try dsimp only at hSw); go_simp) <;> with_reducible rfl
                        (try simp only [List.getElem_toArray, List.getElem_cons_zero, List.getElem_cons_succ, Act.put, List.setIfInBounds_toArray, List.set_cons_zero, List.set_cons_succ])
                        refine wpAnyH_done (by kernel_rfl) ?_ _
                        refine NoPanic.normal ?_
                        (try go_wp2_with fail)
                        go_meet
                        exact ⟨rfl, by first | exact HKR.out | exact (Keep.refl _ _).drewN _⟩
                  case rest =>
                    obtain ⟨rfl, hk10⟩ := hcut
                    have HKR10 := Lib.hid (HKR9.out.idle hk10)
                    clear hk10 c0 c2 c3
                    go_wp2
                    go_roundg (l.length - (j + 1))
                    case measure => omega
                    case rel => exact ⟨j + 1, H8, D8, S8, ls8, rfl, by omega, by go_num, rfl, HHD.out, ⟨HKR10.out.at_, HGD8.out, HKR10.out.fp⟩, by omega, HKR10.out.keep⟩
      · have hje : j = l.length := by omega
        subst hje
        have hjl : ((l.length : Int) < (l.length : Int)) = False := by simp
        go_wp2_with (first
          | (go_at_call 13; refine Calls.mono (awake_any (HG.out.keep HK.out)) ?_; rintro e w3 ⟨rfl, hk3⟩; have HK3 := Lib.hid hk3; clear hk3))
        go_ret
        exact ⟨rfl, HK.out.trans HK3.out (fun _ _ h => h)⟩
end Go.Proofs.YthdkamnclbfehaaGreatDoor
