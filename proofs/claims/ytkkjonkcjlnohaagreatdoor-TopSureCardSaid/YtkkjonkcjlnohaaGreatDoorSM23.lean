/- house.state.list, text; House.State. -/
import Derived.Test.YtkkjonkcjlnohaaGreatDoorSM22
import Derived.Test.YtkkjonkcjlnohaaGreatDoorSM10
import Derived.Deep.LoopGhost
import Derived.Deep.DeepCutAuto

/- house.state.list, text; House.State. -/
namespace Go.Proofs.YtkkjonkcjlnohaaGreatDoor
set_option linter.unusedSimpArgs false
set_option linter.unusedVariables false
set_option linter.unnecessarySimpa false
open Go.RowKit

def LsRel (w : World) (l : List Lot) (gh : Nat) (s3 s13 : Value) (wx : World) : Prop :=
  ∃ k : Nat, gh = l.length - k ∧ k ≤ l.length ∧ s3 = .string (listN l k) ∧ s13 = .int .i64 k ∧ Keep (fun _ => False) w wx

set_option maxHeartbeats 2000000 in
set_option maxRecDepth 100000 in
theorem list_any {w : World} {V : StV} {S : St} {m : Nat} (hG : Glob w) (h : StAt w V S) (hI : Inv m S) : Calls Tryz.prog 46 #[.pointer (some ⟨V.b, 0, none⟩)] w (IdxPost w (.string (listF S.lots))) := by
  obtain ⟨lo, lc, hve, hlc, _⟩ := h.rl.shape
  have c1 := h.blk.cell 1
  simp [StV.cells] at c1
  rw [hve] at c1
  have hrl := h.rl
  rw [hve] at hrl
  have hl20 := hI.l
  have HRL := Lib.hid hrl
  have HI := Lib.hid hI
  have HG := Lib.hid hG
  clear h hve hrl hI hG
  go_enter Tryz.func46, Tryz.ntmps46
  go_wp2
  go_loopg [3, 13] S.lots.length (fun gh s3 s13 wx => LsRel w S.lots gh s3 s13 wx)
  case atStart => exact ⟨0, rfl, Nat.zero_le _, rfl, rfl, Keep.refl _ _⟩
  case round =>
    obtain ⟨k, rfl, hk, rfl, rfl, hkw⟩ := hrel
    have HK := Lib.hid hkw; clear hkw
    obtain ⟨acc, hacc⟩ : ∃ acc, listN S.lots k = acc := ⟨_, rfl⟩
    have hasz := listN_size HI.out.lo k hk (by omega)
    rw [hacc] at hasz
    rw [hacc]
    have HACC := Lib.hid hacc; clear hacc
    by_cases hlt : k < S.lots.length
    · have hjl : ((k : Int) < (S.lots.length : Int)) = True := by simp; omega
      have hrd := HRL.out.keep HK.out (fun _ _ h => h)
      obtain ⟨b, o, hao, hcell⟩ : ∃ b o, lo = some ⟨b, o, none⟩ ∧ ∀ i, i < 4 → wr.cell? ⟨b, o + (k * 4 + i), none⟩ = (lotCell S.lots[k])[i]? := by
        rcases hrd.2.2 with ⟨h, h'⟩ | ⟨b, o, c, h, _, _, hx⟩
        · omega
        · injection h with h1 h2 h3
          refine ⟨b, o, h1, fun i hi => ?_⟩
          have e := lotCells_get S.lots k i hlt hi
          have : ∃ u, (lotCell S.lots[k])[i]? = some u := ⟨(lotCell S.lots[k])[i]'(by simp [lotCell]; omega), List.getElem?_eq_getElem _⟩
          obtain ⟨u, hu⟩ := this
          rw [hu]
          exact hx _ u (e.trans hu)
      subst hao
      have hok := HI.out.lo S.lots[k] (by simp)
      obtain ⟨A, hA⟩ : ∃ A, S.lots[k] = A := ⟨_, rfl⟩
      have hnext : listN S.lots (k + 1) = acc ++ (bs [32] ++ lotS k A) := by
        simp only [listN, HACC.out]
        rw [show S.lots.getD k ⟨bs [], 0, 0, false⟩ = A by rw [← hA]; simp [List.getD, List.getElem?_eq_getElem hlt]]
      rw [hA] at hcell hok
      obtain ⟨sp, gr, by_, cl⟩ := A
      have c0 := hcell 0 (by omega)
      have c1 := hcell 1 (by omega)
      have c2 := hcell 2 (by omega)
      have c3 := hcell 3 (by omega)
      simp [lotCell] at c0 c1 c2 c3
      simp only [← Nat.add_assoc] at c1 c2 c3
      have HGR := Lib.hid hok.g
      obtain ⟨bay, hbay⟩ : ∃ s, bayS ⟨sp, gr, by_, cl⟩ = s := ⟨_, rfl⟩
      obtain ⟨is, his⟩ : ∃ s, isS ⟨sp, gr, by_, cl⟩ = s := ⟨_, rfl⟩
      obtain ⟨jb, hjb⟩ : ∃ s, lotS k ⟨sp, gr, by_, cl⟩ = s := ⟨_, rfl⟩
      have hjz := lotS_size hok (i := k) (by omega)
      have hby := hok.b
      simp only at hby
      rw [hjb] at hjz hnext
      have hj2 : jbs [itoaB ((k : Int) + 1), sp, itoaB gr, bay, is] (bs [58]) = jb := by rw [← hjb, ← hbay, ← his]; rfl
      have HJ := Lib.hid hj2
      have HJZ : Hid ((jbs [itoaB ((k : Int) + 1), sp, itoaB gr, bay, is] (bs [58])).size ≤ 140737488355328) := Lib.hid (by rw [hj2]; omega)
      have HNX := Lib.hid hnext
      have HBAY := Lib.hid hbay
      have HIS := Lib.hid his
      have hs1 : (9223372036854775807 < 1 + jb.size) = False := eq_false (by omega)
      have hs2 : (9223372036854775807 < acc.size + (1 + jb.size)) = False := eq_false (by omega)
      clear hcell hA hrd hok hj2 hjb hnext hbay his
      have HB0 := Lib.hid (Blk.new wr #[.string sp, .int .i64 gr, .int .i64 by_, .bool cl] 125)
      have HK0 := Lib.hid (HK.out.alloc (.cells #[.string sp, .int .i64 gr, .int .i64 by_, .bool cl] 125))
      go_upto_if 20 with fail
      clear c0 c1 c2 c3
      go_cut [6] (fun s6 wx => s6 = .string bay ∧ Blk wx wr.heap.size #[.string sp, .int .i64 gr, .int .i64 by_, .bool cl] 125 ∧ Keep (fun _ => False) w wx)
      case first =>
        have c2 := HB0.out.cell 2
        simp at c2
        by_cases hb0 : 0 ≤ by_
        · have hbt : ((0 : Int) ≤ by_) = True := eq_true hb0
          have hbs : bay = itoaB by_ := by rw [← HBAY.out]; unfold bayS; rw [if_pos (by exact hb0)]
          have HBS := Lib.hid hbs; clear hbs
          go_wp2_with (go_at_call 64; refine Calls.mono (itoa_any (HG.out.keep HK0.out) (by omega) (by omega)) ?_; rintro e w2 ⟨rfl, hk2⟩; have HK2 := Lib.hid hk2; clear hk2)
          go_meet
          exact ⟨by rw [HBS.out], HB0.out.keep HK2.out (fun h => h), HK0.out.trans HK2.out (fun _ _ h => h)⟩
        · have hbt : ((0 : Int) ≤ by_) = False := eq_false hb0
          have hbs : bay = bs [45] := by rw [← HBAY.out]; unfold bayS; rw [if_neg (by exact hb0)]
          have HBS := Lib.hid hbs; clear hbs
          go_wp2
          go_meet
          exact ⟨by rw [HBS.out]; rfl, HB0.out, HK0.out⟩
      case rest =>
        obtain ⟨rfl, hb1, hk1⟩ := hcut
        have HB1 := Lib.hid hb1
        have HK1 := Lib.hid hk1
        clear hb1 hk1
        have c0 := HB1.out.cell 0
        have c1 := HB1.out.cell 1
        have c3 := HB1.out.cell 3
        simp at c0 c1 c3
        obtain ⟨wb, hwb⟩ : ∃ wb, wb = wc := ⟨_, rfl⟩
        go_upto_if 25 with fail
        go_cut [7] (fun s7 wx => s7 = .string is ∧ wb = wx)
        case first =>
          cases hcl : cl with
          | true =>
            subst hcl
            have hbs : is = bs [99, 108, 111, 115, 101, 100] := by rw [← HIS.out]; rfl
            have HBS := Lib.hid hbs; clear hbs
            go_wp2
            go_meet
            exact ⟨by rw [HBS.out]; rfl, hwb⟩
          | false =>
            subst hcl
            have hbs : is = bs [111, 112, 101, 110] := by rw [← HIS.out]; rfl
            have HBS := Lib.hid hbs; clear hbs
            go_wp2
            go_meet
            exact ⟨by rw [HBS.out]; rfl, hwb⟩
        case rest =>
          subst hwb
          obtain ⟨rfl, rfl⟩ := hcut
          have HGB := Lib.hid (HG.out.keep HK1.out)
          have HSA : Hid (∀ W, Keep (fun _ => False) wb W → (W.cell? ⟨wr.heap.size, 0, none⟩ = some (.string sp) ∧ W.cell? ⟨wr.heap.size, 1, none⟩ = some (.int .i64 gr))) := Lib.hid fun W hk => by
            have h1 := (HB1.out.keep hk (fun h => h)).cell 0
            have h2 := (HB1.out.keep hk (fun h => h)).cell 1
            simp at h1 h2
            exact ⟨h1, h2⟩
          clear c3
          have hwk : IntKind.i64.wrap ((k : Int) + 1) = (k : Int) + 1 := IntWalk.i64_in _ (by omega)
          go_upto_region 10 with fail
          refine wp_region_noPanic ?_
          refine wp_region_held_drew (S := fun W => W.cell? ⟨wr.heap.size, 0, none⟩ = some (.string sp) ∧ W.cell? ⟨wr.heap.size, 1, none⟩ = some (.int .i64 gr)) (by kernel_rfl) (HSA.out _ (Keep.refl (fun _ => False) wb).drew) (fun hHeld => ?_)
          refine wpAnyH_take (i := 0) (oi := _) (v := ?_) rfl (by kernel_rfl) (by kernel_rfl) (by kernel_rfl) (fun _ _ _ h => h) (Or.inl ⟨by rfl, ?_⟩) (by assumption) ?_
          rotate_left
          · (intro w hSw; (try dsimp only at hSw); go_simp) <;> with_reducible rfl
          (try simp only [List.getElem_toArray, List.getElem_cons_zero, List.getElem_cons_succ, Act.put, List.setIfInBounds_toArray, List.set_cons_zero, List.set_cons_succ])
          refine wpAnyH_take (i := 1) (oi := _) (v := ?_) rfl (by kernel_rfl) (by kernel_rfl) (by kernel_rfl) (fun _ _ _ h => h) (Or.inl ⟨by rfl, ?_⟩) (by assumption) ?_
          rotate_left
          · (intro w hSw; (try dsimp only at hSw); go_simp) <;> with_reducible rfl
          (try simp only [List.getElem_toArray, List.getElem_cons_zero, List.getElem_cons_succ, Act.put, List.setIfInBounds_toArray, List.set_cons_zero, List.set_cons_succ])
          refine wpAnyH_take (i := 2) (oi := _) (v := ?_) rfl (by kernel_rfl) (by kernel_rfl) (by kernel_rfl) (fun _ _ _ h => h) (Or.inl ⟨by rfl, ?_⟩) (by assumption) ?_
          rotate_left
          · (intro w hSw; (try dsimp only at hSw); go_simp) <;> with_reducible rfl
          (try simp only [List.getElem_toArray, List.getElem_cons_zero, List.getElem_cons_succ, Act.put, List.setIfInBounds_toArray, List.set_cons_zero, List.set_cons_succ])
          refine wpAnyH_take (i := 4) (oi := _) (v := ?_) rfl (by kernel_rfl) (by kernel_rfl) (by kernel_rfl) (fun _ _ _ h => h) (Or.inl ⟨by rfl, ?_⟩) (by assumption) ?_
          rotate_left
          · (intro w hSw; (try dsimp only at hSw); go_simp) <;> with_reducible rfl
          (try simp only [List.getElem_toArray, List.getElem_cons_zero, List.getElem_cons_succ, Act.put, List.setIfInBounds_toArray, List.set_cons_zero, List.set_cons_succ])
          refine wpAnyH_take (i := 5) (oi := _) (v := ?_) rfl (by kernel_rfl) (by kernel_rfl) (by kernel_rfl) (fun _ _ _ h => h) (Or.inl ⟨by rfl, ?_⟩) (by assumption) ?_
          rotate_left
          · (intro w hSw; (try dsimp only at hSw); go_simp) <;> with_reducible rfl
          (try simp only [List.getElem_toArray, List.getElem_cons_zero, List.getElem_cons_succ, Act.put, List.setIfInBounds_toArray, List.set_cons_zero, List.set_cons_succ])
          refine wpAnyH_take (i := 6) (oi := _) (v := ?_) rfl (by kernel_rfl) (by kernel_rfl) (by kernel_rfl) (fun _ _ _ h => h) (Or.inl ⟨by rfl, ?_⟩) (by assumption) ?_
          rotate_left
          · (intro w hSw; (try dsimp only at hSw); go_simp) <;> with_reducible rfl
          (try simp only [List.getElem_toArray, List.getElem_cons_zero, List.getElem_cons_succ, Act.put, List.setIfInBounds_toArray, List.set_cons_zero, List.set_cons_succ])
          refine wpAnyH_take (i := 7) (oi := _) (v := ?_) rfl (by kernel_rfl) (by kernel_rfl) (by kernel_rfl) (fun _ _ _ h => h) (Or.inl ⟨by rfl, ?_⟩) (by assumption) ?_
          rotate_left
          · (intro w hSw; (try dsimp only at hSw); go_simp) <;> with_reducible rfl
          (try simp only [List.getElem_toArray, List.getElem_cons_zero, List.getElem_cons_succ, Act.put, List.setIfInBounds_toArray, List.set_cons_zero, List.set_cons_succ])
          refine wpAnyH_take (i := 9) (oi := _) (v := ?_) rfl (by kernel_rfl) (by kernel_rfl) (by kernel_rfl) (fun _ _ _ h => h) (Or.inl ⟨by rfl, ?_⟩) (by assumption) ?_
          rotate_left
          · (intro w hSw; (try dsimp only at hSw); go_simp) <;> with_reducible rfl
          (try simp only [List.getElem_toArray, List.getElem_cons_zero, List.getElem_cons_succ, Act.put, List.setIfInBounds_toArray, List.set_cons_zero, List.set_cons_succ])
          refine wpAnyH_take (i := 10) (oi := _) (v := ?_) rfl (by kernel_rfl) (by kernel_rfl) (by kernel_rfl) (fun _ _ _ h => h) (Or.inl ⟨by rfl, ?_⟩) (by assumption) ?_
          rotate_left
          · (intro w hSw; (try dsimp only at hSw); go_simp) <;> with_reducible rfl
          (try simp only [List.getElem_toArray, List.getElem_cons_zero, List.getElem_cons_succ, Act.put, List.setIfInBounds_toArray, List.set_cons_zero, List.set_cons_succ])
          refine wpAnyH_ready (rs := [3]) (by kernel_rfl) (by simp) ?_
          refine AllReadyH.cons (o := _) rfl (fun K hK => ?_) AllReadyH.nil
          go_simp
          refine Calls.mono (itoa_any (HGB.out.keep (show Keep (fun _ => False) wb _ by repeat (first | exact HKR.out | exact Keep.refl _ _ | apply Keep.drew | apply Keep.drewN | apply Keep.alloc))) (by omega) (by omega)) ?_
          rintro e' Wc ⟨rfl, hkc⟩
          have HKRC := Lib.hid (Keep.trans (show Keep (fun _ => False) wb _ by repeat (first | exact HKR.out | exact Keep.refl _ _ | apply Keep.drew | apply Keep.drewN | apply Keep.alloc)) hkc (fun _ _ h => h))
          have HKR := HKRC
          clear HKRC hkc
          (try dsimp only)
          refine hK.out _ _ ?_ (fun hHeld => ?_)
          · ((try dsimp only); refine HSA.out _ ?_; repeat (first | exact HKR.out | exact Keep.refl _ _ | apply Keep.drew | apply Keep.drewN | apply Keep.alloc))
          clear hK K
          (try simp only [List.getElem_toArray, List.getElem_cons_zero, List.getElem_cons_succ, Act.put, List.setIfInBounds_toArray, List.set_cons_zero, List.set_cons_succ])
          refine wpAnyH_ready (rs := [8]) (by kernel_rfl) (by simp) ?_
          refine AllReadyH.cons (o := _) rfl (fun K hK => ?_) AllReadyH.nil
          go_simp
          refine Calls.mono (itoa_any (HGB.out.keep (show Keep (fun _ => False) wb _ by repeat (first | exact HKR.out | exact Keep.refl _ _ | apply Keep.drew | apply Keep.drewN | apply Keep.alloc))) HGR.out.1 HGR.out.2) ?_
          rintro e' Wc ⟨rfl, hkc⟩
          have HKRC := Lib.hid (Keep.trans (show Keep (fun _ => False) wb _ by repeat (first | exact HKR.out | exact Keep.refl _ _ | apply Keep.drew | apply Keep.drewN | apply Keep.alloc)) hkc (fun _ _ h => h))
          have HKR := HKRC
          clear HKRC hkc
          (try dsimp only)
          refine hK.out _ _ ?_ (fun hHeld => ?_)
          · ((try dsimp only); refine HSA.out _ ?_; repeat (first | exact HKR.out | exact Keep.refl _ _ | apply Keep.drew | apply Keep.drewN | apply Keep.alloc))
          clear hK K
          (try simp only [List.getElem_toArray, List.getElem_cons_zero, List.getElem_cons_succ, Act.put, List.setIfInBounds_toArray, List.set_cons_zero, List.set_cons_succ])
          refine wpAnyH_ready (rs := [11]) (by kernel_rfl) (by simp) ?_
          refine AllReadyH.cons (o := _) rfl (fun K hK => ?_) AllReadyH.nil
          go_simp
          refine hK.out _ _ ?_ (fun hHeld => ?_)
          · ((try dsimp only); refine HSA.out _ ?_; repeat (first | exact HKR.out | exact Keep.refl _ _ | apply Keep.drew | apply Keep.drewN | apply Keep.alloc))
          clear hK K
          (try simp only [List.getElem_toArray, List.getElem_cons_zero, List.getElem_cons_succ, Act.put, List.setIfInBounds_toArray, List.set_cons_zero, List.set_cons_succ])
          refine wpAnyH_ready (rs := [12]) (by kernel_rfl) (by simp) ?_
          refine AllReadyH.cons (o := _) rfl (fun K hK => ?_) AllReadyH.nil
          go_simp
          refine Calls.mono (join_row (xs := [itoaB ((k : Int) + 1), sp, itoaB gr, bay, is]) (ownsRow_one (base := 0) (Blk.new _ _ 9) (Nat.zero_le _) rfl (by unfold maxLen; omega)) (by simp) HJZ.out) ?_
          rintro e' Wj ⟨rfl, hkc⟩
          have HKRC := Lib.hid (Keep.trans (show Keep (fun _ => False) wb _ by repeat (first | exact HKR.out | exact Keep.refl _ _ | apply Keep.drew | apply Keep.drewN | apply Keep.alloc)) hkc (fun _ _ h => h))
          have HKR := HKRC
          clear HKRC hkc
          rw [show jbs [itoaB ((k : Int) + 1), sp, itoaB gr, bay, is] ⟨#[58]⟩ = jb from HJ.out]
          (try dsimp only)
          refine hK.out _ _ ?_ (fun hHeld => ?_)
          · ((try dsimp only); refine HSA.out _ ?_; repeat (first | exact HKR.out | exact Keep.refl _ _ | apply Keep.drew | apply Keep.drewN | apply Keep.alloc))
          clear hK K
          (try simp only [List.getElem_toArray, List.getElem_cons_zero, List.getElem_cons_succ, Act.put, List.setIfInBounds_toArray, List.set_cons_zero, List.set_cons_succ])
          refine wpAnyH_take (i := 13) (oi := _) (v := ?_) rfl (by kernel_rfl) (by kernel_rfl) (by kernel_rfl) (fun _ _ _ h => h) (Or.inl ⟨by rfl, ?_⟩) (by assumption) ?_
          rotate_left
          · (intro w hSw; (try dsimp only at hSw); go_simp) <;> with_reducible rfl
          (try simp only [List.getElem_toArray, List.getElem_cons_zero, List.getElem_cons_succ, Act.put, List.setIfInBounds_toArray, List.set_cons_zero, List.set_cons_succ])
          refine wpAnyH_take (i := 14) (oi := _) (v := ?_) rfl (by kernel_rfl) (by kernel_rfl) (by kernel_rfl) (fun _ _ _ h => h) (Or.inl ⟨by rfl, ?_⟩) (by assumption) ?_
          rotate_left
          · (intro w hSw; (try dsimp only at hSw); go_simp) <;> with_reducible rfl
          (try simp only [List.getElem_toArray, List.getElem_cons_zero, List.getElem_cons_succ, Act.put, List.setIfInBounds_toArray, List.set_cons_zero, List.set_cons_succ])
          refine wpAnyH_ready (rs := [15]) (by kernel_rfl) (by simp) ?_
          refine AllReadyH.cons (o := _) rfl (fun K hK => ?_) AllReadyH.nil
          go_simp
          refine hK.out _ _ ?_ (fun hHeld => ?_)
          · ((try dsimp only); refine HSA.out _ ?_; repeat (first | exact HKR.out | exact Keep.refl _ _ | apply Keep.drew | apply Keep.drewN | apply Keep.alloc))
          clear hK K
          (try simp only [List.getElem_toArray, List.getElem_cons_zero, List.getElem_cons_succ, Act.put, List.setIfInBounds_toArray, List.set_cons_zero, List.set_cons_succ])
          refine wpAnyH_done (by kernel_rfl) ?_ _
          refine NoPanic.normal ?_
          go_wp2
          go_roundg (S.lots.length - (k + 1))
          case measure => omega
          case rel => exact ⟨k + 1, rfl, by omega, by rw [HNX.out]; rfl, by go_num, HK1.out.trans HKR.out (fun _ _ h => h)⟩
    · have hje : k = S.lots.length := by omega
      subst hje
      have hjl : ((S.lots.length : Int) < (S.lots.length : Int)) = False := by simp
      go_wp2
      go_ret
      exact ⟨by rw [← HACC.out]; rfl, HK.out⟩

set_option maxHeartbeats 2000000 in
set_option maxRecDepth 100000 in
theorem text_any {w : World} {V : StV} {S : St} {m : Nat} (hG : Glob w) (h : StAt w V S) (hI : Inv m S) (hm : m ≤ 100000000) : Calls Tryz.prog 43 #[.pointer (some ⟨V.b, 0, none⟩)] w (IdxPost w (.string (textF S))) := by
  obtain ⟨no, nc, hve, hnc, _⟩ := h.rn.shape
  have HST := Lib.hid h
  have HSA : Hid (∀ W, Keep (fun _ => False) w W → W.cell? ⟨V.b, 4, none⟩ = some (.slice no S.notes.length nc)) := Lib.hid fun W hk => by
    have := (HST.out.keep hk (fun _ _ h => h)).blk.cell 4
    simp [StV.cells] at this
    rw [hve] at this
    exact this
  have hrn := h.rn
  rw [hve] at hrn
  have HRN := Lib.hid hrn
  have hnl := hI.n
  have HI := Lib.hid hI
  have HGB := Lib.hid hG
  obtain ⟨lf, hlf⟩ : ∃ lf, listF S.lots = lf := ⟨_, rfl⟩
  have HLF := Lib.hid hlf
  obtain ⟨jb, hjb⟩ : ∃ jb, jbs (lf :: S.notes) (bs [10]) = jb := ⟨_, rfl⟩
  have hjz := textF_size hI hm
  rw [hlf, hjb] at hjz
  have HJ := Lib.hid hjb
  have HJZ : Hid ((jbs (lf :: S.notes) (bs [10])).size ≤ 140737488355328) := Lib.hid (by rw [hjb]; omega)
  have hs1 : (9223372036854775807 < jb.size + 1) = False := eq_false (by omega)
  have HF := Lib.hid (show textF S = jb ++ bs [10] by unfold textF; rw [hlf, hjb])
  clear h hve hrn hI hG hlf hjb
  obtain ⟨wb, hwb⟩ : ∃ wb, w = wb := ⟨_, rfl⟩
  subst hwb
  rename World => wb
  go_enter Tryz.func43, Tryz.ntmps43
  go_wp2
  refine wp_region_noPanic ?_
  refine wp_region_held_drew (S := fun W => W.cell? ⟨V.b, 4, none⟩ = some (.slice no S.notes.length nc)) (by kernel_rfl) (HSA.out _ (Keep.refl (fun _ => False) wb).drew) (fun hHeld => ?_)
  refine wpAnyH_take (i := 0) (oi := _) (v := ?_) rfl (by kernel_rfl) (by kernel_rfl) (by kernel_rfl) (fun _ _ _ h => h) (Or.inl ⟨by rfl, ?_⟩) (by assumption) ?_
  rotate_left
  · (intro w hSw; (try dsimp only at hSw); go_simp) <;> with_reducible rfl
  (try simp only [List.getElem_toArray, List.getElem_cons_zero, List.getElem_cons_succ, Act.put, List.setIfInBounds_toArray, List.set_cons_zero, List.set_cons_succ])
  refine wpAnyH_take (i := 3) (oi := _) (v := ?_) rfl (by kernel_rfl) (by kernel_rfl) (by kernel_rfl) (fun _ _ _ h => h) (Or.inl ⟨by rfl, ?_⟩) (by assumption) ?_
  rotate_left
  · (intro w hSw; (try dsimp only at hSw); go_simp) <;> with_reducible rfl
  (try simp only [List.getElem_toArray, List.getElem_cons_zero, List.getElem_cons_succ, Act.put, List.setIfInBounds_toArray, List.set_cons_zero, List.set_cons_succ])
  refine wpAnyH_take (i := 4) (oi := _) (v := ?_) rfl (by kernel_rfl) (by kernel_rfl) (by kernel_rfl) (fun _ _ _ h => h) (Or.inl ⟨by rfl, ?_⟩) (by assumption) ?_
  rotate_left
  · (intro w hSw; (try dsimp only at hSw); go_simp) <;> with_reducible rfl
  (try simp only [List.getElem_toArray, List.getElem_cons_zero, List.getElem_cons_succ, Act.put, List.setIfInBounds_toArray, List.set_cons_zero, List.set_cons_succ])
  refine wpAnyH_take (i := 5) (oi := _) (v := ?_) rfl (by kernel_rfl) (by kernel_rfl) (by kernel_rfl) (fun _ _ _ h => h) (Or.inl ⟨by rfl, ?_⟩) (by assumption) ?_
  rotate_left
  · (intro w hSw; (try dsimp only at hSw); go_simp) <;> with_reducible rfl
  (try simp only [List.getElem_toArray, List.getElem_cons_zero, List.getElem_cons_succ, Act.put, List.setIfInBounds_toArray, List.set_cons_zero, List.set_cons_succ])
  refine wpAnyH_take (i := 6) (oi := _) (v := ?_) rfl (by kernel_rfl) (by kernel_rfl) (by kernel_rfl) (fun _ _ _ h => h) (Or.inl ⟨by rfl, ?_⟩) (by assumption) ?_
  rotate_left
  · (intro w hSw; (try dsimp only at hSw); go_simp) <;> with_reducible rfl
  (try simp only [List.getElem_toArray, List.getElem_cons_zero, List.getElem_cons_succ, Act.put, List.setIfInBounds_toArray, List.set_cons_zero, List.set_cons_succ])
  refine wpAnyH_ready (rs := [1]) (by kernel_rfl) (by simp) ?_
  refine AllReadyH.cons (o := _) rfl (fun K hK => ?_) AllReadyH.nil
  go_simp
  refine Calls.mono (list_any (HGB.out.keep (show Keep (fun _ => False) wb _ by repeat (first | exact HKR.out | exact Keep.refl _ _ | apply Keep.drew | apply Keep.drewN | apply Keep.alloc))) (HST.out.keep (show Keep (fun _ => False) wb _ by repeat (first | exact HKR.out | exact Keep.refl _ _ | apply Keep.drew | apply Keep.drewN | apply Keep.alloc)) (fun _ _ h => h)) HI.out) ?_
  rintro e' Wc ⟨rfl, hkc⟩
  have HKRC := Lib.hid (Keep.trans (show Keep (fun _ => False) wb _ by repeat (first | exact HKR.out | exact Keep.refl _ _ | apply Keep.drew | apply Keep.drewN | apply Keep.alloc)) hkc (fun _ _ h => h))
  have HKR := HKRC
  clear HKRC hkc
  rw [HLF.out]
  (try dsimp only)
  refine hK.out _ _ ?_ (fun hHeld => ?_)
  · ((try dsimp only); refine HSA.out _ ?_; repeat (first | exact HKR.out | exact Keep.refl _ _ | apply Keep.drew | apply Keep.drewN | apply Keep.alloc))
  clear hK K
  (try simp only [List.getElem_toArray, List.getElem_cons_zero, List.getElem_cons_succ, Act.put, List.setIfInBounds_toArray, List.set_cons_zero, List.set_cons_succ])
  refine wpAnyH_ready (rs := [2]) (by kernel_rfl) (by simp) ?_
  refine AllReadyH.cons (o := _) rfl (fun K hK => ?_) AllReadyH.nil
  go_simp
  refine hK.out _ _ ?_ (fun hHeld => ?_)
  · ((try dsimp only); refine HSA.out _ ?_; repeat (first | exact HKR.out | exact Keep.refl _ _ | apply Keep.drew | apply Keep.drewN | apply Keep.alloc))
  clear hK K
  (try simp only [List.getElem_toArray, List.getElem_cons_zero, List.getElem_cons_succ, Act.put, List.setIfInBounds_toArray, List.set_cons_zero, List.set_cons_succ])
  refine wpAnyH_ready (rs := [7]) (by kernel_rfl) (by simp) ?_
  refine AllReadyH.cons (o := _) rfl (fun K hK => ?_) AllReadyH.nil
  rw [if_pos (by rfl)]
  refine oper_app (base := wb.heap.size) (.tmp 5) (.tmp 9) 24 24 rfl 9 (.string ⟨#[]⟩) 1 16 Tryz.underlying24 info9 rfl (n := 1) (xs := strCells [lf]) (ownsRow_one (Blk.new Wc #[.string lf] 9) HKR.out.size rfl (by unfold maxLen; omega)) rfl (m := S.notes.length) (news := strCells S.notes) ((HRN.out.keep (HKR.out.alloc _) (fun _ _ h => h)).src Tryz.underlying24) rfl (by unfold maxLen; omega) (by omega) (by have := HKR.out.size; first | exact this | (simp; omega)) (fun v' w8 happ => ?_)
  have HOA : Hid (w8.ownsRow wb.heap.size 9 1 v' (1 + S.notes.length) (strCells (lf :: S.notes))) := Lib.hid happ.own
  have HKRC := Lib.hid (Keep.trans (show Keep (fun _ => False) wb _ by repeat (first | exact HKR.out | exact Keep.refl _ _ | apply Keep.drew | apply Keep.drewN | apply Keep.alloc)) happ.keep (fun k hk e => by have e2 : Wc.heap.size = k := Option.some.inj e; have := HKR.out.size; omega))
  have HKR := HKRC
  clear HKRC happ
  (try dsimp only)
  refine hK.out _ _ ?_ (fun hHeld => ?_)
  · ((try dsimp only); refine HSA.out _ ?_; repeat (first | exact HKR.out | exact Keep.refl _ _ | apply Keep.drew | apply Keep.drewN | apply Keep.alloc))
  clear hK K
  (try simp only [List.getElem_toArray, List.getElem_cons_zero, List.getElem_cons_succ, Act.put, List.setIfInBounds_toArray, List.set_cons_zero, List.set_cons_succ])
  refine wpAnyH_ready (rs := [8]) (by kernel_rfl) (by simp) ?_
  refine AllReadyH.cons (o := _) rfl (fun K hK => ?_) AllReadyH.nil
  go_simp
  refine Calls.mono (join_row HOA.out (by simp; omega) HJZ.out) ?_
  rintro e' Wj ⟨rfl, hkc⟩
  have HKRC := Lib.hid (Keep.trans (show Keep (fun _ => False) wb _ by repeat (first | exact HKR.out | exact Keep.refl _ _ | apply Keep.drew | apply Keep.drewN | apply Keep.alloc)) hkc (fun _ _ h => h))
  have HKR := HKRC
  clear HKRC hkc
  rw [show jbs (lf :: S.notes) ⟨#[10]⟩ = jb from HJ.out]
  (try dsimp only)
  refine hK.out _ _ ?_ (fun hHeld => ?_)
  · ((try dsimp only); refine HSA.out _ ?_; repeat (first | exact HKR.out | exact Keep.refl _ _ | apply Keep.drew | apply Keep.drewN | apply Keep.alloc))
  clear hK K
  (try simp only [List.getElem_toArray, List.getElem_cons_zero, List.getElem_cons_succ, Act.put, List.setIfInBounds_toArray, List.set_cons_zero, List.set_cons_succ])
  refine wpAnyH_take (i := 9) (oi := _) (v := ?_) rfl (by kernel_rfl) (by kernel_rfl) (by kernel_rfl) (fun _ _ _ h => h) (Or.inl ⟨by rfl, ?_⟩) (by assumption) ?_
  rotate_left
  · (intro w hSw; (try dsimp only at hSw); go_simp) <;> with_reducible rfl
  (try simp only [List.getElem_toArray, List.getElem_cons_zero, List.getElem_cons_succ, Act.put, List.setIfInBounds_toArray, List.set_cons_zero, List.set_cons_succ])
  refine wpAnyH_ready (rs := [10]) (by kernel_rfl) (by simp) ?_
  refine AllReadyH.cons (o := _) rfl (fun K hK => ?_) AllReadyH.nil
  go_simp
  refine hK.out _ _ ?_ (fun hHeld => ?_)
  · ((try dsimp only); refine HSA.out _ ?_; repeat (first | exact HKR.out | exact Keep.refl _ _ | apply Keep.drew | apply Keep.drewN | apply Keep.alloc))
  clear hK K
  (try simp only [List.getElem_toArray, List.getElem_cons_zero, List.getElem_cons_succ, Act.put, List.setIfInBounds_toArray, List.set_cons_zero, List.set_cons_succ])
  refine wpAnyH_done (by kernel_rfl) ?_ _
  refine NoPanic.normal ?_
  go_wp2
  go_ret
  exact ⟨by rw [HF.out]; rfl, HKR.out⟩

theorem state_any {base : Nat} {w : World} {H : HV} {D : Dsk} {S : St} {ls : List ByteArray} {lost : Bool} {m : Nat} (hG : Glob w) (h : HouseAt base w H D S ls lost) (hI : Inv m S) (hm : m ≤ 100000000) :
    Calls Tryz.prog 25 #[.pointer (some ⟨H.h, 0, none⟩)] w (IdxPost w (.string (textF S))) := by
  have c1 := h.blk.cell 1
  simp at c1
  have HH := Lib.hid h
  have HT := Lib.hid (text_any hG h.st hI hm)
  clear h hI hG
  go_enter Tryz.func25, Tryz.ntmps25
  go_wp2_with (first
    | (go_at_call 21; refine (hnone_any HH.out).mono ?_; rintro e w' ⟨rfl, rfl⟩)
    | (go_at_call 43; refine Calls.mono HT.out ?_; rintro e w' ⟨rfl, hk⟩; have HK := Lib.hid hk; clear hk))
  go_ret
  exact ⟨rfl, HK.out⟩
end Go.Proofs.YtkkjonkcjlnohaaGreatDoor

/- House.Ask at the question for all lots. -/
namespace Go.Proofs.YtkkjonkcjlnohaaGreatDoor
set_option linter.unusedSimpArgs false
set_option linter.unusedVariables false
set_option linter.unnecessarySimpa false
open Go.RowKit

def lotsB : ByteArray := ⟨#[108, 111, 116, 115]⟩
theorem lotsB_line : isLineB lotsB = true := by kernel_rfl
theorem lotsB_is : (lotsB.toList == [108, 111, 116, 115]) = true := by kernel_rfl
set_option maxHeartbeats 1000000 in
set_option maxRecDepth 100000 in
theorem reply_lots {w : World} {V : StV} {S : St} {m : Nat} (hG : Glob w) (h : StAt w V S) (hI : Inv m S) : Calls Tryz.prog 27 #[.pointer (some ⟨V.b, 0, none⟩), .string lotsB] w (IdxPost w (.tuple #[.string (listF S.lots), .int .i64 0])) := by
  obtain ⟨s, hs⟩ : ∃ s, lotsB = s := ⟨_, rfl⟩
  have hl := lotsB_line
  have hi := lotsB_is
  have hz : s.size = 4 := by rw [← hs]; rfl
  rw [hs] at hl hi ⊢
  clear hs
  have HL := Lib.hid hl; have HZ := Lib.hid hz; have HG := Lib.hid hG; have H := Lib.hid h; have HI := Lib.hid hI
  clear hl hz hG h hI
  go_enter Tryz.func27, Tryz.ntmps27
  go_wp2_with (first
    | (go_at_call 44; refine (isLine_any HG.out (by rw [HZ.out]; omega)).mono ?_; rintro e w1 ⟨he, hk1⟩; rw [HL.out] at he; subst he; have HK1 := Lib.hid hk1; clear hk1)
    | (go_at_call 45; obtain ⟨mx, hm⟩ := (HG.out.keep HK1.out).maxlen; refine (Tryz.strings_Cut s ⟨#[32]⟩ mx w1 (by rw [HZ.out]; omega) hm).mono ?_; clear hm; rintro e w2 ⟨rfl, n2, h2⟩; have HK2 := Lib.hid (HK1.out.trans (h2 ▸ (Keep.refl _ w1).drewN n2) (fun _ _ h => h)); clear h2)
    | (go_at_call 46; refine (list_any (HG.out.keep HK2.out) (H.out.keep HK2.out (fun _ _ h => h)) HI.out).mono ?_; rintro e w3 ⟨rfl, hk3⟩; have HK3 := Lib.hid (HK2.out.trans hk3 (fun _ _ h => h)); clear hk3))
  go_ret2
  exact ⟨rfl, HK3.out⟩
set_option maxHeartbeats 1000000 in
set_option maxRecDepth 100000 in
theorem ask_lots {base : Nat} {w : World} {H : HV} {D : Dsk} {S : St} {ls : List ByteArray} {lost : Bool} {m : Nat} (hG : Glob w) (h : HouseAt base w H D S ls lost) (hI : Inv m S) :
    Calls Tryz.prog 12 #[.pointer (some ⟨H.h, 0, none⟩), .string lotsB] w (IdxPost w (.tuple #[.string (listF S.lots), .int .i64 0])) := by
  have c1 := h.blk.cell 1
  simp at c1
  have HN := Lib.hid (hnone_any h)
  have HR := Lib.hid (reply_lots hG h.st hI)
  clear hG h hI
  go_enter Tryz.func12, Tryz.ntmps12
  go_wp2_with (first
    | (go_at_call 21; refine HN.out.mono ?_; rintro e w' ⟨rfl, rfl⟩)
    | (go_at_call 27; refine HR.out.mono ?_; rintro e w3 ⟨rfl, hk3⟩; have HK3 := Lib.hid hk3; clear hk3))
  go_ret2
  exact ⟨rfl, HK3.out⟩
end Go.Proofs.YtkkjonkcjlnohaaGreatDoor

/- The law's own opened, and takes: a new house takes a lot. -/
namespace Go.Proofs.YtkkjonkcjlnohaaGreatDoor
set_option linter.unusedSimpArgs false
set_option linter.unusedVariables false
set_option linter.unnecessarySimpa false
open Go.RowKit

theorem newDisk_ok (w : World) : Calls Tryz.prog 18 #[.int .i64 200000] w fun e w' => e = .returned (.tuple #[.pointer (some ⟨w.heap.size, 0, none⟩), .int .i64 0]) ∧ Keep (fun _ => False) w w' ∧ DiskAt w.heap.size w' w.heap.size (newD 200000) (.slice none 0 0) := by
  refine (newDisk_any (base := w.heap.size) (w := w) 200000 (Nat.le_refl _)).mono ?_
  rintro e w' ⟨he, hk, hd⟩
  refine ⟨?_, hk, (hd (by decide) (by decide)).2⟩
  rw [he]
  rfl
theorem take10 {w : World} {v : Value} {g : List Int} (hv : Rd w 1 v g.length (icells g)) : ∃ ao cap, v = .slice ao g.length cap ∧ g.length ≤ cap ∧ Rd w 1 (.slice ao (g.take 10).length cap) (g.take 10).length (icells (g.take 10)) := by
  obtain ⟨ao, cap, hve, hlc, _⟩ := hv.shape
  subst hve
  have hr := hv.takeN (g.take 10).length (by rw [List.length_take]; omega)
  have ht : (icells g).take (g.take 10).length = icells (g.take 10) := by
    rw [List.length_take]
    by_cases h : g.length ≤ 10
    · rw [List.take_of_length_le h, List.take_of_length_le (by rw [icells_length]; omega)]
    · rw [show min 10 g.length = 10 by omega]
      simp [icells, List.map_take]
  rw [ht] at hr
  exact ⟨ao, cap, rfl, hlc, hr⟩
set_option maxHeartbeats 2000000 in
set_option maxRecDepth 100000 in
theorem opened3_any {w : World} {gv : Value} {g : List Int} (hG : Glob w) (hg : Rd w 1 gv g.length (icells g)) (hgl : g.length ≤ 9223372036854775807) : Calls Tryz.prog 4 #[gv] w (OpenedPost2 w (g.take 10)) := by
  have h12 := newDisk_ok w
  obtain ⟨ao, cap, hve, hlc, hr⟩ := take10 hg
  have hm : (min (g.length : Int) 10).toNat = (g.take 10).length := by rw [List.length_take]; omega
  have hg10 : (g.take 10).length ≤ 10 := by rw [List.length_take]; omega
  have HC := Lib.hid (fun W (kW : Keep (fun _ => False) w W) => clone57 (hr.keep kW (fun _ _ h => h)) (by omega))
  have HM := Lib.hid hm
  have H10 := Lib.hid hg10
  subst hve
  clear hg hr hm hg10
  have h0 : (0 : Int) ≤ min (g.length : Int) 10 := by omega
  have h1 : min (g.length : Int) 10 ≤ (cap : Int) := by omega
  have HG := Lib.hid hG; clear hG
  have H12 := Lib.hid h12; clear h12
  cases hb : baysB (g.take 10) with
  | true =>
    have hop := calm_open hb (.nil _)
    have HOP := Lib.hid (show openF runF (newD 200000) (g.take 10) = ⟨0, gD [], S0 (g.take 10), []⟩ from hop); have HB := Lib.hid hb
    clear hop hb
    go_enter Tryz.func4, Tryz.ntmps4
    go_wp2_with (first
      | (go_at_call 18; refine H12.out.mono ?_; rintro e w1 ⟨rfl, hk1, hd1⟩; have HK1 := Lib.hid hk1; have HD := Lib.hid hd1; clear hk1 hd1)
      | (go_at_call 20; rw [HM.out]; refine (HC.out _ HK1.out).mono ?_; rintro e w3 ⟨gv3, rfl, ho3, hk3⟩; have HO3 := Lib.hid ho3; have HK3 := Lib.hid (HK1.out.trans hk3 (fun _ _ h => h)); have HK13 := Lib.hid hk3; clear ho3 hk3)
      | (go_at_call 19; have hh := open_any (F := runF) (I := Inv) (g := g.take 10) (HG.out.keep HK3.out) (HD.out.keep HK13.out (fun h => h) (fun _ _ h => h)) (ownsRow_rd HO3.out (icells_one _)) (by have := H10.out; omega) (fun k e => (ownsRow_lt HO3.out k e).2) HK3.out.size (fun e => inv_S0 (baysB_8 e)) (sys_all (by decide)); rw [HOP.out] at hh; refine Calls.mono hh ?_; clear hh; rintro e w4 ⟨v4, _, _, hk4, _, hok4⟩; obtain ⟨H, rfl, hHd, hHv, hh4, hfp4, hbb4, hvl4⟩ := hok4 rfl; have HH := Lib.hid hh4; have HFP := Lib.hid hfp4; have HHD := Lib.hid hHd; have HK4 := Lib.hid (HK3.out.trans (hk4.mono (T := fun k => w.heap.size ≤ k) (fun k _ e => e.elim (fun e => e ▸ Nat.le_refl _) (fun e => by cases e))) (fun k hk e => by omega)); clear hk4 hok4 hHd hHv hh4 hfp4 hbb4 hvl4))
    go_ret3
    refine ⟨HK4.out, fun _ => ⟨H, by rw [HHD.out]; rfl, HH.out, fun k hk => by have := HFP.out k hk; have := HK3.out.size; omega⟩, fun e => by rw [HB.out] at e; cases e⟩
  | false =>
    have hop := open_badBays hb (newD 200000)
    have HOP := Lib.hid hop; have HB := Lib.hid hb
    clear hop hb
    go_enter Tryz.func4, Tryz.ntmps4
    go_wp2_with (first
      | (go_at_call 18; refine H12.out.mono ?_; rintro e w1 ⟨rfl, hk1, hd1⟩; have HK1 := Lib.hid hk1; have HD := Lib.hid hd1; clear hk1 hd1)
      | (go_at_call 20; rw [HM.out]; refine (HC.out _ HK1.out).mono ?_; rintro e w3 ⟨gv3, rfl, ho3, hk3⟩; have HO3 := Lib.hid ho3; have HK3 := Lib.hid (HK1.out.trans hk3 (fun _ _ h => h)); have HK13 := Lib.hid hk3; clear ho3 hk3)
      | (go_at_call 19; have hh := open_any (F := runF) (I := Inv) (g := g.take 10) (HG.out.keep HK3.out) (HD.out.keep HK13.out (fun h => h) (fun _ _ h => h)) (ownsRow_rd HO3.out (icells_one _)) (by have := H10.out; omega) (fun k e => (ownsRow_lt HO3.out k e).2) HK3.out.size (fun e => inv_S0 (baysB_8 e)) (sys_all (by decide)); rw [HOP.out] at hh; refine Calls.mono hh ?_; clear hh; rintro e w4 ⟨v4, _, _, hk4, hbad4, _⟩; obtain rfl := hbad4 (show (2 : Int) ≠ 0 by decide); have HK4 := Lib.hid (HK3.out.trans (hk4.mono (T := fun k => w.heap.size ≤ k) (fun k _ e => e.elim (fun e => e ▸ Nat.le_refl _) (fun e => by cases e))) (fun k hk e => by omega)); clear hk4 hbad4))
    go_ret3
    refine ⟨HK4.out, (fun e => by rw [HB.out] at e; cases e), fun _ => ⟨_, rfl⟩⟩

/- takes -/
def zeroG : List Int := [0, 0, 0, 0, 0, 0, 0, 0]
def maceL : ByteArray := bs [116, 97, 107, 101, 32, 109, 97, 99, 101, 32, 55]
def maceS : St := addS (S0 zeroG) ⟨bs [109, 97, 99, 101], 7, -1, false⟩
theorem bays_zero : baysB (zeroG.take 10) = true := by decide +kernel
theorem form_mace7 : formF maceL = some ([115, 100], 399, ⟨[7], bs [109, 97, 99, 101], true⟩) := by kernel_rfl
theorem do_mace7 : doF runF (S0 zeroG) maceL = ⟨0, maceS, bs [116, 97, 107, 101, 32, 49]⟩ := by
  have h : runF 399 (S0 zeroG) ⟨[7], bs [109, 97, 99, 101], true⟩ = ⟨0, maceS, bs [116, 97, 107, 101, 32, 49]⟩ := by kernel_rfl
  unfold doF
  rw [form_mace7]
  show (if true = true then (if (runF 399 (S0 zeroG) ⟨[7], bs [109, 97, 99, 101], true⟩).err = 0 then runF 399 (S0 zeroG) ⟨[7], bs [109, 97, 99, 101], true⟩ else _) else _) = _
  rw [if_pos rfl, h]
  rfl
theorem list_mace7 : listF maceS.lots = bs [108, 111, 116, 115, 32, 49, 58, 109, 97, 99, 101, 58, 55, 58, 45, 58, 111, 112, 101, 110] := by kernel_rfl
theorem inv_mace : Inv 1 maceS := by
  have h := inv_next (inv_S0 (g := zeroG) rfl) (line := maceL) (by rw [do_mace7])
  rw [do_mace7] at h
  exact h
theorem step_mace7 : hdoF runF (gD []) (S0 zeroG) [] false maceL = ⟨0, bs [116, 97, 107, 101, 32, 49], gD [maceL], maceS, [maceL], false⟩ := by
  have h := calm_step (S := S0 zeroG) (ls := []) (by decide) maceL
  rw [do_mace7, if_pos rfl] at h
  exact h
def lotsM : ByteArray := bs [108, 111, 116, 115, 32, 49, 58, 109, 97, 99, 101, 58, 55, 58, 45, 58, 111, 112, 101, 110]
theorem lots_eq : ((bs [116, 97, 107, 101, 32, 49]).toList == [116, 97, 107, 101, 32, 49]) = true := by kernel_rfl
theorem lotsM_eq : (lotsM.toList == [108, 111, 116, 115, 32, 49, 58, 109, 97, 99, 101, 58, 55, 58, 45, 58, 111, 112, 101, 110]) = true := by kernel_rfl
theorem list_maceM : listF maceS.lots = lotsM := list_mace7
set_option maxHeartbeats 4000000 in
set_option maxRecDepth 100000 in
theorem takes_any {w : World} (hG : Glob w) : Calls Tryz.prog 5 #[] w (IdxPost w (.bool true)) := by
  have h4 := opened3_any (w := w.alloc (.cells (icells zeroG).toArray 3)) (g := zeroG) (hG.keep ((Keep.refl _ w).alloc _)) (Rd.new w 1 8 (icells zeroG) 3 rfl (icells_one _) (by unfold maxLen; omega)) (by decide)
  have HG := Lib.hid hG; clear hG
  have H4 := Lib.hid h4; clear h4
  have HK0 := Lib.hid (show Keep (fun _ => False) w (w.alloc (.cells (icells zeroG).toArray 3)) from (Keep.refl _ w).alloc _)
  have hone : ∀ w1 H1, Keep (fun _ => False) (w.alloc (.cells (icells zeroG).toArray 3)) w1 → HouseAt (w.alloc (.cells (icells zeroG).toArray 3)).heap.size w1 H1 (gD []) (S0 zeroG) [] false → (∀ k, H1.V.fp k → (w.alloc (.cells (icells zeroG).toArray 3)).heap.size ≤ k) → One w H1 (S0 zeroG) [] w1 := fun w1 H1 k h f =>
    ⟨h.lower HK0.out.size, fun i hi => Nat.le_trans HK0.out.size (f i hi), HK0.out.trans k (fun _ _ h => h)⟩
  have HONE := Lib.hid hone; clear hone
  go_enter Tryz.func5, Tryz.ntmps5
  go_wp2_with (first
    | (go_at_call 4; refine H4.out.mono ?_; rintro e w1 ⟨hk1, hok, _⟩; obtain ⟨⟨x1, y1, v1, V1, vl1⟩, rfl, hh1, hf1⟩ := hok bays_zero; have HO := Lib.hid (HONE.out _ _ hk1 hh1 hf1); clear hk1 hok hh1 hf1)
    | (go_at_call 6; have hh := hdo_any (F := runF) (s := maceL) (HG.out.keep HO.out.keep) HO.out.keep.size HO.out.h ((inv_S0 (g := zeroG) rfl).small (by omega)) (by decide) (by decide) (run_ok (inv_S0 (g := zeroG) rfl) (by omega) maceL); rw [step_mace7] at hh; refine Calls.mono hh ?_; clear hh; rintro e w5 ⟨⟨x3, y3, v3, V3, vl3⟩, rfl, h3, hc3⟩; obtain rfl : x1 = x3 := hc3.h.symm; obtain rfl : y1 = y3 := hc3.d.symm; have HO2 := Lib.hid (HO.out.step h3 hc3); clear h3 hc3)
    | (go_at_call 12; have hh := ask_lots (HG.out.keep HO2.out.keep) HO2.out.h inv_mace; rw [list_maceM] at hh; refine Calls.mono hh ?_; clear hh; rintro e w6 ⟨rfl, hk6⟩; have HK6 := Lib.hid (HO2.out.keep.trans hk6 (fun _ _ h => h)); clear hk6))
  rotate_left
  · exact absurd (beq_iff_eq.1 lots_eq) (by assumption)
  go_ret
  refine ⟨?_, HK6.out⟩
  show Ending.returned (.bool (lotsM.toList == [108, 111, 116, 115, 32, 49, 58, 109, 97, 99, 101, 58, 55, 58, 45, 58, 111, 112, 101, 110])) = _
  rw [lotsM_eq]
end Go.Proofs.YtkkjonkcjlnohaaGreatDoor

/- The reply to lots, read back word by word: plain Lean. -/
namespace Go.Proofs.YtkkjonkcjlnohaaGreatDoor
set_option linter.unusedSimpArgs false
set_option linter.unusedVariables false
set_option linter.unnecessarySimpa false
open Go.RowKit

theorem joinTail_snoc (sep : List UInt8) (r : List (List UInt8)) (y : List UInt8) : Lib.joinTail sep (r ++ [y]) = Lib.joinTail sep r ++ (sep ++ y) := by
  simp [Lib.joinTail]
theorem jbs_snoc (x : ByteArray) (xs : List ByteArray) (y sep : ByteArray) : jbs (x :: (xs ++ [y])) sep = jbs (x :: xs) sep ++ (sep ++ y) := by
  apply ByteArray.ext; apply Array.toList_inj.1
  simp [jbs, Lib.join_cons, joinTail_snoc]
def d0 : Lot := ⟨bs [], 0, 0, false⟩
def lotWs (l : List Lot) (k : Nat) : List ByteArray := (List.range k).map fun i => lotS i (l.getD i d0)
theorem listN_join (l : List Lot) : ∀ k, listN l k = jbs (lotsB :: lotWs l k) (bs [32]) := by
  intro k
  induction k with
  | zero =>
    apply ByteArray.ext; apply Array.toList_inj.1
    simp [listN, lotWs, jbs, Lib.join_one, lotsB, bs]
  | succ k ih =>
    have e : lotWs l (k + 1) = lotWs l k ++ [lotS k (l.getD k d0)] := by simp [lotWs, List.range_succ]
    rw [e, jbs_snoc, ← ih]
    rfl
/-- A byte that stands in no part. -/
def okC (c : UInt8) : Prop := c ≠ 58 ∧ c ≠ 32
theorem okC_range {c : UInt8} (h : c.toNat ≠ 58 ∧ c.toNat ≠ 32) : okC c := ⟨fun e => h.1 (by rw [e]; rfl), fun e => h.2 (by rw [e]; rfl)⟩
theorem itoa_ok {n : Int} (h : 0 ≤ n) : ∀ c ∈ (itoaB n).data.toList, okC c := by
  obtain ⟨u, rfl⟩ : ∃ u : Nat, n = u := ⟨n.toNat, by omega⟩
  intro c hc
  have e : (itoaB (u : Int)).data.toList = Lib.decDigits u := by simp [itoaB, Lib.itoa_nonneg]
  rw [e] at hc
  have hd := digB_iff.1 (List.all_eq_true.1 (numV_dec u).1 c hc)
  exact okC_range (by omega)
theorem spice_ok {s : ByteArray} (h : s.data.toList.any badS = false) : ∀ c ∈ s.data.toList, okC c := by
  intro c hc
  have hb : badS c = false := by
    cases hb : badS c with
    | false => rfl
    | true => rw [List.any_eq_true.2 ⟨c, hc, hb⟩] at h; cases h
  unfold badS at hb
  simp only [Bool.or_eq_false_iff, decide_eq_false_iff_not] at hb
  exact okC_range (by omega)
theorem bay_ok {x : Lot} : ∀ c ∈ (bayS x).data.toList, okC c := by
  intro c hc
  unfold bayS at hc
  split at hc
  · exact itoa_ok (by omega) c hc
  · have : c = 45 := by simpa [bs] using hc
    subst this; exact ⟨by decide, by decide⟩
theorem is_ok (x : Lot) : ∀ c ∈ (isS x).data.toList, okC c := by
  have h1 : ∀ c ∈ (bs [99, 108, 111, 115, 101, 100]).data.toList, okC c := by unfold okC; decide
  have h2 : ∀ c ∈ (bs [111, 112, 101, 110]).data.toList, okC c := by unfold okC; decide
  unfold isS
  split
  · exact h1
  · exact h2
def partsOf (i : Nat) (x : Lot) : List ByteArray := [itoaB ((i : Int) + 1), x.spice, itoaB x.grams, bayS x, isS x]
theorem parts_ok {i : Nat} {x : Lot} (h : LotK x) : ∀ y ∈ partsOf i x, ∀ c ∈ y.data.toList, okC c := by
  intro y hy
  simp only [partsOf, List.mem_cons, List.not_mem_nil, or_false] at hy
  rcases hy with rfl | rfl | rfl | rfl | rfl
  · exact itoa_ok (by omega)
  · exact spice_ok h.1
  · exact itoa_ok h.2.1
  · exact bay_ok
  · exact is_ok x
theorem mem_join {sep c : UInt8} : ∀ (xs : List (List UInt8)), c ∈ Lib.join xs [sep] → c = sep ∨ ∃ y ∈ xs, c ∈ y := by
  intro xs
  induction xs with
  | nil => intro h; simp [Lib.join_nil] at h
  | cons x r ih =>
    intro h
    cases r with
    | nil => rw [Lib.join_one] at h; exact .inr ⟨x, List.mem_cons_self .., h⟩
    | cons y r =>
      rw [join_two'] at h
      rcases List.mem_append.1 h with h | h
      · exact .inr ⟨x, List.mem_cons_self .., h⟩
      · rcases List.mem_append.1 h with h | h
        · exact .inl (List.mem_singleton.1 h)
        · rcases ih h with h | ⟨z, hz, hc⟩
          · exact .inl h
          · exact .inr ⟨z, List.mem_cons_of_mem _ hz, hc⟩
theorem lotS_no32 {i : Nat} {x : Lot} (h : LotK x) : (32 : UInt8) ∉ (lotS i x).data.toList := by
  intro hc
  have hc' : (32 : UInt8) ∈ Lib.join ((partsOf i x).map (·.data.toList)) [58] := by simpa [lotS, jbs, bs, partsOf] using hc
  rcases mem_join _ hc' with h2 | ⟨y, hy, h2⟩
  · exact absurd h2 (by decide)
  · obtain ⟨z, hz, rfl⟩ := List.mem_map.1 hy
    exact (parts_ok h z hz 32 h2).2 rfl
theorem getD_mem {l : List Lot} {k : Nat} (h : k < l.length) : l.getD k d0 ∈ l := by
  have e : l.getD k d0 = l[k] := by simp [List.getD, h]
  rw [e]; exact List.getElem_mem h
theorem list_words {l : List Lot} (h : ∀ x ∈ l, LotK x) : words (listF l) = lotsB :: lotWs l l.length := by
  show splC 32 (listN l l.length) = _
  rw [listN_join]
  refine splC_join 32 _ _ (fun y hy => ?_)
  rcases List.mem_cons.1 hy with rfl | hy
  · decide
  · obtain ⟨i, hi, rfl⟩ := List.mem_map.1 hy
    exact lotS_no32 (h _ (getD_mem (List.mem_range.1 hi)))
theorem listF_size {m : Nat} {S : St} (hI : Inv m S) : (listF S.lots).size ≤ 2424 := by
  have := listN_size (l := S.lots) hI.lo S.lots.length (Nat.le_refl _) (by have := hI.l; omega)
  have h2 := hI.l
  unfold listF
  omega
end Go.Proofs.YtkkjonkcjlnohaaGreatDoor

/- The tests of a state, read back from its text: plain Lean. -/
namespace Go.Proofs.YtkkjonkcjlnohaaGreatDoor
set_option linter.unusedSimpArgs false
set_option linter.unusedVariables false
set_option linter.unnecessarySimpa false
open Go.RowKit

/-- A note: a touch of two lots, or a test of one. -/
inductive Nt where
  | touch (i j : Int)
  | test (i g : Int)
def goodW (g : Int) : ByteArray := if g = 1 then goodB else badBs
def ntB : Nt → ByteArray
  | .touch i j => touchNote i j
  | .test i g => testNote i (goodW g)
def ntT : Nt → Option (Int × Int)
  | .touch _ _ => none
  | .test i g => some (i, g)
def ntOk : Nt → Prop
  | .touch i j => (1 ≤ i ∧ i ≤ 20) ∧ 1 ≤ j ∧ j ≤ 20
  | .test i g => (1 ≤ i ∧ i ≤ 20) ∧ (g = 0 ∨ g = 1)
/-- The notes are touches and tests; the tests among them are the tests. -/
def NI (S : St) (ns : List Nt) : Prop := S.lots.length ≤ 20 ∧ S.notes = ns.map ntB ∧ S.tests = ns.filterMap ntT ∧ ∀ x ∈ ns, ntOk x
theorem NI.start (g : List Int) : NI (S0 g) [] := ⟨Nat.zero_le _, rfl, rfl, fun x hx => absurd hx List.not_mem_nil⟩
theorem NI.same {S S' : St} {ns : List Nt} (h : NI S ns) (h1 : S'.lots.length ≤ 20) (h2 : S'.notes = S.notes) (h3 : S'.tests = S.tests) : NI S' ns := ⟨h1, h2.trans h.2.1, h3.trans h.2.2.1, h.2.2.2⟩
theorem NI.touch {S : St} {ns : List Nt} {i j : Int} (h : NI S ns) (hi : 1 ≤ i ∧ i ≤ 20) (hj : 1 ≤ j ∧ j ≤ 20) : NI (touchS S i j) (ns ++ [.touch i j]) := by
  refine ⟨h.1, ?_, ?_, fun x hx => ?_⟩
  · show S.notes ++ [touchNote i j] = _
    rw [h.2.1, List.map_append]; rfl
  · show S.tests = _
    rw [h.2.2.1, List.filterMap_append]; simp [ntT]
  · rcases List.mem_append.1 hx with hx | hx
    · exact h.2.2.2 x hx
    · rw [List.mem_singleton.1 hx]; exact ⟨hi, hj⟩
theorem NI.test {S : St} {ns : List Nt} {i g : Int} (h : NI S ns) (hi : 1 ≤ i ∧ i ≤ 20) (hg : g = 0 ∨ g = 1) : NI (testS S i g (goodW g)) (ns ++ [.test i g]) := by
  refine ⟨h.1, ?_, ?_, fun x hx => ?_⟩
  · show S.notes ++ [testNote i (goodW g)] = _
    rw [h.2.1, List.map_append]; rfl
  · show S.tests ++ [(i, g)] = _
    rw [h.2.2.1, List.filterMap_append]; simp [ntT]
  · rcases List.mem_append.1 hx with hx | hx
    · exact h.2.2.2 x hx
    · rw [List.mem_singleton.1 hx]; exact ⟨hi, hg⟩
theorem hasLot_range {S : St} {i : Int} (h : hasLot S i = true) (hl : S.lots.length ≤ 20) : 1 ≤ i ∧ i ≤ 20 := by
  unfold hasLot at h
  simp only [Bool.and_eq_true, decide_eq_true_eq] at h
  omega
/-- A line that is done leaves notes that are read so. -/
theorem NI.step {S : St} {ns : List Nt} {s : ByteArray} (h : NI S ns) (he : (doF runF S s).err = 0) : ∃ ns', NI (doF runF S s).st ns' := by
  obtain ⟨so, f, a, hf, hok, hr, hd⟩ := do_kind he
  rw [hd]
  have hl := h.1
  cases said_of hf hok with
  | take e n w ha hn hw =>
    subst e ha
    have e2 : ∀ a, runF 399 S a = takeF S a := fun _ => rfl
    rw [e2] at hr ⊢
    unfold takeF at hr ⊢
    split at hr
    · simp at hr
    · rename_i h20
      rw [if_neg h20]
      split at hr
      · simp at hr
      · rename_i hz
        rw [if_neg hz]
        exact ⟨ns, h.same (by show (S.lots ++ [_]).length ≤ 20; rw [List.length_append]; simp; omega) rfl rfl⟩
  | blend e i j q ha hi hj hq =>
    subst e ha
    have e2 : ∀ a, runF 400 S a = blendF S a := fun _ => rfl
    rw [e2] at hr ⊢
    unfold blendF at hr ⊢
    simp only [List.getD_cons_zero, List.getD_cons_succ] at hr ⊢
    by_cases h20 : S.lots.length = 20
    · rw [if_pos h20] at hr; simp at hr
    rw [if_neg h20] at hr ⊢
    by_cases hal : allLots S [i, j] = true
    · rw [if_pos hal] at hr ⊢
      by_cases hij : i = j ∨ q = 0
      · rw [if_pos hij] at hr; simp at hr
      rw [if_neg hij] at hr ⊢
      unfold allLots at hal
      simp only [List.all_cons, List.all_nil, Bool.and_true, Bool.and_eq_true] at hal
      have ri := hasLot_range hal.1 hl
      have rj := hasLot_range hal.2 hl
      cases hx : S.lots[(i - 1).toNat]? with
      | none => rw [hx] at hr; simp at hr
      | some x =>
        cases hy : S.lots[(j - 1).toNat]? with
        | none => rw [hx, hy] at hr; simp at hr
        | some y =>
          rw [hx, hy] at hr
          simp only at hr ⊢
          by_cases hb : (x.closed || (y.closed || decide (min x.grams y.grams < q))) = true
          · rw [if_pos hb] at hr; simp at hr
          rw [if_neg hb]
          have h1 : NI (addS (blendS S i j q x y) ⟨bs [98, 108, 101, 110, 100], wrap64 (2 * q), -1, false⟩) ns :=
            h.same (by show ((blendS S i j q x y).lots ++ [_]).length ≤ 20; rw [List.length_append]; simp [blendS]; omega) rfl rfl
          have h2 := (h1.touch (i := (S.lots.length : Int) + 1) (j := i) ⟨by omega, by omega⟩ ri).touch (i := (S.lots.length : Int) + 1) (j := j) ⟨by omega, by omega⟩ rj
          exact ⟨_, h2⟩
    · rw [if_neg hal] at hr; simp at hr
  | put e i b ha hi hb =>
    subst e ha
    have e2 : ∀ a, runF 401 S a = putF S a := fun _ => rfl
    rw [e2] at hr ⊢
    unfold putF at hr ⊢
    simp only [List.getD_cons_zero, List.getD_cons_succ] at hr ⊢
    by_cases hal : hasLot S i = true
    · rw [if_pos hal] at hr ⊢
      by_cases h7 : 7 < b
      · rw [if_pos h7] at hr; simp at hr
      rw [if_neg h7] at hr ⊢
      cases hx : S.lots[(i - 1).toNat]? with
      | none => rw [hx] at hr; simp at hr
      | some x =>
        rw [hx] at hr
        simp only at hr ⊢
        by_cases hc : x.closed = true
        · rw [if_pos hc] at hr; simp at hr
        rw [if_neg hc] at hr ⊢
        by_cases hb2 : (List.range S.lots.length).any (clashAt S i b x) = true
        · rw [if_pos hb2] at hr; simp at hr
        rw [if_neg hb2]
        exact ⟨ns, h.same (by show (S.lots.set _ _).length ≤ 20; rw [List.length_set]; exact hl) rfl rfl⟩
    · rw [if_neg hal] at hr; simp at hr
  | touch e i j ha hi hj =>
    subst e ha
    have e2 : ∀ a, runF 402 S a = touchF S a := fun _ => rfl
    rw [e2] at hr ⊢
    unfold touchF at hr ⊢
    simp only [List.getD_cons_zero, List.getD_cons_succ] at hr ⊢
    by_cases hal : allLots S [i, j] = true
    · rw [if_pos hal] at hr ⊢
      by_cases hij : i = j
      · rw [if_pos hij] at hr; simp at hr
      rw [if_neg hij]
      unfold allLots at hal
      simp only [List.all_cons, List.all_nil, Bool.and_true, Bool.and_eq_true] at hal
      exact ⟨_, h.touch (hasLot_range hal.1 hl) (hasLot_range hal.2 hl)⟩
    · rw [if_neg hal] at hr; simp at hr
  | test e i w ha hi hw =>
    subst e ha
    have e2 : ∀ a, runF 403 S a = testF S a := fun _ => rfl
    rw [e2] at hr ⊢
    unfold testF at hr ⊢
    simp only [List.getD_cons_zero] at hr ⊢
    by_cases hal : hasLot S i = true
    · rw [if_pos hal]
      have ri := hasLot_range hal hl
      by_cases hg : w = goodB
      · rw [if_pos hg]
        have h2 := h.test (g := 1) ri (Or.inr rfl)
        rw [show goodW 1 = goodB from rfl] at h2
        exact ⟨_, by rw [hg]; exact h2⟩
      · rw [if_neg hg]
        have hw2 : w = badBs := hw.resolve_left hg
        have h2 := h.test (g := 0) ri (Or.inl rfl)
        rw [show goodW 0 = badBs from rfl] at h2
        exact ⟨_, by rw [hw2]; exact h2⟩
    · rw [if_neg hal] at hr; simp at hr
  | close e i ha hi =>
    subst e ha
    have e2 : ∀ a, runF 404 S a = shutF S a := fun _ => rfl
    rw [e2] at hr ⊢
    unfold shutF at hr ⊢
    simp only [List.getD_cons_zero] at hr ⊢
    by_cases hal : hasLot S i = true
    · rw [if_pos hal] at hr ⊢
      cases hx : S.lots[(i - 1).toNat]? with
      | none => rw [hx] at hr; simp at hr
      | some x =>
        rw [hx] at hr
        simp only at hr ⊢
        by_cases hc : x.closed = true
        · rw [if_pos hc] at hr; simp at hr
        rw [if_neg hc]
        exact ⟨ns, h.same (by show (S.lots.set _ _).length ≤ 20; rw [List.length_set]; exact hl) rfl rfl⟩
    · rw [if_neg hal] at hr; simp at hr

/- the words of the notes -/
def touchW : ByteArray := bs [116, 111, 117, 99, 104]
def testW : ByteArray := bs [116, 101, 115, 116]
theorem jbs3 (x y z : ByteArray) : jbs [x, y, z] (bs [32]) = ((x ++ bs [32]) ++ y) ++ bs [32] ++ z := by
  apply ByteArray.ext; apply Array.toList_inj.1
  simp [jbs, Lib.join_cons, Lib.joinTail, bs]
theorem itoa_no {n : Int} (h : 0 ≤ n) : ∀ c ∈ (itoaB n).data.toList, 48 ≤ c.toNat ∧ c.toNat ≤ 57 := by
  obtain ⟨u, rfl⟩ : ∃ u : Nat, n = u := ⟨n.toNat, by omega⟩
  intro c hc
  have e : (itoaB (u : Int)).data.toList = Lib.decDigits u := by simp [itoaB, Lib.itoa_nonneg]
  rw [e] at hc
  exact digB_iff.1 (List.all_eq_true.1 (numV_dec u).1 c hc)
theorem goodW_no (g : Int) : ∀ c ∈ (goodW g).data.toList, 97 ≤ c.toNat := by
  have h1 : ∀ c ∈ goodB.data.toList, 97 ≤ c.toNat := by decide
  have h2 : ∀ c ∈ badBs.data.toList, 97 ≤ c.toNat := by decide
  unfold goodW
  split
  · exact h1
  · exact h2
def ntW : Nt → List ByteArray
  | .touch i j => [touchW, itoaB i, itoaB j]
  | .test i g => [testW, itoaB i, goodW g]
theorem ntB_jbs (x : Nt) : ntB x = jbs (ntW x) (bs [32]) := by
  cases x with
  | touch i j =>
    show touchNote i j = _
    unfold ntW touchNote
    rw [jbs3]
    rfl
  | test i g =>
    show testNote i (goodW g) = _
    unfold ntW testNote
    rw [jbs3]
    rfl
theorem ntW_no {x : Nt} (h : ntOk x) : ∀ y ∈ ntW x, ∀ c ∈ y.data.toList, 48 ≤ c.toNat := by
  have t1 : ∀ c ∈ touchW.data.toList, 48 ≤ c.toNat := by decide
  have t2 : ∀ c ∈ testW.data.toList, 48 ≤ c.toNat := by decide
  cases x with
  | touch i j =>
    intro y hy c hc
    simp only [ntW, List.mem_cons, List.not_mem_nil, or_false] at hy
    rcases hy with rfl | rfl | rfl
    · exact t1 c hc
    · exact (itoa_no (by have := h.1.1; omega) c hc).1
    · exact (itoa_no (by have := h.2.1; omega) c hc).1
  | test i g =>
    intro y hy c hc
    simp only [ntW, List.mem_cons, List.not_mem_nil, or_false] at hy
    rcases hy with rfl | rfl | rfl
    · exact t2 c hc
    · exact (itoa_no (by have := h.1.1; omega) c hc).1
    · have := goodW_no g c hc; omega
theorem nt_words {x : Nt} (h : ntOk x) : words (ntB x) = ntW x := by
  rw [ntB_jbs]
  have key : ∀ y ∈ ntW x, (32 : UInt8) ∉ y.data.toList := fun y hy hc => by
    have := ntW_no h y hy 32 hc
    exact absurd this (by decide)
  cases x with
  | touch i j => exact splC_join 32 _ _ key
  | test i g => exact splC_join 32 _ _ key
theorem nt_no10 {x : Nt} (h : ntOk x) : (10 : UInt8) ∉ (ntB x).data.toList := by
  intro hc
  rw [ntB_jbs] at hc
  have hc' : (10 : UInt8) ∈ Lib.join ((ntW x).map (·.data.toList)) [32] := by simpa [jbs, bs] using hc
  rcases mem_join _ hc' with h2 | ⟨y, hy, h2⟩
  · exact absurd h2 (by decide)
  · obtain ⟨z, hz, rfl⟩ := List.mem_map.1 hy
    exact absurd (ntW_no h z hz 10 h2) (by decide)
theorem lotS_no10 {i : Nat} {x : Lot} (h : LotK x) : (10 : UInt8) ∉ (lotS i x).data.toList := by
  intro hc
  have hc' : (10 : UInt8) ∈ Lib.join ((partsOf i x).map (·.data.toList)) [58] := by simpa [lotS, jbs, bs, partsOf] using hc
  have hi : ∀ n : Int, 0 ≤ n → (10 : UInt8) ∉ (itoaB n).data.toList := fun n h0 hm => absurd (itoa_no h0 10 hm).1 (by decide)
  rcases mem_join _ hc' with h2 | ⟨y, hy, h2⟩
  · exact absurd h2 (by decide)
  · obtain ⟨z, hz, rfl⟩ := List.mem_map.1 hy
    simp only [partsOf, List.mem_cons, List.not_mem_nil, or_false] at hz
    rcases hz with rfl | rfl | rfl | rfl | rfl
    · exact hi _ (by omega) h2
    · have hb : badS 10 = false := by
        cases hb : badS 10 with
        | false => rfl
        | true => have := h.1; rw [List.any_eq_true.2 ⟨10, h2, hb⟩] at this; cases this
      exact absurd hb (by decide)
    · exact hi _ h.2.1 h2
    · unfold bayS at h2
      split at h2
      · exact hi _ (by omega) h2
      · exact absurd h2 (by decide)
    · unfold isS at h2
      split at h2
      · exact absurd h2 (by decide)
      · exact absurd h2 (by decide)
theorem list_no10 {l : List Lot} (h : ∀ x ∈ l, LotK x) : (10 : UInt8) ∉ (listF l).data.toList := by
  intro hc
  have e : listF l = jbs (lotsB :: lotWs l l.length) (bs [32]) := listN_join l l.length
  rw [e] at hc
  have hc' : (10 : UInt8) ∈ Lib.join ((lotsB :: lotWs l l.length).map (·.data.toList)) [32] := by simpa [jbs, bs] using hc
  rcases mem_join _ hc' with h2 | ⟨y, hy, h2⟩
  · exact absurd h2 (by decide)
  · obtain ⟨z, hz, rfl⟩ := List.mem_map.1 hy
    rcases List.mem_cons.1 hz with rfl | hz
    · exact absurd h2 (by decide)
    · obtain ⟨i, hi, rfl⟩ := List.mem_map.1 hz
      exact lotS_no10 (h _ (getD_mem (List.mem_range.1 hi))) h2
/-- The lines of a state's text. -/
theorem text_lines {S : St} {ns : List Nt} (hK : ∀ x ∈ S.lots, LotK x) (h : NI S ns) : splC 10 (textF S) = listF S.lots :: (ns.map ntB ++ [bs []]) := by
  have e : textF S = jbs (listF S.lots :: (ns.map ntB ++ [bs []])) (bs [10]) := by
    rw [jbs_snoc]
    unfold textF
    rw [h.2.1]
    apply ByteArray.ext; apply Array.toList_inj.1
    simp [bs]
  rw [e]
  refine splC_join 10 _ _ (fun y hy => ?_)
  rcases List.mem_cons.1 hy with rfl | hy
  · exact list_no10 hK
  · rcases List.mem_append.1 hy with hy | hy
    · obtain ⟨x, hx, rfl⟩ := List.mem_map.1 hy
      exact nt_no10 (h.2.2.2 x hx)
    · rw [List.mem_singleton.1 hy]; simp [bs]
/-- A line's words, where it is three of which the first is 'test'. -/
def isT (l : ByteArray) : Bool := decide ((words l).length = 3) && decide ((words l).getD 0 ByteArray.empty = testW)
theorem isT_list {l : List Lot} (h : ∀ x ∈ l, LotK x) : isT (listF l) = false := by
  unfold isT
  rw [list_words h]
  have : lotsB ≠ testW := by decide
  simp [this]
theorem isT_touch {i j : Int} (h : ntOk (.touch i j)) : isT (ntB (.touch i j)) = false := by
  unfold isT
  rw [nt_words h]
  have : touchW ≠ testW := by decide
  simp [ntW, this]
theorem isT_test {i g : Int} (h : ntOk (.test i g)) : isT (ntB (.test i g)) = true := by
  unfold isT
  rw [nt_words h]
  simp [ntW]
theorem isT_nil : isT (bs []) = false := by
  unfold isT
  have : (words (bs [])).length = 1 := by rw [words_length]; decide
  rw [this]
  rfl
/-- The lines that are tests are those of the tests. -/
theorem test_lines {S : St} {ns : List Nt} (hK : ∀ x ∈ S.lots, LotK x) (h : NI S ns) : (splC 10 (textF S)).filter isT = S.tests.map fun x => testNote x.1 (goodW x.2) := by
  rw [text_lines hK h, List.filter_cons_of_neg (by rw [isT_list hK]; decide), List.filter_append]
  rw [show [bs []].filter isT = [] by rw [List.filter_cons_of_neg (by rw [isT_nil]; decide)]; rfl, List.append_nil, h.2.2.1]
  have : ∀ l : List Nt, (∀ x ∈ l, ntOk x) → (l.map ntB).filter isT = (l.filterMap ntT).map fun x => testNote x.1 (goodW x.2) := by
    intro l
    induction l with
    | nil => intro _; rfl
    | cons x l ih =>
      intro hx
      have hi := ih (fun y hy => hx y (List.mem_cons_of_mem _ hy))
      have h1 := hx x (List.mem_cons_self ..)
      cases x with
      | touch i j =>
        rw [List.map_cons, List.filter_cons_of_neg (by rw [isT_touch h1]; decide), hi]
        rw [List.filterMap_cons]; rfl
      | test i g =>
        rw [List.map_cons, List.filter_cons_of_pos (isT_test h1), hi]
        rw [List.filterMap_cons]; rfl
  exact this ns h.2.2.2
theorem testNote_words {i g : Int} (h : ntOk (.test i g)) : words (testNote i (goodW g)) = [testW, itoaB i, goodW g] := nt_words h
theorem NI.tests {S : St} {ns : List Nt} (h : NI S ns) : ∀ x ∈ S.tests, (1 ≤ x.1 ∧ x.1 ≤ 20) ∧ (x.2 = 0 ∨ x.2 = 1) := by
  intro x hx
  rw [h.2.2.1] at hx
  obtain ⟨y, hy, e⟩ := List.mem_filterMap.1 hx
  have h1 := h.2.2.2 y hy
  cases y with
  | touch i j => simp [ntT] at e
  | test i g => simp only [ntT, Option.some.injEq] at e; subst e; exact h1
end Go.Proofs.YtkkjonkcjlnohaaGreatDoor
