/- house.state.list, text; House.State. -/
import Derived.Test.YthdkamnclbfehaaGreatDoorReplays23
import Derived.Test.YthdkamnclbfehaaGreatDoorReplays22
import Derived.Test.YthdkamnclbfehaaGreatDoorReplays10
import Derived.Deep.LoopGhost
import Derived.Deep.DeepCutAuto
import Derived.Test.YthdkamnclbfehaaGreatDoorReplays19

/- house.state.list, text; House.State. -/
namespace Go.Proofs.YthdkamnclbfehaaGreatDoor
set_option linter.unusedSimpArgs false
set_option linter.unusedVariables false
set_option linter.unnecessarySimpa false
open Go.RowKit

def LsRel (w : World) (l : List Lot) (gh : Nat) (s3 s13 : Value) (wx : World) : Prop :=
  ∃ k : Nat, gh = l.length - k ∧ k ≤ l.length ∧ s3 = .string (listN l k) ∧ s13 = .int .i64 k ∧ Keep (fun _ => False) w wx

set_option maxHeartbeats 2000000 in
set_option maxRecDepth 100000 in
theorem list_any {w : World} {V : StV} {S : St} {m : Nat} (hG : Glob w) (h : StAt w V S) (hI : Inv m S) : Calls Tryz.prog 93 #[.pointer (some ⟨V.b, 0, none⟩)] w (IdxPost w (.string (listF S.lots))) := by
  obtain ⟨lo, lc, hve, hlc, _⟩ := h.rl.shape
  have c1 := h.blk.cell 1
  simp [StV.cells] at c1
  rw [hve] at c1
  have hrl := h.rl
  rw [hve] at hrl
  have hl20 := hI.l
  have HRL := Lib.hid hrl
  have HI := Lib.hid hI
  have HG := Lib.hid hG
  clear h hve hrl hI hG
  go_enter Tryz.func93, Tryz.ntmps93
  go_wp2
  go_loopg [3, 13] S.lots.length (fun gh s3 s13 wx => LsRel w S.lots gh s3 s13 wx)
  case atStart => exact ⟨0, rfl, Nat.zero_le _, rfl, rfl, Keep.refl _ _⟩
  case round =>
    obtain ⟨k, rfl, hk, rfl, rfl, hkw⟩ := hrel
    have HK := Lib.hid hkw; clear hkw
    obtain ⟨acc, hacc⟩ : ∃ acc, listN S.lots k = acc := ⟨_, rfl⟩
    have hasz := listN_size HI.out.lo k hk (by omega)
    rw [hacc] at hasz
    rw [hacc]
    have HACC := Lib.hid hacc; clear hacc
    by_cases hlt : k < S.lots.length
    · have hjl : ((k : Int) < (S.lots.length : Int)) = True := by simp; omega
      have hrd := HRL.out.keep HK.out (fun _ _ h => h)
      obtain ⟨b, o, hao, hcell⟩ : ∃ b o, lo = some ⟨b, o, none⟩ ∧ ∀ i, i < 4 → wr.cell? ⟨b, o + (k * 4 + i), none⟩ = (lotCell S.lots[k])[i]? := by
        rcases hrd.2.2 with ⟨h, h'⟩ | ⟨b, o, c, h, _, _, hx⟩
        · omega
        · injection h with h1 h2 h3
          refine ⟨b, o, h1, fun i hi => ?_⟩
          have e := lotCells_get S.lots k i hlt hi
          have : ∃ u, (lotCell S.lots[k])[i]? = some u := ⟨(lotCell S.lots[k])[i]'(by simp [lotCell]; omega), List.getElem?_eq_getElem _⟩
          obtain ⟨u, hu⟩ := this
          rw [hu]
          exact hx _ u (e.trans hu)
      subst hao
      have hok := HI.out.lo S.lots[k] (by simp)
      obtain ⟨A, hA⟩ : ∃ A, S.lots[k] = A := ⟨_, rfl⟩
      have hnext : listN S.lots (k + 1) = acc ++ (bs [32] ++ lotS k A) := by
        simp only [listN, HACC.out]
        rw [show S.lots.getD k ⟨bs [], 0, 0, false⟩ = A by rw [← hA]; simp [List.getD, List.getElem?_eq_getElem hlt]]
      rw [hA] at hcell hok
      obtain ⟨sp, gr, by_, cl⟩ := A
      have c0 := hcell 0 (by omega)
      have c1 := hcell 1 (by omega)
      have c2 := hcell 2 (by omega)
      have c3 := hcell 3 (by omega)
      simp [lotCell] at c0 c1 c2 c3
      simp only [← Nat.add_assoc] at c1 c2 c3
      have HGR := Lib.hid hok.g
      obtain ⟨bay, hbay⟩ : ∃ s, bayS ⟨sp, gr, by_, cl⟩ = s := ⟨_, rfl⟩
      obtain ⟨is, his⟩ : ∃ s, isS ⟨sp, gr, by_, cl⟩ = s := ⟨_, rfl⟩
      obtain ⟨jb, hjb⟩ : ∃ s, lotS k ⟨sp, gr, by_, cl⟩ = s := ⟨_, rfl⟩
      have hjz := lotS_size hok (i := k) (by omega)
      have hby := hok.b
      simp only at hby
      rw [hjb] at hjz hnext
      have hj2 : jbs [itoaB ((k : Int) + 1), sp, itoaB gr, bay, is] (bs [58]) = jb := by rw [← hjb, ← hbay, ← his]; rfl
      have HJ := Lib.hid hj2
      have HJZ : Hid ((jbs [itoaB ((k : Int) + 1), sp, itoaB gr, bay, is] (bs [58])).size ≤ 140737488355328) := Lib.hid (by rw [hj2]; omega)
      have HNX := Lib.hid hnext
      have HBAY := Lib.hid hbay
      have HIS := Lib.hid his
      have hs1 : (9223372036854775807 < 1 + jb.size) = False := eq_false (by omega)
      have hs2 : (9223372036854775807 < acc.size + (1 + jb.size)) = False := eq_false (by omega)
      clear hcell hA hrd hok hj2 hjb hnext hbay his
      have HB0 := Lib.hid (Blk.new wr #[.string sp, .int .i64 gr, .int .i64 by_, .bool cl] 214)
      have HK0 := Lib.hid (HK.out.alloc (.cells #[.string sp, .int .i64 gr, .int .i64 by_, .bool cl] 214))
      go_upto_if 20 with fail
      clear c0 c1 c2 c3
      go_cut [6] (fun s6 wx => s6 = .string bay ∧ Blk wx wr.heap.size #[.string sp, .int .i64 gr, .int .i64 by_, .bool cl] 214 ∧ Keep (fun _ => False) w wx)
      case first =>
        have c2 := HB0.out.cell 2
        simp at c2
        by_cases hb0 : 0 ≤ by_
        · have hbt : ((0 : Int) ≤ by_) = True := eq_true hb0
          have hbs : bay = itoaB by_ := by rw [← HBAY.out]; unfold bayS; rw [if_pos (by exact hb0)]
          have HBS := Lib.hid hbs; clear hbs
          go_wp2_with (go_at_call 96; refine Calls.mono (itoa_any (HG.out.keep HK0.out) (by omega) (by omega)) ?_; rintro e w2 ⟨rfl, hk2⟩; have HK2 := Lib.hid hk2; clear hk2)
          go_meet
          exact ⟨by rw [HBS.out], HB0.out.keep HK2.out (fun h => h), HK0.out.trans HK2.out (fun _ _ h => h)⟩
        · have hbt : ((0 : Int) ≤ by_) = False := eq_false hb0
          have hbs : bay = bs [45] := by rw [← HBAY.out]; unfold bayS; rw [if_neg (by exact hb0)]
          have HBS := Lib.hid hbs; clear hbs
          go_wp2
          go_meet
          exact ⟨by rw [HBS.out]; rfl, HB0.out, HK0.out⟩
      case rest =>
        obtain ⟨rfl, hb1, hk1⟩ := hcut
        have HB1 := Lib.hid hb1
        have HK1 := Lib.hid hk1
        clear hb1 hk1
        have c0 := HB1.out.cell 0
        have c1 := HB1.out.cell 1
        have c3 := HB1.out.cell 3
        simp at c0 c1 c3
        obtain ⟨wb, hwb⟩ : ∃ wb, wb = wc := ⟨_, rfl⟩
        go_upto_if 25 with fail
        go_cut [7] (fun s7 wx => s7 = .string is ∧ wb = wx)
        case first =>
          cases hcl : cl with
          | true =>
            subst hcl
            have hbs : is = bs [99, 108, 111, 115, 101, 100] := by rw [← HIS.out]; rfl
            have HBS := Lib.hid hbs; clear hbs
            go_wp2
            go_meet
            exact ⟨by rw [HBS.out]; rfl, hwb⟩
          | false =>
            subst hcl
            have hbs : is = bs [111, 112, 101, 110] := by rw [← HIS.out]; rfl
            have HBS := Lib.hid hbs; clear hbs
            go_wp2
            go_meet
            exact ⟨by rw [HBS.out]; rfl, hwb⟩
        case rest =>
          subst hwb
          obtain ⟨rfl, rfl⟩ := hcut
          have HGB := Lib.hid (HG.out.keep HK1.out)
          have HSA : Hid (∀ W, Keep (fun _ => False) wb W → (W.cell? ⟨wr.heap.size, 0, none⟩ = some (.string sp) ∧ W.cell? ⟨wr.heap.size, 1, none⟩ = some (.int .i64 gr))) := Lib.hid fun W hk => by
            have h1 := (HB1.out.keep hk (fun h => h)).cell 0
            have h2 := (HB1.out.keep hk (fun h => h)).cell 1
            simp at h1 h2
            exact ⟨h1, h2⟩
          clear c3
          have hwk : IntKind.i64.wrap ((k : Int) + 1) = (k : Int) + 1 := IntWalk.i64_in _ (by omega)
          go_upto_region 10 with fail
          refine wp_region_noPanic ?_
          refine wp_region_held_drew (S := fun W => W.cell? ⟨wr.heap.size, 0, none⟩ = some (.string sp) ∧ W.cell? ⟨wr.heap.size, 1, none⟩ = some (.int .i64 gr)) (by kernel_rfl) (HSA.out _ (Keep.refl (fun _ => False) wb).drew) (fun hHeld => ?_)
          refine wpAnyH_take (i := 0) (oi := _) (v := ?_) rfl (by kernel_rfl) (by kernel_rfl) (by kernel_rfl) (fun _ _ _ h => h) (Or.inl ⟨by rfl, ?_⟩) (by assumption) ?_
          rotate_left
          · (intro w hSw; (try dsimp only at hSw); go_simp) <;> with_reducible rfl
          (try simp only [List.getElem_toArray, List.getElem_cons_zero, List.getElem_cons_succ, Act.put, List.setIfInBounds_toArray, List.set_cons_zero, List.set_cons_succ])
          refine wpAnyH_take (i := 1) (oi := _) (v := ?_) rfl (by kernel_rfl) (by kernel_rfl) (by kernel_rfl) (fun _ _ _ h => h) (Or.inl ⟨by rfl, ?_⟩) (by assumption) ?_
          rotate_left
          · (intro w hSw; (try dsimp only at hSw); go_simp) <;> with_reducible rfl
          (try simp only [List.getElem_toArray, List.getElem_cons_zero, List.getElem_cons_succ, Act.put, List.setIfInBounds_toArray, List.set_cons_zero, List.set_cons_succ])
          refine wpAnyH_take (i := 2) (oi := _) (v := ?_) rfl (by kernel_rfl) (by kernel_rfl) (by kernel_rfl) (fun _ _ _ h => h) (Or.inl ⟨by rfl, ?_⟩) (by assumption) ?_
          rotate_left
          · (intro w hSw; (try dsimp only at hSw); go_simp) <;> with_reducible rfl
          (try simp only [List.getElem_toArray, List.getElem_cons_zero, List.getElem_cons_succ, Act.put, List.setIfInBounds_toArray, List.set_cons_zero, List.set_cons_succ])
          refine wpAnyH_take (i := 4) (oi := _) (v := ?_) rfl (by kernel_rfl) (by kernel_rfl) (by kernel_rfl) (fun _ _ _ h => h) (Or.inl ⟨by rfl, ?_⟩) (by assumption) ?_
          rotate_left
          · (intro w hSw; (try dsimp only at hSw); go_simp) <;> with_reducible rfl
          (try simp only [List.getElem_toArray, List.getElem_cons_zero, List.getElem_cons_succ, Act.put, List.setIfInBounds_toArray, List.set_cons_zero, List.set_cons_succ])
          refine wpAnyH_take (i := 5) (oi := _) (v := ?_) rfl (by kernel_rfl) (by kernel_rfl) (by kernel_rfl) (fun _ _ _ h => h) (Or.inl ⟨by rfl, ?_⟩) (by assumption) ?_
          rotate_left
          · (intro w hSw; (try dsimp only at hSw); go_simp) <;> with_reducible rfl
          (try simp only [List.getElem_toArray, List.getElem_cons_zero, List.getElem_cons_succ, Act.put, List.setIfInBounds_toArray, List.set_cons_zero, List.set_cons_succ])
          refine wpAnyH_take (i := 6) (oi := _) (v := ?_) rfl (by kernel_rfl) (by kernel_rfl) (by kernel_rfl) (fun _ _ _ h => h) (Or.inl ⟨by rfl, ?_⟩) (by assumption) ?_
          rotate_left
          · (intro w hSw; (try dsimp only at hSw); go_simp) <;> with_reducible rfl
          (try simp only [List.getElem_toArray, List.getElem_cons_zero, List.getElem_cons_succ, Act.put, List.setIfInBounds_toArray, List.set_cons_zero, List.set_cons_succ])
          refine wpAnyH_take (i := 7) (oi := _) (v := ?_) rfl (by kernel_rfl) (by kernel_rfl) (by kernel_rfl) (fun _ _ _ h => h) (Or.inl ⟨by rfl, ?_⟩) (by assumption) ?_
          rotate_left
          · (intro w hSw; (try dsimp only at hSw); go_simp) <;> with_reducible rfl
          (try simp only [List.getElem_toArray, List.getElem_cons_zero, List.getElem_cons_succ, Act.put, List.setIfInBounds_toArray, List.set_cons_zero, List.set_cons_succ])
          refine wpAnyH_take (i := 9) (oi := _) (v := ?_) rfl (by kernel_rfl) (by kernel_rfl) (by kernel_rfl) (fun _ _ _ h => h) (Or.inl ⟨by rfl, ?_⟩) (by assumption) ?_
          rotate_left
          · (intro w hSw; (try dsimp only at hSw); go_simp) <;> with_reducible rfl
          (try simp only [List.getElem_toArray, List.getElem_cons_zero, List.getElem_cons_succ, Act.put, List.setIfInBounds_toArray, List.set_cons_zero, List.set_cons_succ])
          refine wpAnyH_take (i := 10) (oi := _) (v := ?_) rfl (by kernel_rfl) (by kernel_rfl) (by kernel_rfl) (fun _ _ _ h => h) (Or.inl ⟨by rfl, ?_⟩) (by assumption) ?_
          rotate_left
          · (intro w hSw; (try dsimp only at hSw); go_simp) <;> with_reducible rfl
          (try simp only [List.getElem_toArray, List.getElem_cons_zero, List.getElem_cons_succ, Act.put, List.setIfInBounds_toArray, List.set_cons_zero, List.set_cons_succ])
          refine wpAnyH_ready (rs := [3]) (by kernel_rfl) (by simp) ?_
          refine AllReadyH.cons (o := _) rfl (fun K hK => ?_) AllReadyH.nil
          go_simp
          refine Calls.mono (itoa_any (HGB.out.keep (show Keep (fun _ => False) wb _ by repeat (first | exact HKR.out | exact Keep.refl _ _ | apply Keep.drew | apply Keep.drewN | apply Keep.alloc))) (by omega) (by omega)) ?_
          rintro e' Wc ⟨rfl, hkc⟩
          have HKRC := Lib.hid (Keep.trans (show Keep (fun _ => False) wb _ by repeat (first | exact HKR.out | exact Keep.refl _ _ | apply Keep.drew | apply Keep.drewN | apply Keep.alloc)) hkc (fun _ _ h => h))
          have HKR := HKRC
          clear HKRC hkc
          (try dsimp only)
          refine hK.out _ _ ?_ (fun hHeld => ?_)
          · ((try dsimp only); refine HSA.out _ ?_; repeat (first | exact HKR.out | exact Keep.refl _ _ | apply Keep.drew | apply Keep.drewN | apply Keep.alloc))
          clear hK K
          (try simp only [List.getElem_toArray, List.getElem_cons_zero, List.getElem_cons_succ, Act.put, List.setIfInBounds_toArray, List.set_cons_zero, List.set_cons_succ])
          refine wpAnyH_ready (rs := [8]) (by kernel_rfl) (by simp) ?_
          refine AllReadyH.cons (o := _) rfl (fun K hK => ?_) AllReadyH.nil
          go_simp
          refine Calls.mono (itoa_any (HGB.out.keep (show Keep (fun _ => False) wb _ by repeat (first | exact HKR.out | exact Keep.refl _ _ | apply Keep.drew | apply Keep.drewN | apply Keep.alloc))) HGR.out.1 HGR.out.2) ?_
          rintro e' Wc ⟨rfl, hkc⟩
          have HKRC := Lib.hid (Keep.trans (show Keep (fun _ => False) wb _ by repeat (first | exact HKR.out | exact Keep.refl _ _ | apply Keep.drew | apply Keep.drewN | apply Keep.alloc)) hkc (fun _ _ h => h))
          have HKR := HKRC
          clear HKRC hkc
          (try dsimp only)
          refine hK.out _ _ ?_ (fun hHeld => ?_)
          · ((try dsimp only); refine HSA.out _ ?_; repeat (first | exact HKR.out | exact Keep.refl _ _ | apply Keep.drew | apply Keep.drewN | apply Keep.alloc))
          clear hK K
          (try simp only [List.getElem_toArray, List.getElem_cons_zero, List.getElem_cons_succ, Act.put, List.setIfInBounds_toArray, List.set_cons_zero, List.set_cons_succ])
          refine wpAnyH_ready (rs := [11]) (by kernel_rfl) (by simp) ?_
          refine AllReadyH.cons (o := _) rfl (fun K hK => ?_) AllReadyH.nil
          go_simp
          refine hK.out _ _ ?_ (fun hHeld => ?_)
          · ((try dsimp only); refine HSA.out _ ?_; repeat (first | exact HKR.out | exact Keep.refl _ _ | apply Keep.drew | apply Keep.drewN | apply Keep.alloc))
          clear hK K
          (try simp only [List.getElem_toArray, List.getElem_cons_zero, List.getElem_cons_succ, Act.put, List.setIfInBounds_toArray, List.set_cons_zero, List.set_cons_succ])
          refine wpAnyH_ready (rs := [12]) (by kernel_rfl) (by simp) ?_
          refine AllReadyH.cons (o := _) rfl (fun K hK => ?_) AllReadyH.nil
          go_simp
          refine Calls.mono (join_row (xs := [itoaB ((k : Int) + 1), sp, itoaB gr, bay, is]) (ownsRow_one (base := 0) (Blk.new _ _ 9) (Nat.zero_le _) rfl (by unfold maxLen; omega)) (by simp) HJZ.out) ?_
          rintro e' Wj ⟨rfl, hkc⟩
          have HKRC := Lib.hid (Keep.trans (show Keep (fun _ => False) wb _ by repeat (first | exact HKR.out | exact Keep.refl _ _ | apply Keep.drew | apply Keep.drewN | apply Keep.alloc)) hkc (fun _ _ h => h))
          have HKR := HKRC
          clear HKRC hkc
          rw [show jbs [itoaB ((k : Int) + 1), sp, itoaB gr, bay, is] ⟨#[58]⟩ = jb from HJ.out]
          (try dsimp only)
          refine hK.out _ _ ?_ (fun hHeld => ?_)
          · ((try dsimp only); refine HSA.out _ ?_; repeat (first | exact HKR.out | exact Keep.refl _ _ | apply Keep.drew | apply Keep.drewN | apply Keep.alloc))
          clear hK K
          (try simp only [List.getElem_toArray, List.getElem_cons_zero, List.getElem_cons_succ, Act.put, List.setIfInBounds_toArray, List.set_cons_zero, List.set_cons_succ])
          refine wpAnyH_take (i := 13) (oi := _) (v := ?_) rfl (by kernel_rfl) (by kernel_rfl) (by kernel_rfl) (fun _ _ _ h => h) (Or.inl ⟨by rfl, ?_⟩) (by assumption) ?_
          rotate_left
          · (intro w hSw; (try dsimp only at hSw); go_simp) <;> with_reducible rfl
          (try simp only [List.getElem_toArray, List.getElem_cons_zero, List.getElem_cons_succ, Act.put, List.setIfInBounds_toArray, List.set_cons_zero, List.set_cons_succ])
          refine wpAnyH_take (i := 14) (oi := _) (v := ?_) rfl (by kernel_rfl) (by kernel_rfl) (by kernel_rfl) (fun _ _ _ h => h) (Or.inl ⟨by rfl, ?_⟩) (by assumption) ?_
          rotate_left
          · (intro w hSw; (try dsimp only at hSw); go_simp) <;> with_reducible rfl
          (try simp only [List.getElem_toArray, List.getElem_cons_zero, List.getElem_cons_succ, Act.put, List.setIfInBounds_toArray, List.set_cons_zero, List.set_cons_succ])
          refine wpAnyH_ready (rs := [15]) (by kernel_rfl) (by simp) ?_
          refine AllReadyH.cons (o := _) rfl (fun K hK => ?_) AllReadyH.nil
          go_simp
          refine hK.out _ _ ?_ (fun hHeld => ?_)
          · ((try dsimp only); refine HSA.out _ ?_; repeat (first | exact HKR.out | exact Keep.refl _ _ | apply Keep.drew | apply Keep.drewN | apply Keep.alloc))
          clear hK K
          (try simp only [List.getElem_toArray, List.getElem_cons_zero, List.getElem_cons_succ, Act.put, List.setIfInBounds_toArray, List.set_cons_zero, List.set_cons_succ])
          refine wpAnyH_done (by kernel_rfl) ?_ _
          refine NoPanic.normal ?_
          go_wp2
          go_roundg (S.lots.length - (k + 1))
          case measure => omega
          case rel => exact ⟨k + 1, rfl, by omega, by rw [HNX.out]; rfl, by go_num, HK1.out.trans HKR.out (fun _ _ h => h)⟩
    · have hje : k = S.lots.length := by omega
      subst hje
      have hjl : ((S.lots.length : Int) < (S.lots.length : Int)) = False := by simp
      go_wp2
      go_ret
      exact ⟨by rw [← HACC.out]; rfl, HK.out⟩

set_option maxHeartbeats 2000000 in
set_option maxRecDepth 100000 in
theorem text_any {w : World} {V : StV} {S : St} {m : Nat} (hG : Glob w) (h : StAt w V S) (hI : Inv m S) (hm : m ≤ 100000000) : Calls Tryz.prog 63 #[.pointer (some ⟨V.b, 0, none⟩)] w (IdxPost w (.string (textF S))) := by
  obtain ⟨no, nc, hve, hnc, _⟩ := h.rn.shape
  have HST := Lib.hid h
  have HSA : Hid (∀ W, Keep (fun _ => False) w W → W.cell? ⟨V.b, 4, none⟩ = some (.slice no S.notes.length nc)) := Lib.hid fun W hk => by
    have := (HST.out.keep hk (fun _ _ h => h)).blk.cell 4
    simp [StV.cells] at this
    rw [hve] at this
    exact this
  have hrn := h.rn
  rw [hve] at hrn
  have HRN := Lib.hid hrn
  have hnl := hI.n
  have HI := Lib.hid hI
  have HGB := Lib.hid hG
  obtain ⟨lf, hlf⟩ : ∃ lf, listF S.lots = lf := ⟨_, rfl⟩
  have HLF := Lib.hid hlf
  obtain ⟨jb, hjb⟩ : ∃ jb, jbs (lf :: S.notes) (bs [10]) = jb := ⟨_, rfl⟩
  have hjz := textF_size hI hm
  rw [hlf, hjb] at hjz
  have HJ := Lib.hid hjb
  have HJZ : Hid ((jbs (lf :: S.notes) (bs [10])).size ≤ 140737488355328) := Lib.hid (by rw [hjb]; omega)
  have hs1 : (9223372036854775807 < jb.size + 1) = False := eq_false (by omega)
  have HF := Lib.hid (show textF S = jb ++ bs [10] by unfold textF; rw [hlf, hjb])
  clear h hve hrn hI hG hlf hjb
  obtain ⟨wb, hwb⟩ : ∃ wb, w = wb := ⟨_, rfl⟩
  subst hwb
  rename World => wb
  go_enter Tryz.func63, Tryz.ntmps63
  go_wp2
  refine wp_region_noPanic ?_
  refine wp_region_held_drew (S := fun W => W.cell? ⟨V.b, 4, none⟩ = some (.slice no S.notes.length nc)) (by kernel_rfl) (HSA.out _ (Keep.refl (fun _ => False) wb).drew) (fun hHeld => ?_)
  refine wpAnyH_take (i := 0) (oi := _) (v := ?_) rfl (by kernel_rfl) (by kernel_rfl) (by kernel_rfl) (fun _ _ _ h => h) (Or.inl ⟨by rfl, ?_⟩) (by assumption) ?_
  rotate_left
  · (intro w hSw; (try dsimp only at hSw); go_simp) <;> with_reducible rfl
  (try simp only [List.getElem_toArray, List.getElem_cons_zero, List.getElem_cons_succ, Act.put, List.setIfInBounds_toArray, List.set_cons_zero, List.set_cons_succ])
  refine wpAnyH_take (i := 3) (oi := _) (v := ?_) rfl (by kernel_rfl) (by kernel_rfl) (by kernel_rfl) (fun _ _ _ h => h) (Or.inl ⟨by rfl, ?_⟩) (by assumption) ?_
  rotate_left
  · (intro w hSw; (try dsimp only at hSw); go_simp) <;> with_reducible rfl
  (try simp only [List.getElem_toArray, List.getElem_cons_zero, List.getElem_cons_succ, Act.put, List.setIfInBounds_toArray, List.set_cons_zero, List.set_cons_succ])
  refine wpAnyH_take (i := 4) (oi := _) (v := ?_) rfl (by kernel_rfl) (by kernel_rfl) (by kernel_rfl) (fun _ _ _ h => h) (Or.inl ⟨by rfl, ?_⟩) (by assumption) ?_
  rotate_left
  · (intro w hSw; (try dsimp only at hSw); go_simp) <;> with_reducible rfl
  (try simp only [List.getElem_toArray, List.getElem_cons_zero, List.getElem_cons_succ, Act.put, List.setIfInBounds_toArray, List.set_cons_zero, List.set_cons_succ])
  refine wpAnyH_take (i := 5) (oi := _) (v := ?_) rfl (by kernel_rfl) (by kernel_rfl) (by kernel_rfl) (fun _ _ _ h => h) (Or.inl ⟨by rfl, ?_⟩) (by assumption) ?_
  rotate_left
  · (intro w hSw; (try dsimp only at hSw); go_simp) <;> with_reducible rfl
  (try simp only [List.getElem_toArray, List.getElem_cons_zero, List.getElem_cons_succ, Act.put, List.setIfInBounds_toArray, List.set_cons_zero, List.set_cons_succ])
  refine wpAnyH_take (i := 6) (oi := _) (v := ?_) rfl (by kernel_rfl) (by kernel_rfl) (by kernel_rfl) (fun _ _ _ h => h) (Or.inl ⟨by rfl, ?_⟩) (by assumption) ?_
  rotate_left
  · (intro w hSw; (try dsimp only at hSw); go_simp) <;> with_reducible rfl
  (try simp only [List.getElem_toArray, List.getElem_cons_zero, List.getElem_cons_succ, Act.put, List.setIfInBounds_toArray, List.set_cons_zero, List.set_cons_succ])
  refine wpAnyH_ready (rs := [1]) (by kernel_rfl) (by simp) ?_
  refine AllReadyH.cons (o := _) rfl (fun K hK => ?_) AllReadyH.nil
  go_simp
  refine Calls.mono (list_any (HGB.out.keep (show Keep (fun _ => False) wb _ by repeat (first | exact HKR.out | exact Keep.refl _ _ | apply Keep.drew | apply Keep.drewN | apply Keep.alloc))) (HST.out.keep (show Keep (fun _ => False) wb _ by repeat (first | exact HKR.out | exact Keep.refl _ _ | apply Keep.drew | apply Keep.drewN | apply Keep.alloc)) (fun _ _ h => h)) HI.out) ?_
  rintro e' Wc ⟨rfl, hkc⟩
  have HKRC := Lib.hid (Keep.trans (show Keep (fun _ => False) wb _ by repeat (first | exact HKR.out | exact Keep.refl _ _ | apply Keep.drew | apply Keep.drewN | apply Keep.alloc)) hkc (fun _ _ h => h))
  have HKR := HKRC
  clear HKRC hkc
  rw [HLF.out]
  (try dsimp only)
  refine hK.out _ _ ?_ (fun hHeld => ?_)
  · ((try dsimp only); refine HSA.out _ ?_; repeat (first | exact HKR.out | exact Keep.refl _ _ | apply Keep.drew | apply Keep.drewN | apply Keep.alloc))
  clear hK K
  (try simp only [List.getElem_toArray, List.getElem_cons_zero, List.getElem_cons_succ, Act.put, List.setIfInBounds_toArray, List.set_cons_zero, List.set_cons_succ])
  refine wpAnyH_ready (rs := [2]) (by kernel_rfl) (by simp) ?_
  refine AllReadyH.cons (o := _) rfl (fun K hK => ?_) AllReadyH.nil
  go_simp
  refine hK.out _ _ ?_ (fun hHeld => ?_)
  · ((try dsimp only); refine HSA.out _ ?_; repeat (first | exact HKR.out | exact Keep.refl _ _ | apply Keep.drew | apply Keep.drewN | apply Keep.alloc))
  clear hK K
  (try simp only [List.getElem_toArray, List.getElem_cons_zero, List.getElem_cons_succ, Act.put, List.setIfInBounds_toArray, List.set_cons_zero, List.set_cons_succ])
  refine wpAnyH_ready (rs := [7]) (by kernel_rfl) (by simp) ?_
  refine AllReadyH.cons (o := _) rfl (fun K hK => ?_) AllReadyH.nil
  rw [if_pos (by rfl)]
  refine oper_app (base := wb.heap.size) (.tmp 5) (.tmp 9) 44 44 rfl 9 (.string ⟨#[]⟩) 1 16 Tryz.underlying44 info9 rfl (n := 1) (xs := strCells [lf]) (ownsRow_one (Blk.new Wc #[.string lf] 9) HKR.out.size rfl (by unfold maxLen; omega)) rfl (m := S.notes.length) (news := strCells S.notes) ((HRN.out.keep (HKR.out.alloc _) (fun _ _ h => h)).src Tryz.underlying44) rfl (by unfold maxLen; omega) (by omega) (by have := HKR.out.size; first | exact this | (simp; omega)) (fun v' w8 happ => ?_)
  have HOA : Hid (w8.ownsRow wb.heap.size 9 1 v' (1 + S.notes.length) (strCells (lf :: S.notes))) := Lib.hid happ.own
  have HKRC := Lib.hid (Keep.trans (show Keep (fun _ => False) wb _ by repeat (first | exact HKR.out | exact Keep.refl _ _ | apply Keep.drew | apply Keep.drewN | apply Keep.alloc)) happ.keep (fun k hk e => by have e2 : Wc.heap.size = k := Option.some.inj e; have := HKR.out.size; omega))
  have HKR := HKRC
  clear HKRC happ
  (try dsimp only)
  refine hK.out _ _ ?_ (fun hHeld => ?_)
  · ((try dsimp only); refine HSA.out _ ?_; repeat (first | exact HKR.out | exact Keep.refl _ _ | apply Keep.drew | apply Keep.drewN | apply Keep.alloc))
  clear hK K
  (try simp only [List.getElem_toArray, List.getElem_cons_zero, List.getElem_cons_succ, Act.put, List.setIfInBounds_toArray, List.set_cons_zero, List.set_cons_succ])
  refine wpAnyH_ready (rs := [8]) (by kernel_rfl) (by simp) ?_
  refine AllReadyH.cons (o := _) rfl (fun K hK => ?_) AllReadyH.nil
  go_simp
  refine Calls.mono (join_row HOA.out (by simp; omega) HJZ.out) ?_
  rintro e' Wj ⟨rfl, hkc⟩
  have HKRC := Lib.hid (Keep.trans (show Keep (fun _ => False) wb _ by repeat (first | exact HKR.out | exact Keep.refl _ _ | apply Keep.drew | apply Keep.drewN | apply Keep.alloc)) hkc (fun _ _ h => h))
  have HKR := HKRC
  clear HKRC hkc
  rw [show jbs (lf :: S.notes) ⟨#[10]⟩ = jb from HJ.out]
  (try dsimp only)
  refine hK.out _ _ ?_ (fun hHeld => ?_)
  · ((try dsimp only); refine HSA.out _ ?_; repeat (first | exact HKR.out | exact Keep.refl _ _ | apply Keep.drew | apply Keep.drewN | apply Keep.alloc))
  clear hK K
  (try simp only [List.getElem_toArray, List.getElem_cons_zero, List.getElem_cons_succ, Act.put, List.setIfInBounds_toArray, List.set_cons_zero, List.set_cons_succ])
  refine wpAnyH_take (i := 9) (oi := _) (v := ?_) rfl (by kernel_rfl) (by kernel_rfl) (by kernel_rfl) (fun _ _ _ h => h) (Or.inl ⟨by rfl, ?_⟩) (by assumption) ?_
  rotate_left
  · (intro w hSw; (try dsimp only at hSw); go_simp) <;> with_reducible rfl
  (try simp only [List.getElem_toArray, List.getElem_cons_zero, List.getElem_cons_succ, Act.put, List.setIfInBounds_toArray, List.set_cons_zero, List.set_cons_succ])
  refine wpAnyH_ready (rs := [10]) (by kernel_rfl) (by simp) ?_
  refine AllReadyH.cons (o := _) rfl (fun K hK => ?_) AllReadyH.nil
  go_simp
  refine hK.out _ _ ?_ (fun hHeld => ?_)
  · ((try dsimp only); refine HSA.out _ ?_; repeat (first | exact HKR.out | exact Keep.refl _ _ | apply Keep.drew | apply Keep.drewN | apply Keep.alloc))
  clear hK K
  (try simp only [List.getElem_toArray, List.getElem_cons_zero, List.getElem_cons_succ, Act.put, List.setIfInBounds_toArray, List.set_cons_zero, List.set_cons_succ])
  refine wpAnyH_done (by kernel_rfl) ?_ _
  refine NoPanic.normal ?_
  go_wp2
  go_ret
  exact ⟨by rw [HF.out]; rfl, HKR.out⟩

theorem state_any {base : Nat} {w : World} {H : HV} {D : Dsk} {S : St} {ls : List ByteArray} {lost : Bool} {m : Nat} (hG : Glob w) (h : HouseAt base w H D S ls lost) (hI : Inv m S) (hm : m ≤ 100000000) :
    Calls Tryz.prog 30 #[.pointer (some ⟨H.h, 0, none⟩)] w (IdxPost w (.string (textF S))) := by
  have c1 := h.blk.cell 1
  simp at c1
  have HH := Lib.hid h
  have HT := Lib.hid (text_any hG h.st hI hm)
  clear h hI hG
  go_enter Tryz.func30, Tryz.ntmps30
  go_wp2_with (first
    | (go_at_call 52; refine (hnone_any HH.out).mono ?_; rintro e w' ⟨rfl, rfl⟩)
    | (go_at_call 63; refine Calls.mono HT.out ?_; rintro e w' ⟨rfl, hk⟩; have HK := Lib.hid hk; clear hk))
  go_ret
  exact ⟨rfl, HK.out⟩
end Go.Proofs.YthdkamnclbfehaaGreatDoor

/- The law HouseReplays, walked: it returns true, whatever the bays and the lines. -/
namespace Go.Proofs.YthdkamnclbfehaaGreatDoor
set_option linter.unusedSimpArgs false
set_option linter.unusedVariables false
set_option linter.unnecessarySimpa false
open Go.RowKit

def RRel (w : World) (g : List Int) (b1 d1 b2 d2 m : Nat) (gh : Nat) (s63 : Value) (wx : World) : Prop :=
  ∃ (j : Nat) (H1 H2 : HV) (S : St) (ls : List ByteArray), gh = m - j ∧ j ≤ m ∧ s63 = .int .i64 j ∧ H1.h = b1 ∧ H1.d = d1 ∧ H2.h = b2 ∧ H2.d = d2 ∧ Two w H1 H2 (gD ls) (gD []) S (S0 g) ls [] wx ∧ Rep runF (S0 g) ls S ∧ ls.length ≤ j
def RRel2 (w : World) (g : List Int) (b1 d1 b2 d2 : Nat) (S : St) (ls : List ByteArray) (v : Value) (gh : Nat) (s91 : Value) (wx : World) : Prop :=
  ∃ (i : Nat) (H1 H2 : HV) (Si : St), gh = ls.length - i ∧ i ≤ ls.length ∧ s91 = .int .i64 i ∧ H1.h = b1 ∧ H1.d = d1 ∧ H2.h = b2 ∧ H2.d = d2 ∧ Two w H1 H2 (gD ls) (gD (ls.take i)) S Si ls (ls.take i) wx ∧ Lst wx H2 v ls ∧ Rep runF (S0 g) (ls.take i) Si ∧ Rep runF Si (ls.drop i) S

set_option maxHeartbeats 4000000 in
set_option maxRecDepth 100000 in
theorem houseReplays_any {w : World} {gv lv : Value} {g : List Int} {l : List ByteArray} (hG : Glob w) (hg : Rd w 1 gv g.length (icells g)) (hgl : g.length < 9223372036854775807) (hv : Rd w 1 lv l.length (strCells l))
    (hl : ∀ s ∈ l, s.size ≤ 140737488355328) (hln : l.length ≤ 9223372036854775807) :
    Calls Tryz.prog 8 #[gv, lv] w (IdxPost w (.bool true)) := by
  obtain ⟨lo, lc, hve, hlc, _⟩ := hv.shape
  subst hve
  obtain ⟨go_, gc, hge, hgc, _⟩ := hg.shape
  subst hge
  have H16 := Lib.hid (opened2_any hG hg (Nat.le_of_lt hgl))
  have HG := Lib.hid hG; clear hG
  have HGR := Lib.hid hg; clear hg
  have HV := Lib.hid hv; clear hv
  have HL := Lib.hid hl; clear hl
  have H162 : Hid (∀ W, Keep (fun _ => False) w W → Calls Tryz.prog 16 #[.slice go_ g.length gc] W (OpenedPost2 W (g.take 10))) := Lib.hid fun W hk => opened2_any (HG.out.keep hk) (HGR.out.keep hk (fun _ _ h => h)) (Nat.le_of_lt hgl)
  cases hb : baysB (g.take 10) with
  | false =>
    have HB := Lib.hid hb; clear hb
    by_cases h8 : g.length = 8
    · have hval : validB g = false := by
        have := HB.out
        unfold baysB at this
        rw [List.take_of_length_le (by omega), h8] at this
        simpa using this
      have HVAL := Lib.hid hval; clear hval
      have hz1 : ((g.length : Int) != 8) = false := by simp [h8]
      have H8 := Lib.hid h8; clear h8
      go_enter Tryz.func8, Tryz.ntmps8
      go_wp2_with (first
        | (go_at_call 16; refine (H162.out w1 HK1.out).mono ?_; rintro e w2 ⟨hk2, _, hbad⟩; obtain ⟨d2, rfl⟩ := hbad HB.out; have HK2 := Lib.hid (HK1.out.trans hk2 (fun _ _ h => h)); clear hk2 hbad)
        | (go_at_call 16; refine H16.out.mono ?_; rintro e w1 ⟨hk1, _, hbad⟩; obtain ⟨d1, rfl⟩ := hbad HB.out; have HK1 := Lib.hid hk1; clear hk1 hbad)
        | (go_at_call 17; have hh := rvalid_any (HGR.out.keep HK2.out (fun _ _ h => h)) hgl; rw [HVAL.out] at hh; refine Calls.mono hh ?_; clear hh; rintro e w3 ⟨rfl, q3, rfl⟩)
        | (go_at_call 13; refine Calls.mono (awake_any (HG.out.keep (HK2.out.drewN q3))) ?_; rintro e w4 ⟨rfl, hk4⟩; have HK4 := Lib.hid hk4; clear hk4))
      go_ret
      exact ⟨rfl, (HK2.out.drewN q3).trans HK4.out (fun _ _ h => h)⟩
    · have hz1 : ((g.length : Int) != 8) = true := by simp; omega
      have H8 := Lib.hid h8; clear h8
      go_enter Tryz.func8, Tryz.ntmps8
      go_wp2_with (first
        | (go_at_call 16; refine (H162.out w1 HK1.out).mono ?_; rintro e w2 ⟨hk2, _, hbad⟩; obtain ⟨d2, rfl⟩ := hbad HB.out; have HK2 := Lib.hid (HK1.out.trans hk2 (fun _ _ h => h)); clear hk2 hbad)
        | (go_at_call 16; refine H16.out.mono ?_; rintro e w1 ⟨hk1, _, hbad⟩; obtain ⟨d1, rfl⟩ := hbad HB.out; have HK1 := Lib.hid hk1; clear hk1 hbad)
        | (go_at_call 13; refine Calls.mono (awake_any (HG.out.keep HK2.out)) ?_; rintro e w4 ⟨rfl, hk4⟩; have HK4 := Lib.hid hk4; clear hk4))
      go_ret
      exact ⟨rfl, HK2.out.trans HK4.out (fun _ _ h => h)⟩
  | true =>
    have HB := Lib.hid hb; clear hb
    obtain ⟨m, hm⟩ : ∃ m, (min (l.length : Int) 60).toNat = m := ⟨_, rfl⟩
    have hml : m ≤ l.length := by omega
    have hm60 : m ≤ 60 := by omega
    have hm0 : (0 : Int) ≤ min (l.length : Int) 60 := by omega
    have hm1 : min (l.length : Int) 60 ≤ (lc : Int) := by omega
    go_enter Tryz.func8, Tryz.ntmps8
    go_wp2_with (first
      | (go_at_call 16; refine (H162.out w1 HK1.out).mono ?_; rintro e w2 ⟨hk2, hok, _⟩; obtain ⟨H2, rfl, hh2, hf2⟩ := hok HB.out; have HTWO := Lib.hid (Two.start HH1.out.1 HH1.out.2 HK1.out hh2 hf2 hk2); clear hk2 hok hh2 hf2)
      | (go_at_call 16; refine H16.out.mono ?_; rintro e w1 ⟨hk1, hok, _⟩; obtain ⟨H1, rfl, hh1, hf1⟩ := hok HB.out; have HK1 := Lib.hid hk1; have HH1 := Lib.hid (And.intro hh1 hf1); clear hk1 hok hh1 hf1))
    obtain ⟨b1, hb1⟩ : ∃ x, H1.h = x := ⟨_, rfl⟩
    obtain ⟨d1, hd1⟩ : ∃ x, H1.d = x := ⟨_, rfl⟩
    obtain ⟨b2, hb2⟩ : ∃ x, H2.h = x := ⟨_, rfl⟩
    obtain ⟨d2, hd2⟩ : ∃ x, H2.d = x := ⟨_, rfl⟩
    rw [hb1, hb2, hd1, hd2]
    have HE := Lib.hid (And.intro (And.intro hb1 hd1) (And.intro hb2 hd2)); clear hb1 hd1 hb2 hd2
    go_loopg [63] m (fun gh s55 wx => RRel w (g.take 10) b1 d1 b2 d2 m gh s55 wx)
    case atStart => exact ⟨0, H1, H2, _, _, rfl, Nat.zero_le _, rfl, HE.out.1.1, HE.out.1.2, HE.out.2.1, HE.out.2.2, HTWO.out, .nil _, Nat.le_refl _⟩
    case round =>
      obtain ⟨j, ⟨x1, y1, v1, V1, vl1⟩, ⟨x2, y2, v2, V2, vl2⟩, S, ls, rfl, hj, rfl, e1, e2, e3, e4, htwo, hrep, hlsj⟩ := hrel
      simp only at e1 e2 e3 e4
      subst e1 e2 e3 e4
      have hcat := cat_length_le hrep
      have HTW := Lib.hid htwo
      have HREP := Lib.hid hrep
      clear htwo hrep HTWO HE
      by_cases hlt : j < m
      · have hjl : ((j : Int) < (m : Int)) = True := by simp; omega
        have hjn : j < l.length := by omega
        have hrd := HV.out.keep HTW.out.keep (fun _ _ h => h)
        obtain ⟨b, o, hao, hcell⟩ : ∃ b o, lo = some ⟨b, o, none⟩ ∧ wr.cell? ⟨b, o + j, none⟩ = some (.string (l.getD j ByteArray.empty)) := by
          rcases hrd.2.2 with ⟨h, h'⟩ | ⟨b, o, c, h, _, _, hx⟩
          · omega
          · injection h with h1 h2 h3
            exact ⟨b, o, h1, hx _ _ (strCells_get l j hjn)⟩
        subst hao
        have hsz := HL.out (l.getD j ByteArray.empty) (by simp [List.getD, List.getElem?_eq_getElem hjn])
        obtain ⟨s, hs⟩ : ∃ s, l.getD j ByteArray.empty = s := ⟨_, rfl⟩
        rw [hs] at hcell hsz
        clear hs hrd
        have hstep := calm_step (S := S) (ls := ls) (by omega) s
        have HIN := Lib.hid (rep_inv (baysB_8 HB.out) HREP.out)
        obtain ⟨R, hR⟩ : ∃ R, doF runF S s = R := ⟨_, rfl⟩
        rw [hR] at hstep
        have HR := Lib.hid hR; clear hR
        obtain ⟨re, rs, ro⟩ := R
        obtain ⟨T, hT⟩ : ∃ T, textF S = T := ⟨_, rfl⟩
        have HT := Lib.hid hT; clear hT
        by_cases he : re = 0
        · subst he
          rw [if_pos rfl] at hstep
          have HST := Lib.hid hstep; clear hstep
          go_wp2_with (first
            | (go_at_call 30; have hh := state_any (HG.out.keep HTW.out.keep) HTW.out.h1 HIN.out (by omega); rw [HT.out] at hh; refine Calls.mono hh ?_; clear hh; rintro e w4 ⟨rfl, hk4⟩; have HTW0 := Lib.hid (HTW.out.idle hk4); clear hk4)
            | (go_at_call 20; have hh := hdo_any (F := runF) (HG.out.keep HTW0.out.keep) HTW0.out.keep.size HTW0.out.h1 (HIN.out.small (by omega)) (by omega) (by omega) (run_ok HIN.out (by omega) s); rw [HST.out] at hh; refine Calls.mono hh ?_; clear hh; rintro e w5 ⟨⟨x3, y3, v3, V3, vl3⟩, rfl, h3, hc3⟩; obtain rfl : x1 = x3 := hc3.h.symm; obtain rfl : y1 = y3 := hc3.d.symm; have HTW1 := Lib.hid (HTW0.out.step h3 hc3); clear h3 hc3))
          go_roundg (m - (j + 1))
          case measure => omega
          case rel => exact ⟨j + 1, ⟨x1, y1, v3, V3, vl3⟩, ⟨x2, y2, v2, V2, vl2⟩, rs, ls ++ [s], rfl, by omega, by go_num, rfl, rfl, rfl, rfl, HTW1.out, by have h := HREP.out.snoc (s := s) (by rw [HR.out]); rw [HR.out] at h; exact h, by simp; omega⟩
        · rw [if_neg he, show bs [] = (⟨#[]⟩ : ByteArray) from rfl] at hstep
          have he2 : (re != 0) = true := by simp [he]
          have HST := Lib.hid hstep; clear hstep
          go_wp2_with (first
            | (go_at_call 30; have hh := state_any (HG.out.keep HTW1.out.keep) HTW1.out.h1 HIN.out (by omega); rw [HT.out] at hh; refine Calls.mono hh ?_; clear hh; rintro e w6 ⟨rfl, hk6⟩; have HTW2 := Lib.hid (HTW1.out.idle hk6); clear hk6)
            | (go_at_call 30; have hh := state_any (HG.out.keep HTW.out.keep) HTW.out.h1 HIN.out (by omega); rw [HT.out] at hh; refine Calls.mono hh ?_; clear hh; rintro e w4 ⟨rfl, hk4⟩; have HTW0 := Lib.hid (HTW.out.idle hk4); clear hk4)
            | (go_at_call 20; have hh := hdo_any (F := runF) (HG.out.keep HTW0.out.keep) HTW0.out.keep.size HTW0.out.h1 (HIN.out.small (by omega)) (by omega) (by omega) (run_ok HIN.out (by omega) s); rw [HST.out] at hh; refine Calls.mono hh ?_; clear hh; rintro e w5 ⟨⟨x3, y3, v3, V3, vl3⟩, rfl, h3, hc3⟩; obtain rfl : x1 = x3 := hc3.h.symm; obtain rfl : y1 = y3 := hc3.d.symm; have HTW1 := Lib.hid (HTW0.out.step h3 hc3); clear h3 hc3))
          go_roundg (m - (j + 1))
          case measure => omega
          case rel => exact ⟨j + 1, ⟨x1, y1, v3, V3, vl3⟩, ⟨x2, y2, v2, V2, vl2⟩, S, ls, rfl, by omega, by go_num, rfl, rfl, rfl, rfl, HTW2.out, HREP.out, by omega⟩
      · have hje : j = m := by omega
        subst hje
        have hjl : ((j : Int) < (j : Int)) = False := by simp
        go_wp2_with (first
          | (go_at_call 19; have hh := journal_any HTW.out.h1 (by omega); refine Calls.mono hh ?_; clear hh; rintro e w5 ⟨v5, rfl, ho5, hk5⟩; have HLS5 := Lib.hid (Lst.new HTW.out.h2 ho5); obtain ⟨ao, cap, rfl, _⟩ := ownsRow_shape ho5; have HTW5 := Lib.hid (HTW.out.idle hk5); clear ho5 hk5))
        go_loopg [91] ls.length (fun gh s91 wx => RRel2 w (g.take 10) x1 y1 x2 y2 S ls (.slice ao ls.length cap) gh s91 wx)
        case atStart => exact ⟨0, ⟨x1, y1, v1, V1, vl1⟩, ⟨x2, y2, v2, V2, vl2⟩, S0 (g.take 10), rfl, Nat.zero_le _, rfl, rfl, rfl, rfl, rfl, HTW5.out, HLS5.out, .nil _, HREP.out⟩
        case round =>
          obtain ⟨i, ⟨x3, y3, v3, V3, vl3⟩, ⟨x4, y4, v4, V4, vl4⟩, Si, rfl, hi, rfl, e1, e2, e3, e4, htwo, hlst, hr1, hr2⟩ := hrel
          simp only at e1 e2 e3 e4
          subst e1 e2 e3 e4
          have HTW6 := Lib.hid htwo
          have HLS6 := Lib.hid hlst
          have HR1 := Lib.hid hr1
          have HR2 := Lib.hid hr2
          have HIN := Lib.hid (rep_inv (baysB_8 HB.out) hr1)
          have hct := cat_length_le hr1
          have htl : (ls.take i).length ≤ 60 := by rw [List.length_take]; omega
          clear htwo hlst hr1 hr2
          by_cases hil : i < ls.length
          · have hjl2 : ((i : Int) < (ls.length : Int)) = True := by simp; omega
            obtain ⟨b, o, hao, hcell⟩ : ∃ b o, ao = some ⟨b, o, none⟩ ∧ wr.cell? ⟨b, o + i, none⟩ = some (.string (ls.getD i ByteArray.empty)) := by
              rcases HLS6.out.rd.2.2 with ⟨h, h'⟩ | ⟨b, o, c, h, _, _, hx⟩
              · omega
              · injection h with h1 h2 h3
                exact ⟨b, o, h1, hx _ _ (strCells_get ls i hil)⟩
            subst hao
            have hsz := rep_size HREP.out (ls.getD i ByteArray.empty) (by simp [List.getD, List.getElem?_eq_getElem hil])
            have hnx : ls.take (i + 1) = ls.take i ++ [ls.getD i ByteArray.empty] := by rw [List.take_add_one]; simp [List.getD, List.getElem?_eq_getElem hil]
            have hdr : ls.drop i = ls.getD i ByteArray.empty :: ls.drop (i + 1) := by rw [List.drop_eq_getElem_cons hil]; simp [List.getD, List.getElem?_eq_getElem hil]
            obtain ⟨s, hs⟩ : ∃ s, ls.getD i ByteArray.empty = s := ⟨_, rfl⟩
            rw [hs] at hcell hsz hnx hdr
            have hr2 := HR2.out
            rw [hdr] at hr2
            have hstep := calm_step (S := Si) (ls := ls.take i) (by omega) s
            cases hr2 with
            | cons he t =>
              rw [if_pos he, ← hnx] at hstep
              have HST := Lib.hid hstep
              have HR3 := Lib.hid t
              have HR4 := Lib.hid (hnx ▸ HR1.out.snoc he : Rep runF (S0 (g.take 10)) (ls.take (i + 1)) (doF runF Si s).st)
              clear hs hnx hdr hstep t he
              go_wp2_with (first
                | (go_at_call 20; have hh := hdo_any (F := runF) (HG.out.keep HTW6.out.keep) HTW6.out.keep.size HTW6.out.h2 (HIN.out.small (by omega)) (by omega) (by omega) (run_ok HIN.out (by omega) s); rw [HST.out] at hh; refine Calls.mono hh ?_; clear hh; rintro e w7 ⟨⟨x5, y5, v7, V7, vl7⟩, rfl, h7, hc7⟩; obtain rfl : x4 = x5 := hc7.h.symm; obtain rfl : y4 = y5 := hc7.d.symm; have HTW7 := Lib.hid (HTW6.out.symm.step h7 hc7).symm; have HLS7 := Lib.hid (HLS6.out.step hc7); clear h7 hc7))
              go_roundg (ls.length - (i + 1))
              case measure => omega
              case rel => exact ⟨i + 1, ⟨x3, y3, v3, V3, vl3⟩, ⟨x4, y4, v7, V7, vl7⟩, (doF runF Si s).st, rfl, by omega, by go_num, rfl, rfl, rfl, rfl, HTW7.out, HLS7.out, HR4.out, HR3.out⟩
          · have hie : i = ls.length := by omega
            have heq : Si = S := by
              have hr2 := HR2.out
              rw [List.drop_of_length_le (by omega)] at hr2
              cases hr2; rfl
            subst heq
            subst hie
            have hjl2 : ((ls.length : Int) < (ls.length : Int)) = False := by simp
            have HTW8 : Hid (Two w ⟨x3, y3, v3, V3, vl3⟩ ⟨x4, y4, v4, V4, vl4⟩ (gD ls) (gD ls) Si Si ls ls wr) := Lib.hid (by have h := HTW6.out; rw [List.take_length] at h; exact h)
            obtain ⟨T, hT⟩ : ∃ T, textF Si = T := ⟨_, rfl⟩
            have HT := Lib.hid hT; clear hT
            go_wp2_with (first
              | (go_at_call 30; have hh := state_any (HG.out.keep HTW9.out.keep) HTW9.out.h2 HIN.out (by omega); rw [HT.out] at hh; refine Calls.mono hh ?_; clear hh; rintro e w10 ⟨rfl, hk10⟩; have HTW10 := Lib.hid (HTW9.out.idle hk10); clear hk10)
              | (go_at_call 30; have hh := state_any (HG.out.keep HTW8.out.keep) HTW8.out.h1 HIN.out (by omega); rw [HT.out] at hh; refine Calls.mono hh ?_; clear hh; rintro e w9 ⟨rfl, hk9⟩; have HTW9 := Lib.hid (HTW8.out.idle hk9); clear hk9)
              | (go_at_call 19; have hh := journal_any HTW11.out.h2 (by omega); refine Calls.mono hh ?_; clear hh; rintro e w12 ⟨v12, rfl, ho12, hk12⟩; have HRD12 := Lib.hid (ownsRow_rd ho12 (strCells_one ls)); have HTW12 := Lib.hid (HTW11.out.idle hk12); have HRD112 := Lib.hid (HRD11.out.keep hk12 (fun _ _ h => h)); clear ho12 hk12)
              | (go_at_call 19; have hh := journal_any HTW10.out.h1 (by omega); refine Calls.mono hh ?_; clear hh; rintro e w11 ⟨v11, rfl, ho11, hk11⟩; have HRD11 := Lib.hid (ownsRow_rd ho11 (strCells_one ls)); have HTW11 := Lib.hid (HTW10.out.idle hk11); clear ho11 hk11)
              | (go_at_call 21; have hh := eqS_any HRD112.out HRD12.out (by omega); rw [show eqL ls ls = true from decide_eq_true rfl] at hh; refine Calls.mono hh ?_; clear hh; rintro e w13 ⟨rfl, q13, rfl⟩)
              | (go_at_call 13; refine Calls.mono (awake_any (HG.out.keep (HTW12.out.keep.drewN q13))) ?_; rintro e w14 ⟨rfl, hk14⟩; have HK14 := Lib.hid hk14; clear hk14))
            go_ret
            exact ⟨rfl, (HTW12.out.keep.drewN q13).trans HK14.out (fun _ _ h => h)⟩
end Go.Proofs.YthdkamnclbfehaaGreatDoor
