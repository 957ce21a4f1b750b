/- house.state.list, text; House.State. -/
import Derived.Test.YteokloipniiakacGreatDoorBM23
import Derived.Test.YteokloipniiakacGreatDoorBM22
import Derived.Test.YteokloipniiakacGreatDoorBM10
import Derived.Deep.LoopGhost
import Derived.Deep.DeepCutAuto

/- house.state.list, text; House.State. -/
namespace Go.Proofs.YteokloipniiakacGreatDoor
set_option linter.unusedSimpArgs false
set_option linter.unusedVariables false
set_option linter.unnecessarySimpa false
open Go.RowKit

def LsRel (w : World) (l : List Lot) (gh : Nat) (s3 s13 : Value) (wx : World) : Prop :=
  ∃ k : Nat, gh = l.length - k ∧ k ≤ l.length ∧ s3 = .string (listN l k) ∧ s13 = .int .i64 k ∧ Keep (fun _ => False) w wx

set_option maxHeartbeats 2000000 in
set_option maxRecDepth 100000 in
theorem list_any {w : World} {V : StV} {S : St} {m : Nat} (hG : Glob w) (h : StAt w V S) (hI : Inv m S) : Calls Tryz.prog 43 #[.pointer (some ⟨V.b, 0, none⟩)] w (IdxPost w (.string (listF S.lots))) := by
  obtain ⟨lo, lc, hve, hlc, _⟩ := h.rl.shape
  have c1 := h.blk.cell 1
  simp [StV.cells] at c1
  rw [hve] at c1
  have hrl := h.rl
  rw [hve] at hrl
  have hl20 := hI.l
  have HRL := Lib.hid hrl
  have HI := Lib.hid hI
  have HG := Lib.hid hG
  clear h hve hrl hI hG
  go_enter Tryz.func43, Tryz.ntmps43
  go_wp2
  go_loopg [3, 13] S.lots.length (fun gh s3 s13 wx => LsRel w S.lots gh s3 s13 wx)
  case atStart => exact ⟨0, rfl, Nat.zero_le _, rfl, rfl, Keep.refl _ _⟩
  case round =>
    obtain ⟨k, rfl, hk, rfl, rfl, hkw⟩ := hrel
    have HK := Lib.hid hkw; clear hkw
    obtain ⟨acc, hacc⟩ : ∃ acc, listN S.lots k = acc := ⟨_, rfl⟩
    have hasz := listN_size HI.out.lo k hk (by omega)
    rw [hacc] at hasz
    rw [hacc]
    have HACC := Lib.hid hacc; clear hacc
    by_cases hlt : k < S.lots.length
    · have hjl : ((k : Int) < (S.lots.length : Int)) = True := by simp; omega
      have hrd := HRL.out.keep HK.out (fun _ _ h => h)
      obtain ⟨b, o, hao, hcell⟩ : ∃ b o, lo = some ⟨b, o, none⟩ ∧ ∀ i, i < 4 → wr.cell? ⟨b, o + (k * 4 + i), none⟩ = (lotCell S.lots[k])[i]? := by
        rcases hrd.2.2 with ⟨h, h'⟩ | ⟨b, o, c, h, _, _, hx⟩
        · omega
        · injection h with h1 h2 h3
          refine ⟨b, o, h1, fun i hi => ?_⟩
          have e := lotCells_get S.lots k i hlt hi
          have : ∃ u, (lotCell S.lots[k])[i]? = some u := ⟨(lotCell S.lots[k])[i]'(by simp [lotCell]; omega), List.getElem?_eq_getElem _⟩
          obtain ⟨u, hu⟩ := this
          rw [hu]
          exact hx _ u (e.trans hu)
      subst hao
      have hok := HI.out.lo S.lots[k] (by simp)
      obtain ⟨A, hA⟩ : ∃ A, S.lots[k] = A := ⟨_, rfl⟩
      have hnext : listN S.lots (k + 1) = acc ++ (bs [32] ++ lotS k A) := by
        simp only [listN, HACC.out]
        rw [show S.lots.getD k ⟨bs [], 0, 0, false⟩ = A by rw [← hA]; simp [List.getD, List.getElem?_eq_getElem hlt]]
      rw [hA] at hcell hok
      obtain ⟨sp, gr, by_, cl⟩ := A
      have c0 := hcell 0 (by omega)
      have c1 := hcell 1 (by omega)
      have c2 := hcell 2 (by omega)
      have c3 := hcell 3 (by omega)
      simp [lotCell] at c0 c1 c2 c3
      simp only [← Nat.add_assoc] at c1 c2 c3
      have HGR := Lib.hid hok.g
      obtain ⟨bay, hbay⟩ : ∃ s, bayS ⟨sp, gr, by_, cl⟩ = s := ⟨_, rfl⟩
      obtain ⟨is, his⟩ : ∃ s, isS ⟨sp, gr, by_, cl⟩ = s := ⟨_, rfl⟩
      obtain ⟨jb, hjb⟩ : ∃ s, lotS k ⟨sp, gr, by_, cl⟩ = s := ⟨_, rfl⟩
      have hjz := lotS_size hok (i := k) (by omega)
      have hby := hok.b
      simp only at hby
      rw [hjb] at hjz hnext
      have hj2 : jbs [itoaB ((k : Int) + 1), sp, itoaB gr, bay, is] (bs [58]) = jb := by rw [← hjb, ← hbay, ← his]; rfl
      have HJ := Lib.hid hj2
      have HJZ : Hid ((jbs [itoaB ((k : Int) + 1), sp, itoaB gr, bay, is] (bs [58])).size ≤ 140737488355328) := Lib.hid (by rw [hj2]; omega)
      have HNX := Lib.hid hnext
      have HBAY := Lib.hid hbay
      have HIS := Lib.hid his
      have hs1 : (9223372036854775807 < 1 + jb.size) = False := eq_false (by omega)
      have hs2 : (9223372036854775807 < acc.size + (1 + jb.size)) = False := eq_false (by omega)
      clear hcell hA hrd hok hj2 hjb hnext hbay his
      have HB0 := Lib.hid (Blk.new wr #[.string sp, .int .i64 gr, .int .i64 by_, .bool cl] 102)
      have HK0 := Lib.hid (HK.out.alloc (.cells #[.string sp, .int .i64 gr, .int .i64 by_, .bool cl] 102))
      go_upto_if 20 with fail
      clear c0 c1 c2 c3
      go_cut [6] (fun s6 wx => s6 = .string bay ∧ Blk wx wr.heap.size #[.string sp, .int .i64 gr, .int .i64 by_, .bool cl] 102 ∧ Keep (fun _ => False) w wx)
      case first =>
        have c2 := HB0.out.cell 2
        simp at c2
        by_cases hb0 : 0 ≤ by_
        · have hbt : ((0 : Int) ≤ by_) = True := eq_true hb0
          have hbs : bay = itoaB by_ := by rw [← HBAY.out]; unfold bayS; rw [if_pos (by exact hb0)]
          have HBS := Lib.hid hbs; clear hbs
          go_wp2_with (go_at_call 38; refine Calls.mono (itoa_any (HG.out.keep HK0.out) (by omega) (by omega)) ?_; rintro e w2 ⟨rfl, hk2⟩; have HK2 := Lib.hid hk2; clear hk2)
          go_meet
          exact ⟨by rw [HBS.out], HB0.out.keep HK2.out (fun h => h), HK0.out.trans HK2.out (fun _ _ h => h)⟩
        · have hbt : ((0 : Int) ≤ by_) = False := eq_false hb0
          have hbs : bay = bs [45] := by rw [← HBAY.out]; unfold bayS; rw [if_neg (by exact hb0)]
          have HBS := Lib.hid hbs; clear hbs
          go_wp2
          go_meet
          exact ⟨by rw [HBS.out]; rfl, HB0.out, HK0.out⟩
      case rest =>
        obtain ⟨rfl, hb1, hk1⟩ := hcut
        have HB1 := Lib.hid hb1
        have HK1 := Lib.hid hk1
        clear hb1 hk1
        have c0 := HB1.out.cell 0
        have c1 := HB1.out.cell 1
        have c3 := HB1.out.cell 3
        simp at c0 c1 c3
        obtain ⟨wb, hwb⟩ : ∃ wb, wb = wc := ⟨_, rfl⟩
        go_upto_if 25 with fail
        go_cut [7] (fun s7 wx => s7 = .string is ∧ wb = wx)
        case first =>
          cases hcl : cl with
          | true =>
            subst hcl
            have hbs : is = bs [99, 108, 111, 115, 101, 100] := by rw [← HIS.out]; rfl
            have HBS := Lib.hid hbs; clear hbs
            go_wp2
            go_meet
            exact ⟨by rw [HBS.out]; rfl, hwb⟩
          | false =>
            subst hcl
            have hbs : is = bs [111, 112, 101, 110] := by rw [← HIS.out]; rfl
            have HBS := Lib.hid hbs; clear hbs
            go_wp2
            go_meet
            exact ⟨by rw [HBS.out]; rfl, hwb⟩
        case rest =>
          subst hwb
          obtain ⟨rfl, rfl⟩ := hcut
          have HGB := Lib.hid (HG.out.keep HK1.out)
          have HSA : Hid (∀ W, Keep (fun _ => False) wb W → (W.cell? ⟨wr.heap.size, 0, none⟩ = some (.string sp) ∧ W.cell? ⟨wr.heap.size, 1, none⟩ = some (.int .i64 gr))) := Lib.hid fun W hk => by
            have h1 := (HB1.out.keep hk (fun h => h)).cell 0
            have h2 := (HB1.out.keep hk (fun h => h)).cell 1
            simp at h1 h2
            exact ⟨h1, h2⟩
          clear c3
          have hwk : IntKind.i64.wrap ((k : Int) + 1) = (k : Int) + 1 := IntWalk.i64_in _ (by omega)
          go_upto_region 10 with fail
          refine wp_region_noPanic ?_
          refine wp_region_held_drew (S := fun W => W.cell? ⟨wr.heap.size, 0, none⟩ = some (.string sp) ∧ W.cell? ⟨wr.heap.size, 1, none⟩ = some (.int .i64 gr)) (by kernel_rfl) (HSA.out _ (Keep.refl (fun _ => False) wb).drew) (fun hHeld => ?_)
          refine wpAnyH_take (i := 0) (oi := _) (v := ?_) rfl (by kernel_rfl) (by kernel_rfl) (by kernel_rfl) (fun _ _ _ h => h) (Or.inl ⟨by rfl, ?_⟩) (by assumption) ?_
          rotate_left
          · (intro w hSw; (try dsimp only at hSw); go_simp) <;> with_reducible rfl
          (try simp only [List.getElem_toArray, List.getElem_cons_zero, List.getElem_cons_succ, Act.put, List.setIfInBounds_toArray, List.set_cons_zero, List.set_cons_succ])
          refine wpAnyH_take (i := 1) (oi := _) (v := ?_) rfl (by kernel_rfl) (by kernel_rfl) (by kernel_rfl) (fun _ _ _ h => h) (Or.inl ⟨by rfl, ?_⟩) (by assumption) ?_
          rotate_left
          · (intro w hSw; (try dsimp only at hSw); go_simp) <;> with_reducible rfl
          (try simp only [List.getElem_toArray, List.getElem_cons_zero, List.getElem_cons_succ, Act.put, List.setIfInBounds_toArray, List.set_cons_zero, List.set_cons_succ])
          refine wpAnyH_take (i := 2) (oi := _) (v := ?_) rfl (by kernel_rfl) (by kernel_rfl) (by kernel_rfl) (fun _ _ _ h => h) (Or.inl ⟨by rfl, ?_⟩) (by assumption) ?_
          rotate_left
          · (intro w hSw; (try dsimp only at hSw); go_simp) <;> with_reducible rfl
          (try simp only [List.getElem_toArray, List.getElem_cons_zero, List.getElem_cons_succ, Act.put, List.setIfInBounds_toArray, List.set_cons_zero, List.set_cons_succ])
          refine wpAnyH_take (i := 4) (oi := _) (v := ?_) rfl (by kernel_rfl) (by kernel_rfl) (by kernel_rfl) (fun _ _ _ h => h) (Or.inl ⟨by rfl, ?_⟩) (by assumption) ?_
          rotate_left
          · (intro w hSw; (try dsimp only at hSw); go_simp) <;> with_reducible rfl
          (try simp only [List.getElem_toArray, List.getElem_cons_zero, List.getElem_cons_succ, Act.put, List.setIfInBounds_toArray, List.set_cons_zero, List.set_cons_succ])
          refine wpAnyH_take (i := 5) (oi := _) (v := ?_) rfl (by kernel_rfl) (by kernel_rfl) (by kernel_rfl) (fun _ _ _ h => h) (Or.inl ⟨by rfl, ?_⟩) (by assumption) ?_
          rotate_left
          · (intro w hSw; (try dsimp only at hSw); go_simp) <;> with_reducible rfl
          (try simp only [List.getElem_toArray, List.getElem_cons_zero, List.getElem_cons_succ, Act.put, List.setIfInBounds_toArray, List.set_cons_zero, List.set_cons_succ])
          refine wpAnyH_take (i := 6) (oi := _) (v := ?_) rfl (by kernel_rfl) (by kernel_rfl) (by kernel_rfl) (fun _ _ _ h => h) (Or.inl ⟨by rfl, ?_⟩) (by assumption) ?_
          rotate_left
          · (intro w hSw; (try dsimp only at hSw); go_simp) <;> with_reducible rfl
          (try simp only [List.getElem_toArray, List.getElem_cons_zero, List.getElem_cons_succ, Act.put, List.setIfInBounds_toArray, List.set_cons_zero, List.set_cons_succ])
          refine wpAnyH_take (i := 7) (oi := _) (v := ?_) rfl (by kernel_rfl) (by kernel_rfl) (by kernel_rfl) (fun _ _ _ h => h) (Or.inl ⟨by rfl, ?_⟩) (by assumption) ?_
          rotate_left
          · (intro w hSw; (try dsimp only at hSw); go_simp) <;> with_reducible rfl
          (try simp only [List.getElem_toArray, List.getElem_cons_zero, List.getElem_cons_succ, Act.put, List.setIfInBounds_toArray, List.set_cons_zero, List.set_cons_succ])
          refine wpAnyH_take (i := 9) (oi := _) (v := ?_) rfl (by kernel_rfl) (by kernel_rfl) (by kernel_rfl) (fun _ _ _ h => h) (Or.inl ⟨by rfl, ?_⟩) (by assumption) ?_
          rotate_left
          · (intro w hSw; (try dsimp only at hSw); go_simp) <;> with_reducible rfl
          (try simp only [List.getElem_toArray, List.getElem_cons_zero, List.getElem_cons_succ, Act.put, List.setIfInBounds_toArray, List.set_cons_zero, List.set_cons_succ])
          refine wpAnyH_take (i := 10) (oi := _) (v := ?_) rfl (by kernel_rfl) (by kernel_rfl) (by kernel_rfl) (fun _ _ _ h => h) (Or.inl ⟨by rfl, ?_⟩) (by assumption) ?_
          rotate_left
          · (intro w hSw; (try dsimp only at hSw); go_simp) <;> with_reducible rfl
          (try simp only [List.getElem_toArray, List.getElem_cons_zero, List.getElem_cons_succ, Act.put, List.setIfInBounds_toArray, List.set_cons_zero, List.set_cons_succ])
          refine wpAnyH_ready (rs := [3]) (by kernel_rfl) (by simp) ?_
          refine AllReadyH.cons (o := _) rfl (fun K hK => ?_) AllReadyH.nil
          go_simp
          refine Calls.mono (itoa_any (HGB.out.keep (show Keep (fun _ => False) wb _ by repeat (first | exact HKR.out | exact Keep.refl _ _ | apply Keep.drew | apply Keep.drewN | apply Keep.alloc))) (by omega) (by omega)) ?_
          rintro e' Wc ⟨rfl, hkc⟩
          have HKRC := Lib.hid (Keep.trans (show Keep (fun _ => False) wb _ by repeat (first | exact HKR.out | exact Keep.refl _ _ | apply Keep.drew | apply Keep.drewN | apply Keep.alloc)) hkc (fun _ _ h => h))
          have HKR := HKRC
          clear HKRC hkc
          (try dsimp only)
          refine hK.out _ _ ?_ (fun hHeld => ?_)
          · ((try dsimp only); refine HSA.out _ ?_; repeat (first | exact HKR.out | exact Keep.refl _ _ | apply Keep.drew | apply Keep.drewN | apply Keep.alloc))
          clear hK K
          (try simp only [List.getElem_toArray, List.getElem_cons_zero, List.getElem_cons_succ, Act.put, List.setIfInBounds_toArray, List.set_cons_zero, List.set_cons_succ])
          refine wpAnyH_ready (rs := [8]) (by kernel_rfl) (by simp) ?_
          refine AllReadyH.cons (o := _) rfl (fun K hK => ?_) AllReadyH.nil
          go_simp
          refine Calls.mono (itoa_any (HGB.out.keep (show Keep (fun _ => False) wb _ by repeat (first | exact HKR.out | exact Keep.refl _ _ | apply Keep.drew | apply Keep.drewN | apply Keep.alloc))) HGR.out.1 HGR.out.2) ?_
          rintro e' Wc ⟨rfl, hkc⟩
          have HKRC := Lib.hid (Keep.trans (show Keep (fun _ => False) wb _ by repeat (first | exact HKR.out | exact Keep.refl _ _ | apply Keep.drew | apply Keep.drewN | apply Keep.alloc)) hkc (fun _ _ h => h))
          have HKR := HKRC
          clear HKRC hkc
          (try dsimp only)
          refine hK.out _ _ ?_ (fun hHeld => ?_)
          · ((try dsimp only); refine HSA.out _ ?_; repeat (first | exact HKR.out | exact Keep.refl _ _ | apply Keep.drew | apply Keep.drewN | apply Keep.alloc))
          clear hK K
          (try simp only [List.getElem_toArray, List.getElem_cons_zero, List.getElem_cons_succ, Act.put, List.setIfInBounds_toArray, List.set_cons_zero, List.set_cons_succ])
          refine wpAnyH_ready (rs := [11]) (by kernel_rfl) (by simp) ?_
          refine AllReadyH.cons (o := _) rfl (fun K hK => ?_) AllReadyH.nil
          go_simp
          refine hK.out _ _ ?_ (fun hHeld => ?_)
          · ((try dsimp only); refine HSA.out _ ?_; repeat (first | exact HKR.out | exact Keep.refl _ _ | apply Keep.drew | apply Keep.drewN | apply Keep.alloc))
          clear hK K
          (try simp only [List.getElem_toArray, List.getElem_cons_zero, List.getElem_cons_succ, Act.put, List.setIfInBounds_toArray, List.set_cons_zero, List.set_cons_succ])
          refine wpAnyH_ready (rs := [12]) (by kernel_rfl) (by simp) ?_
          refine AllReadyH.cons (o := _) rfl (fun K hK => ?_) AllReadyH.nil
          go_simp
          refine Calls.mono (join_row (xs := [itoaB ((k : Int) + 1), sp, itoaB gr, bay, is]) (ownsRow_one (base := 0) (Blk.new _ _ 9) (Nat.zero_le _) rfl (by unfold maxLen; omega)) (by simp) HJZ.out) ?_
          rintro e' Wj ⟨rfl, hkc⟩
          have HKRC := Lib.hid (Keep.trans (show Keep (fun _ => False) wb _ by repeat (first | exact HKR.out | exact Keep.refl _ _ | apply Keep.drew | apply Keep.drewN | apply Keep.alloc)) hkc (fun _ _ h => h))
          have HKR := HKRC
          clear HKRC hkc
          rw [show jbs [itoaB ((k : Int) + 1), sp, itoaB gr, bay, is] ⟨#[58]⟩ = jb from HJ.out]
          (try dsimp only)
          refine hK.out _ _ ?_ (fun hHeld => ?_)
          · ((try dsimp only); refine HSA.out _ ?_; repeat (first | exact HKR.out | exact Keep.refl _ _ | apply Keep.drew | apply Keep.drewN | apply Keep.alloc))
          clear hK K
          (try simp only [List.getElem_toArray, List.getElem_cons_zero, List.getElem_cons_succ, Act.put, List.setIfInBounds_toArray, List.set_cons_zero, List.set_cons_succ])
          refine wpAnyH_take (i := 13) (oi := _) (v := ?_) rfl (by kernel_rfl) (by kernel_rfl) (by kernel_rfl) (fun _ _ _ h => h) (Or.inl ⟨by rfl, ?_⟩) (by assumption) ?_
          rotate_left
          · (intro w hSw; (try dsimp only at hSw); go_simp) <;> with_reducible rfl
          (try simp only [List.getElem_toArray, List.getElem_cons_zero, List.getElem_cons_succ, Act.put, List.setIfInBounds_toArray, List.set_cons_zero, List.set_cons_succ])
          refine wpAnyH_take (i := 14) (oi := _) (v := ?_) rfl (by kernel_rfl) (by kernel_rfl) (by kernel_rfl) (fun _ _ _ h => h) (Or.inl ⟨by rfl, ?_⟩) (by assumption) ?_
          rotate_left
          · (intro w hSw; (try dsimp only at hSw); go_simp) <;> with_reducible rfl
          (try simp only [List.getElem_toArray, List.getElem_cons_zero, List.getElem_cons_succ, Act.put, List.setIfInBounds_toArray, List.set_cons_zero, List.set_cons_succ])
          refine wpAnyH_ready (rs := [15]) (by kernel_rfl) (by simp) ?_
          refine AllReadyH.cons (o := _) rfl (fun K hK => ?_) AllReadyH.nil
          go_simp
          refine hK.out _ _ ?_ (fun hHeld => ?_)
          · ((try dsimp only); refine HSA.out _ ?_; repeat (first | exact HKR.out | exact Keep.refl _ _ | apply Keep.drew | apply Keep.drewN | apply Keep.alloc))
          clear hK K
          (try simp only [List.getElem_toArray, List.getElem_cons_zero, List.getElem_cons_succ, Act.put, List.setIfInBounds_toArray, List.set_cons_zero, List.set_cons_succ])
          refine wpAnyH_done (by kernel_rfl) ?_ _
          refine NoPanic.normal ?_
          go_wp2
          go_roundg (S.lots.length - (k + 1))
          case measure => omega
          case rel => exact ⟨k + 1, rfl, by omega, by rw [HNX.out]; rfl, by go_num, HK1.out.trans HKR.out (fun _ _ h => h)⟩
    · have hje : k = S.lots.length := by omega
      subst hje
      have hjl : ((S.lots.length : Int) < (S.lots.length : Int)) = False := by simp
      go_wp2
      go_ret
      exact ⟨by rw [← HACC.out]; rfl, HK.out⟩

end Go.Proofs.YteokloipniiakacGreatDoor

/- House.Ask at the question for all lots. -/
namespace Go.Proofs.YteokloipniiakacGreatDoor
set_option linter.unusedSimpArgs false
set_option linter.unusedVariables false
set_option linter.unnecessarySimpa false
open Go.RowKit

def lotsB : ByteArray := ⟨#[108, 111, 116, 115]⟩
theorem lotsB_line : isLineB lotsB = true := by kernel_rfl
theorem lotsB_is : (lotsB.toList == [108, 111, 116, 115]) = true := by kernel_rfl
set_option maxHeartbeats 1000000 in
set_option maxRecDepth 100000 in
theorem reply_lots {w : World} {V : StV} {S : St} {m : Nat} (hG : Glob w) (h : StAt w V S) (hI : Inv m S) : Calls Tryz.prog 31 #[.pointer (some ⟨V.b, 0, none⟩), .string lotsB] w (IdxPost w (.tuple #[.string (listF S.lots), .int .i64 0])) := by
  obtain ⟨s, hs⟩ : ∃ s, lotsB = s := ⟨_, rfl⟩
  have hl := lotsB_line
  have hi := lotsB_is
  have hz : s.size = 4 := by rw [← hs]; rfl
  rw [hs] at hl hi ⊢
  clear hs
  have HL := Lib.hid hl; have HZ := Lib.hid hz; have HG := Lib.hid hG; have H := Lib.hid h; have HI := Lib.hid hI
  clear hl hz hG h hI
  go_enter Tryz.func31, Tryz.ntmps31
  go_wp2_with (first
    | (go_at_call 35; refine (isLine_any HG.out (by rw [HZ.out]; omega)).mono ?_; rintro e w1 ⟨he, hk1⟩; rw [HL.out] at he; subst he; have HK1 := Lib.hid hk1; clear hk1)
    | (go_at_call 42; obtain ⟨mx, hm⟩ := (HG.out.keep HK1.out).maxlen; refine (Tryz.strings_Cut s ⟨#[32]⟩ mx w1 (by rw [HZ.out]; omega) hm).mono ?_; clear hm; rintro e w2 ⟨rfl, n2, h2⟩; have HK2 := Lib.hid (HK1.out.trans (h2 ▸ (Keep.refl _ w1).drewN n2) (fun _ _ h => h)); clear h2)
    | (go_at_call 43; refine (list_any (HG.out.keep HK2.out) (H.out.keep HK2.out (fun _ _ h => h)) HI.out).mono ?_; rintro e w3 ⟨rfl, hk3⟩; have HK3 := Lib.hid (HK2.out.trans hk3 (fun _ _ h => h)); clear hk3))
  go_ret2
  exact ⟨rfl, HK3.out⟩
set_option maxHeartbeats 1000000 in
set_option maxRecDepth 100000 in
theorem ask_lots {base : Nat} {w : World} {H : HV} {D : Dsk} {S : St} {ls : List ByteArray} {lost : Bool} {m : Nat} (hG : Glob w) (h : HouseAt base w H D S ls lost) (hI : Inv m S) :
    Calls Tryz.prog 16 #[.pointer (some ⟨H.h, 0, none⟩), .string lotsB] w (IdxPost w (.tuple #[.string (listF S.lots), .int .i64 0])) := by
  have c1 := h.blk.cell 1
  simp at c1
  have HN := Lib.hid (hnone_any h)
  have HR := Lib.hid (reply_lots hG h.st hI)
  clear hG h hI
  go_enter Tryz.func16, Tryz.ntmps16
  go_wp2_with (first
    | (go_at_call 12; refine HN.out.mono ?_; rintro e w' ⟨rfl, rfl⟩)
    | (go_at_call 31; refine HR.out.mono ?_; rintro e w3 ⟨rfl, hk3⟩; have HK3 := Lib.hid hk3; clear hk3))
  go_ret2
  exact ⟨rfl, HK3.out⟩
end Go.Proofs.YteokloipniiakacGreatDoor

/- The reply to lots, read back word by word: plain Lean. -/
namespace Go.Proofs.YteokloipniiakacGreatDoor
set_option linter.unusedSimpArgs false
set_option linter.unusedVariables false
set_option linter.unnecessarySimpa false
open Go.RowKit

theorem joinTail_snoc (sep : List UInt8) (r : List (List UInt8)) (y : List UInt8) : Lib.joinTail sep (r ++ [y]) = Lib.joinTail sep r ++ (sep ++ y) := by
  simp [Lib.joinTail]
theorem jbs_snoc (x : ByteArray) (xs : List ByteArray) (y sep : ByteArray) : jbs (x :: (xs ++ [y])) sep = jbs (x :: xs) sep ++ (sep ++ y) := by
  apply ByteArray.ext; apply Array.toList_inj.1
  simp [jbs, Lib.join_cons, joinTail_snoc]
def d0 : Lot := ⟨bs [], 0, 0, false⟩
def lotWs (l : List Lot) (k : Nat) : List ByteArray := (List.range k).map fun i => lotS i (l.getD i d0)
theorem listN_join (l : List Lot) : ∀ k, listN l k = jbs (lotsB :: lotWs l k) (bs [32]) := by
  intro k
  induction k with
  | zero =>
    apply ByteArray.ext; apply Array.toList_inj.1
    simp [listN, lotWs, jbs, Lib.join_one, lotsB, bs]
  | succ k ih =>
    have e : lotWs l (k + 1) = lotWs l k ++ [lotS k (l.getD k d0)] := by simp [lotWs, List.range_succ]
    rw [e, jbs_snoc, ← ih]
    rfl
/-- A byte that stands in no part. -/
def okC (c : UInt8) : Prop := c ≠ 58 ∧ c ≠ 32
theorem okC_range {c : UInt8} (h : c.toNat ≠ 58 ∧ c.toNat ≠ 32) : okC c := ⟨fun e => h.1 (by rw [e]; rfl), fun e => h.2 (by rw [e]; rfl)⟩
theorem itoa_ok {n : Int} (h : 0 ≤ n) : ∀ c ∈ (itoaB n).data.toList, okC c := by
  obtain ⟨u, rfl⟩ : ∃ u : Nat, n = u := ⟨n.toNat, by omega⟩
  intro c hc
  have e : (itoaB (u : Int)).data.toList = Lib.decDigits u := by simp [itoaB, Lib.itoa_nonneg]
  rw [e] at hc
  have hd := digB_iff.1 (List.all_eq_true.1 (numV_dec u).1 c hc)
  exact okC_range (by omega)
theorem spice_ok {s : ByteArray} (h : s.data.toList.any badS = false) : ∀ c ∈ s.data.toList, okC c := by
  intro c hc
  have hb : badS c = false := by
    cases hb : badS c with
    | false => rfl
    | true => rw [List.any_eq_true.2 ⟨c, hc, hb⟩] at h; cases h
  unfold badS at hb
  simp only [Bool.or_eq_false_iff, decide_eq_false_iff_not] at hb
  exact okC_range (by omega)
theorem bay_ok {x : Lot} : ∀ c ∈ (bayS x).data.toList, okC c := by
  intro c hc
  unfold bayS at hc
  split at hc
  · exact itoa_ok (by omega) c hc
  · have : c = 45 := by simpa [bs] using hc
    subst this; exact ⟨by decide, by decide⟩
theorem is_ok (x : Lot) : ∀ c ∈ (isS x).data.toList, okC c := by
  have h1 : ∀ c ∈ (bs [99, 108, 111, 115, 101, 100]).data.toList, okC c := by unfold okC; decide
  have h2 : ∀ c ∈ (bs [111, 112, 101, 110]).data.toList, okC c := by unfold okC; decide
  unfold isS
  split
  · exact h1
  · exact h2
def partsOf (i : Nat) (x : Lot) : List ByteArray := [itoaB ((i : Int) + 1), x.spice, itoaB x.grams, bayS x, isS x]
theorem parts_ok {i : Nat} {x : Lot} (h : LotK x) : ∀ y ∈ partsOf i x, ∀ c ∈ y.data.toList, okC c := by
  intro y hy
  simp only [partsOf, List.mem_cons, List.not_mem_nil, or_false] at hy
  rcases hy with rfl | rfl | rfl | rfl | rfl
  · exact itoa_ok (by omega)
  · exact spice_ok h.1
  · exact itoa_ok h.2.1
  · exact bay_ok
  · exact is_ok x
theorem lotS_parts {i : Nat} {x : Lot} (h : LotK x) : splC 58 (lotS i x) = partsOf i x := splC_join 58 _ _ (fun y hy hc => (parts_ok (i := i) h y hy 58 hc).1 rfl)
theorem mem_join {sep c : UInt8} : ∀ (xs : List (List UInt8)), c ∈ Lib.join xs [sep] → c = sep ∨ ∃ y ∈ xs, c ∈ y := by
  intro xs
  induction xs with
  | nil => intro h; simp [Lib.join_nil] at h
  | cons x r ih =>
    intro h
    cases r with
    | nil => rw [Lib.join_one] at h; exact .inr ⟨x, List.mem_cons_self .., h⟩
    | cons y r =>
      rw [join_two'] at h
      rcases List.mem_append.1 h with h | h
      · exact .inr ⟨x, List.mem_cons_self .., h⟩
      · rcases List.mem_append.1 h with h | h
        · exact .inl (List.mem_singleton.1 h)
        · rcases ih h with h | ⟨z, hz, hc⟩
          · exact .inl h
          · exact .inr ⟨z, List.mem_cons_of_mem _ hz, hc⟩
theorem lotS_no32 {i : Nat} {x : Lot} (h : LotK x) : (32 : UInt8) ∉ (lotS i x).data.toList := by
  intro hc
  have hc' : (32 : UInt8) ∈ Lib.join ((partsOf i x).map (·.data.toList)) [58] := by simpa [lotS, jbs, bs, partsOf] using hc
  rcases mem_join _ hc' with h2 | ⟨y, hy, h2⟩
  · exact absurd h2 (by decide)
  · obtain ⟨z, hz, rfl⟩ := List.mem_map.1 hy
    exact (parts_ok h z hz 32 h2).2 rfl
theorem getD_mem {l : List Lot} {k : Nat} (h : k < l.length) : l.getD k d0 ∈ l := by
  have e : l.getD k d0 = l[k] := by simp [List.getD, h]
  rw [e]; exact List.getElem_mem h
theorem list_words {l : List Lot} (h : ∀ x ∈ l, LotK x) : words (listF l) = lotsB :: lotWs l l.length := by
  show splC 32 (listN l l.length) = _
  rw [listN_join]
  refine splC_join 32 _ _ (fun y hy => ?_)
  rcases List.mem_cons.1 hy with rfl | hy
  · decide
  · obtain ⟨i, hi, rfl⟩ := List.mem_map.1 hy
    exact lotS_no32 (h _ (getD_mem (List.mem_range.1 hi)))
theorem lotWs_len (l : List Lot) (k : Nat) : (lotWs l k).length = k := by simp [lotWs]
theorem lotWs_at {l : List Lot} {k j : Nat} (h : j < k) : (lotWs l k)[j]? = some (lotS j (l.getD j d0)) := by simp [lotWs, h]
theorem listF_size {m : Nat} {S : St} (hI : Inv m S) : (listF S.lots).size ≤ 2424 := by
  have := listN_size (l := S.lots) hI.lo S.lots.length (Nat.le_refl _) (by have := hI.l; omega)
  have h2 := hI.l
  unfold listF
  omega
/-- The bay's word. -/
theorem numR_bay {x : Lot} (h : LotK x) : (0 ≤ x.bay → numR (bayS x) = (x.bay, true)) ∧ (x.bay < 0 → bayS x = bs [45] ∧ x.bay = -1) := by
  refine ⟨fun h0 => ?_, fun h0 => ?_⟩
  · unfold bayS
    rw [if_pos h0]
    exact numR_itoa h0 (by have := h.2.2.2; omega)
  · unfold bayS
    rw [if_neg (by omega)]
    exact ⟨rfl, by have := h.2.2.1; omega⟩
/-- A lot as the law keeps it. -/
def lawCell (x : Lot) : List Value := [.string x.spice, .int .i64 x.grams, .int .i64 x.bay, .bool (!x.closed)]
def lawCells (l : List Lot) : List Value := l.flatMap lawCell
theorem lawCells_len (l : List Lot) : (lawCells l).length = l.length * 4 := by
  induction l with
  | nil => rfl
  | cons a l ih => show (lawCell a ++ lawCells l).length = _; rw [List.length_append, ih]; simp [lawCell]; omega
theorem lawCells_take {l : List Lot} {k : Nat} (h : k < l.length) : lawCells (l.take (k + 1)) = lawCells (l.take k) ++ lawCell (l.getD k d0) := by
  have e : l.getD k d0 = l[k] := by simp [List.getD, h]
  rw [List.take_succ_eq_append_getElem h, e]
  unfold lawCells
  rw [List.flatMap_append]
  simp only [List.flatMap_cons, List.flatMap_nil, List.append_nil]
theorem lawCells_at : ∀ (l : List Lot) {j : Nat} {x : Lot}, l[j]? = some x → (lawCells l)[4 * j]? = some (.string x.spice) ∧ (lawCells l)[4 * j + 1]? = some (.int .i64 x.grams) ∧ (lawCells l)[4 * j + 2]? = some (.int .i64 x.bay) ∧ (lawCells l)[4 * j + 3]? = some (.bool (!x.closed))
  | [], j, x, h => by simp at h
  | a :: l, 0, x, h => by
    simp at h; subst h
    exact ⟨rfl, rfl, rfl, rfl⟩
  | a :: l, j + 1, x, h => by
    have ih := lawCells_at l (j := j) (x := x) (by simpa using h)
    have e : lawCells (a :: l) = .string a.spice :: .int .i64 a.grams :: .int .i64 a.bay :: .bool (!a.closed) :: lawCells l := rfl
    rw [e, show 4 * (j + 1) = 4 * j + 1 + 1 + 1 + 1 by omega]
    simpa using ih
end Go.Proofs.YteokloipniiakacGreatDoor

/- The law's own reader of the reply to lots, walked. -/
namespace Go.Proofs.YteokloipniiakacGreatDoor
set_option linter.unusedSimpArgs false
set_option linter.unusedVariables false
set_option linter.unnecessarySimpa false
open Go.RowKit

theorem splitC_any {w : World} {s : ByteArray} (c : UInt8) (hG : Glob w) (hs : s.size ≤ 4096) : Calls Tryz.prog 17 #[.string s, .string ⟨#[c]⟩] w fun e w' => e = .returned (.slice (some ⟨w.heap.size, 0, none⟩) (splC c s).length (splC c s).length) ∧ w' = w.alloc (.cells ((splC c s).map Value.string).toArray 9) := by
  obtain ⟨m, hm⟩ := hG.maxlen
  have hl : (splC c s).length = Lib.countB s ⟨#[c]⟩ + 1 := Lib.splitB_all ⟨#[c]⟩ (Nat.le_refl 1) 0 _ s rfl
  refine (Tryz.strings_Split s ⟨#[c]⟩ m w (by omega) hm (Nat.le_refl 1)).mono ?_
  rintro e w' ⟨rfl, rfl⟩
  exact ⟨by rw [hl], rfl⟩
theorem info40 : (Tryz.prog.info? 37).map (fun i => (i.zero, i.size, i.bytes)) = some (some (.agg #[.string ⟨#[]⟩, .int .i64 0, .int .i64 0, .bool false]), 4, 40) := by kernel_rfl
def LotsPost (w : World) (l : List Lot) (e : Ending) (w' : World) : Prop := ∃ v, e = .returned (.tuple #[v, .bool true]) ∧ w'.ownsRow w.heap.size 37 4 v l.length (lawCells l) ∧ Keep (fun _ => False) w w'
/-- What the loop over the words keeps. -/
def LRel (w w2 : World) (l : List Lot) (v27 v6 : Value) (wr : World) : Prop := ∃ j : Nat, j ≤ l.length ∧ v27 = .int .i64 j ∧ wr.ownsRow w2.heap.size 37 4 v6 j (lawCells (l.take j)) ∧ Keep (fun _ => False) w2 wr

set_option maxHeartbeats 6000000 in
set_option maxRecDepth 100000 in
theorem lots_any {base : Nat} {w : World} {H : HV} {D : Dsk} {S : St} {ls : List ByteArray} {lost : Bool} {m : Nat} (hG : Glob w) (h : HouseAt base w H D S ls lost) (hI : Inv m S) (hK : ∀ x ∈ S.lots, LotK x) (hg : ∀ x ∈ S.lots, x.grams ≤ 999999999999) :
    Calls Tryz.prog 7 #[.pointer (some ⟨H.h, 0, none⟩)] w (LotsPost w S.lots) := by
  obtain ⟨l, hl⟩ : ∃ l, S.lots = l := ⟨_, rfl⟩
  obtain ⟨s, hs⟩ : ∃ s, listF S.lots = s := ⟨_, rfl⟩
  have hsz := listF_size hI
  rw [hs] at hsz
  have hask := ask_lots hG h hI
  rw [hs] at hask
  have hw := list_words hK
  rw [hs, hl] at hw
  have hlen : l.length ≤ 20 := by rw [← hl]; exact hI.l
  rw [hl] at hK hg ⊢
  have HIO := Lib.hid hI.lo
  rw [hl] at HIO
  have HSZ := Lib.hid (fun x (hx : x ∈ S.lots) (j : Nat) (hj : j ≤ 1000000) => lotS_size (hI.lo x hx) hj)
  rw [hl] at HSZ
  clear hs hl h hI
  have hwl : (words s).length - 1 = l.length := by rw [hw]; simp [lotWs_len]
  have hw1 : 1 ≤ (words s).length := by rw [hw]; simp
  have hwj : ∀ j, j < l.length → (words s).getD (1 + j) ByteArray.empty = lotS j (l.getD j d0) := fun j hj => by
    rw [hw, Nat.add_comm 1 j]
    simp only [List.getD_cons_succ]
    simp [List.getD, lotWs_at hj]
  have hS : ∀ W, Glob W → Calls Tryz.prog 17 #[.string s, .string ⟨#[32]⟩] W (SplitPost W s) := fun W g => split_any g (by omega)
  obtain ⟨nn, hnn⟩ : ∃ nn, (words s).length = nn := ⟨_, rfl⟩
  have HASK := Lib.hid hask; have HG := Lib.hid hG; have HWJ := Lib.hid hwj; have HS := Lib.hid hS; have HK := Lib.hid hK; have HGR := Lib.hid hg
  have HCELL := Lib.hid (fun (W : World) (j : Nat) (hj : j < (words s).length) => words_cell W s j hj)
  have HNN := Lib.hid hnn
  rw [hnn] at hwl hw1
  have hwi : (1 : Int) ≤ (nn : Int) := by omega
  have HW1 := Lib.hid hw1
  clear hask hG hwj hS hK hg hw hnn hw1 hsz
  go_enter Tryz.func7, Tryz.ntmps7
  go_wp2_with (first
    | (go_at_call 16; refine HASK.out.mono ?_; rintro e w1 ⟨rfl, hk1⟩; have HK1 := Lib.hid hk1; clear hk1)
    | (go_at_call 17; refine (HS.out _ (HG.out.keep HK1.out)).mono ?_; rintro e w2 ⟨he, h2⟩; rw [HNN.out] at he; subst he; have H2 := Lib.hid h2; clear h2))
  · have h0 : l.length = 0 := by omega
    have HL := Lib.hid h0
    have HK2 : Hid (Keep (fun _ => False) w w2) := Lib.hid (by rw [H2.out]; exact HK1.out.alloc _)
    clear h0 hwl h hwi hlen
    go_loopw [27, 6] (LRel w w2 l) (fun v _ _ => l.length - (intOf v).toNat)
    case atStart => exact ⟨0, Nat.zero_le _, rfl, World.ownsRow_nil _ _ _ _, Keep.refl _ _⟩
    case round =>
      obtain ⟨j, hj, rfl, ho, hk⟩ := hrel
      obtain ⟨ao6, cap6, rfl, _⟩ := ownsRow_shape ho
      have hl0 : ((j : Int) < (l.length : Int)) = False := eq_false (by have := HL.out; omega)
      have HO := Lib.hid ho; have HKR := Lib.hid hk; have HJ := Lib.hid hj
      clear ho hk hj
      go_wp2
      go_ret2
      refine ⟨_, rfl, ?_, HK2.out.trans HKR.out (fun _ _ h => h)⟩
      have := HO.out
      have e : l = [] := List.eq_nil_of_length_eq_zero HL.out
      subst e
      have hj0 : j = 0 := by have := HJ.out; simpa using this
      subst hj0
      exact ownsRow_base this HK2.out.size
  · have HN1 := Lib.hid h
    have HK2 : Hid (Keep (fun _ => False) w w2) := Lib.hid (by rw [H2.out]; exact HK1.out.alloc _)
    have hcw : ∀ j, j < l.length → w2.cell? ⟨w1.heap.size, 1 + j, none⟩ = some (.string (lotS j (l.getD j d0))) := fun j hj => by
      have := HCELL.out w1 (1 + j) (by rw [HNN.out]; omega)
      rw [Nat.zero_add, HWJ.out j hj] at this
      rw [H2.out]; exact this
    have hz2 : w1.heap.size < w2.heap.size := by rw [H2.out, World.size_alloc]; omega
    have HCW := Lib.hid hcw
    clear hcw hwi hwl h H2
    go_loopw [27, 6] (LRel w w2 l) (fun v _ _ => l.length - (intOf v).toNat)
    case atStart => exact ⟨0, Nat.zero_le _, rfl, World.ownsRow_nil _ _ _ _, Keep.refl _ _⟩
    case round =>
      obtain ⟨j, hj, rfl, ho, hk⟩ := hrel
      obtain ⟨ao6, cap6, rfl, _⟩ := ownsRow_shape ho
      have HO := Lib.hid ho; have HKR := Lib.hid hk
      have hszr := hk.size
      clear ho
      by_cases hlt : j < l.length
      · have hc0 := (hk.cell (p := ⟨w1.heap.size, 1 + j, none⟩) hz2 (fun h => h)).trans (HCW.out j hlt)
        obtain ⟨x, hx⟩ : ∃ x, l.getD j d0 = x := ⟨_, rfl⟩
        have hmem : x ∈ l := hx ▸ getD_mem hlt
        have hlk := HK.out x hmem
        have hgx := HGR.out x hmem
        rw [hx] at hc0
        have hti := lawCells_take hlt
        rw [hx] at hti
        have hparts := lotS_parts (i := j) hlk
        have hlsz : (lotS j x).size ≤ 4096 := by
          have := HSZ.out x hmem j (by omega)
          omega
        have n0 := numR_itoa (n := (j : Int) + 1) (by omega) (by omega)
        have n2 := numR_itoa hlk.2.1 hgx
        have n3 := numR_bay hlk
        obtain ⟨sj, hsj⟩ : ∃ sj, lotS j x = sj := ⟨_, rfl⟩
        rw [hsj] at hc0 hparts hlsz
        obtain ⟨p0, hp0⟩ : ∃ p, itoaB ((j : Int) + 1) = p := ⟨_, rfl⟩
        obtain ⟨p2, hp2⟩ : ∃ p, itoaB x.grams = p := ⟨_, rfl⟩
        obtain ⟨p3, hp3⟩ : ∃ p, bayS x = p := ⟨_, rfl⟩
        obtain ⟨p4, hp4⟩ : ∃ p, isS x = p := ⟨_, rfl⟩
        have hb3 := bayS_size (HIO.out x hmem)
        have hb0 := itoaB_size ((j : Int) + 1) (by omega) (by omega)
        have hb2 := itoaB_size x.grams (by have := hlk.2.1; omega) (by omega)
        have hpt : partsOf j x = [p0, x.spice, p2, p3, p4] := by unfold partsOf; rw [hp0, hp2, hp3, hp4]
        rw [hpt] at hparts
        rw [hp0] at n0 hb0; rw [hp2] at n2 hb2; rw [hp3] at n3 hb3
        obtain ⟨w3, hw3⟩ : ∃ w3, w3 = wr.alloc (.cells #[.string p0, .string x.spice, .string p2, .string p3, .string p4] 9) := ⟨_, rfl⟩
        have hb := Blk.new wr #[.string p0, .string x.spice, .string p2, .string p3, .string p4] 9
        rw [← hw3] at hb
        have b0 := hb.cell 0; have b1 := hb.cell 1; have b2 := hb.cell 2; have b3 := hb.cell 3; have b4 := hb.cell 4
        simp at b0 b1 b2 b3 b4
        have HSP := Lib.hid (show Calls Tryz.prog 17 #[.string sj, .string ⟨#[58]⟩] wr (fun e w' => e = .returned (.slice (some ⟨wr.heap.size, 0, none⟩) 5 5) ∧ w' = w3) from (splitC_any 58 ((HG.out.keep HK2.out).keep hk) (by omega)).mono fun e w' ⟨he, h2⟩ => by
          rw [hparts] at he h2
          exact ⟨he, by rw [hw3, h2]; rfl⟩)
        have HN0 := Lib.hid (fun W => number_any (w := W) (s := p0) (by omega))
        have HN2 := Lib.hid (fun W => number_any (w := W) (s := p2) (by omega))
        have HN3 := Lib.hid (fun W => number_any (w := W) (s := p3) (by omega))
        rw [n0] at HN0; rw [n2] at HN2
        have HK3 : Hid (Keep (fun _ => False) wr w3) := Lib.hid (by rw [hw3]; exact (Keep.refl _ _).alloc _)
        have HLOT : Hid (∀ W, Keep (fun k => (Value.slice ao6 j cap6).ownBlock = some k) w3 W → W.cell? ⟨wr.heap.size, 1, none⟩ = some (.string x.spice) ∧ W.cell? ⟨wr.heap.size, 4, none⟩ = some (.string p4)) :=
          Lib.hid fun W hk => by
            have hn := hb.keep hk (fun e => by have := (ownsRow_lt HO.out _ e).2; omega)
            exact ⟨hn.cell 1, hn.cell 4⟩
        have HBS : Hid (w2.heap.size ≤ w3.heap.size) := Lib.hid (by have h2 := HKR.out.size; have h3 := HK3.out.size; omega)
        have HOW := Lib.hid (ownsRow_keep HO.out HK3.out (fun _ _ h => h))
        have hjj : IntKind.i64.wrap ((j : Int) + 1) = (j : Int) + 1 := IntWalk.i64_in _ ⟨by omega, by omega⟩
        have hji : ((j : Int) < (l.length : Int)) = True := eq_true (by omega)
        have HTI := Lib.hid hti
        have hopen : (p4.toList == [111, 112, 101, 110]) = !x.closed := by rw [← hp4]; unfold isS; cases x.closed <;> kernel_rfl
        have hclo : (p4.toList == [99, 108, 111, 115, 101, 100]) = x.closed := by rw [← hp4]; unfold isS; cases x.closed <;> kernel_rfl
        have hopenN : (p4.toList != [111, 112, 101, 110]) = x.closed := by rw [← hp4]; unfold isS; cases x.closed <;> kernel_rfl
        have hcloN : (p4.toList != [99, 108, 111, 115, 101, 100]) = !x.closed := by rw [← hp4]; unfold isS; cases x.closed <;> kernel_rfl
        have HLT := Lib.hid hlt
        have H7 := Lib.hid hlk.2.2.2
        clear hti hw3 hb hparts hmem hlk hgx hlsz n0 n2 hp0 hp2 hp3 hp4 hpt hx hsj hb0 hb2 hb3 hk hlt
        obtain ⟨xs, hxs⟩ : ∃ v, x.spice = v := ⟨_, rfl⟩
        obtain ⟨xg, hxg⟩ : ∃ v, x.grams = v := ⟨_, rfl⟩
        obtain ⟨xb, hxb⟩ : ∃ v, x.bay = v := ⟨_, rfl⟩
        obtain ⟨xc, hxc⟩ : ∃ v, x.closed = v := ⟨_, rfl⟩
        rw [hxs] at b1 HLOT
        rw [hxg] at HN2
        rw [hxb] at n3 H7
        rw [hxc] at hopen hclo hopenN hcloN
        have HX := Lib.hid (show lawCell x = [.string xs, .int .i64 xg, .int .i64 xb, .bool (!xc)] by unfold lawCell; rw [hxs, hxg, hxb, hxc])
        clear hxs hxg hxb hxc
        by_cases hbay : 0 ≤ xb
        · rw [n3.1 hbay] at HN3
          have h70 : ((7 : Int) < xb) = False := eq_false (by have := H7.out; omega)
          clear n3
          cases xc with
          | false =>
            simp only [Bool.not_false, Bool.not_true] at hopen hcloN
            go_upto_region 11 with (go_at_call 17; refine HSP.out.mono ?_; rintro e w4 ⟨rfl, rfl⟩)
            go_upto_region 12 with (go_at_call 18; refine (HN0.out _).mono ?_; rintro e w4 ⟨rfl, rfl⟩)
            go_upto_region 13 with (go_at_call 18; refine (HN2.out _).mono ?_; rintro e w4 ⟨rfl, rfl⟩)
            go_upto_region 14 with (go_at_call 18; refine (HN3.out _).mono ?_; rintro e w4 ⟨rfl, rfl⟩)
            go_upto_region 18 with fail
            obtain ⟨w5, hw5⟩ : ∃ w5, w5 = w4.alloc (.cells #[.string xs, .int .i64 xg, .int .i64 xb, .bool true] 37) := ⟨_, rfl⟩
            have hk5 : Keep (fun k => (Value.slice ao6 j cap6).ownBlock = some k) w4 w5 := by rw [hw5]; exact (Keep.refl _ _).alloc _
            have hsr := (Rd.new w4 4 1 [.string xs, .int .i64 xg, .int .i64 xb, .bool true] 37 rfl (by simp [Value.oneCell']) (by unfold maxLen; omega))
            rw [← hw5] at hsr
            have HSR := Lib.hid (hsr.drew.src Tryz.underlying33)
            have HO5 := Lib.hid (show w5.drew.ownsRow w2.heap.size 37 4 (.slice ao6 j cap6) j (lawCells (l.take j)) by rw [hw5]; exact HOW.out.alloc _)
            have HB5 : Hid (w2.heap.size ≤ w5.drew.heap.size) := Lib.hid (by rw [hw5]; show w2.heap.size ≤ (w4.alloc _).heap.size; rw [World.size_alloc]; exact Nat.le_succ_of_le HBS.out)
            have HK5 := Lib.hid hk5
            have HW5 := Lib.hid hw5
            clear hk5 hsr hw5
            refine wp_region_noPanic ?_
            refine wp_region_held_drew (S := fun W => W.cell? ⟨wr.heap.size, 1, none⟩ = some (.string xs) ∧ W.cell? ⟨wr.heap.size, 4, none⟩ = some (.string p4)) (by kernel_rfl) (HLOT.out _ (Keep.refl _ _).drew) (fun hHeld => ?_)
            refine wS 0 ?_
            refine wS 1 ?_
            refine wS 2 ?_
            refine wS 3 ?_
            refine wS 4 ?_
            refine wS 5 ?_
            refine wS 6 ?_
            refine wS 7 ?_
            refine wS 8 ?_
            refine wS 9 ?_
            refine wS 10 ?_
            refine wB 11 fun K hK => ?_
            go_simp
            rw [← HW5.out]
            refine hK.out _ _ ?_ fun hHeld => ?_
            · (try dsimp only); refine HLOT.out _ ?_; exact HK5.out.drew
            clear hK K
            (try simp only [tA])
            refine wB 12 fun K hK => ?_
            refine oper_app (w := w5.drew) (.tmp 98) (.tmp 109) 33 33 rfl 37 (.agg #[.string ⟨#[]⟩, .int .i64 0, .int .i64 0, .bool false]) 4 40 Tryz.underlying33 info40 rfl HO5.out rfl HSR.out rfl (by unfold maxLen; omega) (by omega) HB5.out (fun v' w7 happ => ?_)
            have HKA : Hid (Keep (fun k => (Value.slice ao6 j cap6).ownBlock = some k) w4 w7) := Lib.hid (HK5.out.drew.trans happ.keep (fun _ _ h => h))
            have HA := Lib.hid happ.own
            clear happ
            refine hK.out _ _ ?_ fun hHeld => ?_
            · (try dsimp only); refine HLOT.out _ ?_; exact HKA.out
            clear hK K
            (try simp only [tA])
            refine wS 13 ?_
            refine wpAnyH_done (by kernel_rfl) ?_ _
            refine NoPanic.normal ?_
            go_wp2
            go_roundw
            case rel =>
              refine ⟨j + 1, HLT.out, rfl, ?_, ?_⟩
              · have := HA.out
                rw [HTI.out, HX.out]
                exact this
              · refine (HKR.out.trans HK3.out (fun _ _ h => h)).trans HKA.out (fun k hk e => ?_)
                have := (ownsRow_lt HO.out k e).1
                omega
            case measure => have := HLT.out; simp [intOf]; omega
          | true =>
            simp only [Bool.not_false, Bool.not_true] at hopen hcloN
            go_upto_region 11 with (go_at_call 17; refine HSP.out.mono ?_; rintro e w4 ⟨rfl, rfl⟩)
            go_upto_region 12 with (go_at_call 18; refine (HN0.out _).mono ?_; rintro e w4 ⟨rfl, rfl⟩)
            go_upto_region 13 with (go_at_call 18; refine (HN2.out _).mono ?_; rintro e w4 ⟨rfl, rfl⟩)
            go_upto_region 14 with (go_at_call 18; refine (HN3.out _).mono ?_; rintro e w4 ⟨rfl, rfl⟩)
            go_upto_region 18 with fail
            obtain ⟨w5, hw5⟩ : ∃ w5, w5 = w4.alloc (.cells #[.string xs, .int .i64 xg, .int .i64 xb, .bool false] 37) := ⟨_, rfl⟩
            have hk5 : Keep (fun k => (Value.slice ao6 j cap6).ownBlock = some k) w4 w5 := by rw [hw5]; exact (Keep.refl _ _).alloc _
            have hsr := (Rd.new w4 4 1 [.string xs, .int .i64 xg, .int .i64 xb, .bool false] 37 rfl (by simp [Value.oneCell']) (by unfold maxLen; omega))
            rw [← hw5] at hsr
            have HSR := Lib.hid (hsr.drew.src Tryz.underlying33)
            have HO5 := Lib.hid (show w5.drew.ownsRow w2.heap.size 37 4 (.slice ao6 j cap6) j (lawCells (l.take j)) by rw [hw5]; exact HOW.out.alloc _)
            have HB5 : Hid (w2.heap.size ≤ w5.drew.heap.size) := Lib.hid (by rw [hw5]; show w2.heap.size ≤ (w4.alloc _).heap.size; rw [World.size_alloc]; exact Nat.le_succ_of_le HBS.out)
            have HK5 := Lib.hid hk5
            have HW5 := Lib.hid hw5
            clear hk5 hsr hw5
            refine wp_region_noPanic ?_
            refine wp_region_held_drew (S := fun W => W.cell? ⟨wr.heap.size, 1, none⟩ = some (.string xs) ∧ W.cell? ⟨wr.heap.size, 4, none⟩ = some (.string p4)) (by kernel_rfl) (HLOT.out _ (Keep.refl _ _).drew) (fun hHeld => ?_)
            refine wS 0 ?_
            refine wS 1 ?_
            refine wS 2 ?_
            refine wS 3 ?_
            refine wS 4 ?_
            refine wS 5 ?_
            refine wS 6 ?_
            refine wS 7 ?_
            refine wS 8 ?_
            refine wS 9 ?_
            refine wS 10 ?_
            refine wB 11 fun K hK => ?_
            go_simp
            rw [← HW5.out]
            refine hK.out _ _ ?_ fun hHeld => ?_
            · (try dsimp only); refine HLOT.out _ ?_; exact HK5.out.drew
            clear hK K
            (try simp only [tA])
            refine wB 12 fun K hK => ?_
            refine oper_app (w := w5.drew) (.tmp 98) (.tmp 109) 33 33 rfl 37 (.agg #[.string ⟨#[]⟩, .int .i64 0, .int .i64 0, .bool false]) 4 40 Tryz.underlying33 info40 rfl HO5.out rfl HSR.out rfl (by unfold maxLen; omega) (by omega) HB5.out (fun v' w7 happ => ?_)
            have HKA : Hid (Keep (fun k => (Value.slice ao6 j cap6).ownBlock = some k) w4 w7) := Lib.hid (HK5.out.drew.trans happ.keep (fun _ _ h => h))
            have HA := Lib.hid happ.own
            clear happ
            refine hK.out _ _ ?_ fun hHeld => ?_
            · (try dsimp only); refine HLOT.out _ ?_; exact HKA.out
            clear hK K
            (try simp only [tA])
            refine wS 13 ?_
            refine wpAnyH_done (by kernel_rfl) ?_ _
            refine NoPanic.normal ?_
            go_wp2
            go_roundw
            case rel =>
              refine ⟨j + 1, HLT.out, rfl, ?_, ?_⟩
              · have := HA.out
                rw [HTI.out, HX.out]
                exact this
              · refine (HKR.out.trans HK3.out (fun _ _ h => h)).trans HKA.out (fun k hk e => ?_)
                have := (ownsRow_lt HO.out k e).1
                omega
            case measure => have := HLT.out; simp [intOf]; omega
        · obtain ⟨hp3, hxb⟩ := n3.2 (by omega)
          have e3 : numR p3 = (0, false) := by rw [hp3]; exact numR_dash
          have q3 : (p3.toList != [45]) = false := by rw [hp3]; kernel_rfl
          have q4 : (p3.toList == [45]) = true := by rw [hp3]; kernel_rfl
          rw [e3] at HN3
          subst hxb
          clear n3 e3 hp3 hbay
          cases xc with
          | false =>
            simp only [Bool.not_false, Bool.not_true] at hopen hcloN
            go_upto_region 11 with (go_at_call 17; refine HSP.out.mono ?_; rintro e w4 ⟨rfl, rfl⟩)
            go_upto_region 12 with (go_at_call 18; refine (HN0.out _).mono ?_; rintro e w4 ⟨rfl, rfl⟩)
            go_upto_region 13 with (go_at_call 18; refine (HN2.out _).mono ?_; rintro e w4 ⟨rfl, rfl⟩)
            go_upto_region 14 with (go_at_call 18; refine (HN3.out _).mono ?_; rintro e w4 ⟨rfl, rfl⟩)
            go_upto_region 18 with fail
            obtain ⟨w5, hw5⟩ : ∃ w5, w5 = w4.alloc (.cells #[.string xs, .int .i64 xg, .int .i64 (-1), .bool true] 37) := ⟨_, rfl⟩
            have hk5 : Keep (fun k => (Value.slice ao6 j cap6).ownBlock = some k) w4 w5 := by rw [hw5]; exact (Keep.refl _ _).alloc _
            have hsr := (Rd.new w4 4 1 [.string xs, .int .i64 xg, .int .i64 (-1), .bool true] 37 rfl (by simp [Value.oneCell']) (by unfold maxLen; omega))
            rw [← hw5] at hsr
            have HSR := Lib.hid (hsr.drew.src Tryz.underlying33)
            have HO5 := Lib.hid (show w5.drew.ownsRow w2.heap.size 37 4 (.slice ao6 j cap6) j (lawCells (l.take j)) by rw [hw5]; exact HOW.out.alloc _)
            have HB5 : Hid (w2.heap.size ≤ w5.drew.heap.size) := Lib.hid (by rw [hw5]; show w2.heap.size ≤ (w4.alloc _).heap.size; rw [World.size_alloc]; exact Nat.le_succ_of_le HBS.out)
            have HK5 := Lib.hid hk5
            have HW5 := Lib.hid hw5
            clear hk5 hsr hw5
            refine wp_region_noPanic ?_
            refine wp_region_held_drew (S := fun W => W.cell? ⟨wr.heap.size, 1, none⟩ = some (.string xs) ∧ W.cell? ⟨wr.heap.size, 4, none⟩ = some (.string p4)) (by kernel_rfl) (HLOT.out _ (Keep.refl _ _).drew) (fun hHeld => ?_)
            refine wS 0 ?_
            refine wS 1 ?_
            refine wS 2 ?_
            refine wS 3 ?_
            refine wS 4 ?_
            refine wS 5 ?_
            refine wS 6 ?_
            refine wS 7 ?_
            refine wS 8 ?_
            refine wS 9 ?_
            refine wS 10 ?_
            refine wB 11 fun K hK => ?_
            go_simp
            rw [← HW5.out]
            refine hK.out _ _ ?_ fun hHeld => ?_
            · (try dsimp only); refine HLOT.out _ ?_; exact HK5.out.drew
            clear hK K
            (try simp only [tA])
            refine wB 12 fun K hK => ?_
            refine oper_app (w := w5.drew) (.tmp 98) (.tmp 109) 33 33 rfl 37 (.agg #[.string ⟨#[]⟩, .int .i64 0, .int .i64 0, .bool false]) 4 40 Tryz.underlying33 info40 rfl HO5.out rfl HSR.out rfl (by unfold maxLen; omega) (by omega) HB5.out (fun v' w7 happ => ?_)
            have HKA : Hid (Keep (fun k => (Value.slice ao6 j cap6).ownBlock = some k) w4 w7) := Lib.hid (HK5.out.drew.trans happ.keep (fun _ _ h => h))
            have HA := Lib.hid happ.own
            clear happ
            refine hK.out _ _ ?_ fun hHeld => ?_
            · (try dsimp only); refine HLOT.out _ ?_; exact HKA.out
            clear hK K
            (try simp only [tA])
            refine wS 13 ?_
            refine wpAnyH_done (by kernel_rfl) ?_ _
            refine NoPanic.normal ?_
            go_wp2
            go_roundw
            case rel =>
              refine ⟨j + 1, HLT.out, rfl, ?_, ?_⟩
              · have := HA.out
                rw [HTI.out, HX.out]
                exact this
              · refine (HKR.out.trans HK3.out (fun _ _ h => h)).trans HKA.out (fun k hk e => ?_)
                have := (ownsRow_lt HO.out k e).1
                omega
            case measure => have := HLT.out; simp [intOf]; omega
          | true =>
            simp only [Bool.not_false, Bool.not_true] at hopen hcloN
            go_upto_region 11 with (go_at_call 17; refine HSP.out.mono ?_; rintro e w4 ⟨rfl, rfl⟩)
            go_upto_region 12 with (go_at_call 18; refine (HN0.out _).mono ?_; rintro e w4 ⟨rfl, rfl⟩)
            go_upto_region 13 with (go_at_call 18; refine (HN2.out _).mono ?_; rintro e w4 ⟨rfl, rfl⟩)
            go_upto_region 14 with (go_at_call 18; refine (HN3.out _).mono ?_; rintro e w4 ⟨rfl, rfl⟩)
            go_upto_region 18 with fail
            obtain ⟨w5, hw5⟩ : ∃ w5, w5 = w4.alloc (.cells #[.string xs, .int .i64 xg, .int .i64 (-1), .bool false] 37) := ⟨_, rfl⟩
            have hk5 : Keep (fun k => (Value.slice ao6 j cap6).ownBlock = some k) w4 w5 := by rw [hw5]; exact (Keep.refl _ _).alloc _
            have hsr := (Rd.new w4 4 1 [.string xs, .int .i64 xg, .int .i64 (-1), .bool false] 37 rfl (by simp [Value.oneCell']) (by unfold maxLen; omega))
            rw [← hw5] at hsr
            have HSR := Lib.hid (hsr.drew.src Tryz.underlying33)
            have HO5 := Lib.hid (show w5.drew.ownsRow w2.heap.size 37 4 (.slice ao6 j cap6) j (lawCells (l.take j)) by rw [hw5]; exact HOW.out.alloc _)
            have HB5 : Hid (w2.heap.size ≤ w5.drew.heap.size) := Lib.hid (by rw [hw5]; show w2.heap.size ≤ (w4.alloc _).heap.size; rw [World.size_alloc]; exact Nat.le_succ_of_le HBS.out)
            have HK5 := Lib.hid hk5
            have HW5 := Lib.hid hw5
            clear hk5 hsr hw5
            refine wp_region_noPanic ?_
            refine wp_region_held_drew (S := fun W => W.cell? ⟨wr.heap.size, 1, none⟩ = some (.string xs) ∧ W.cell? ⟨wr.heap.size, 4, none⟩ = some (.string p4)) (by kernel_rfl) (HLOT.out _ (Keep.refl _ _).drew) (fun hHeld => ?_)
            refine wS 0 ?_
            refine wS 1 ?_
            refine wS 2 ?_
            refine wS 3 ?_
            refine wS 4 ?_
            refine wS 5 ?_
            refine wS 6 ?_
            refine wS 7 ?_
            refine wS 8 ?_
            refine wS 9 ?_
            refine wS 10 ?_
            refine wB 11 fun K hK => ?_
            go_simp
            rw [← HW5.out]
            refine hK.out _ _ ?_ fun hHeld => ?_
            · (try dsimp only); refine HLOT.out _ ?_; exact HK5.out.drew
            clear hK K
            (try simp only [tA])
            refine wB 12 fun K hK => ?_
            refine oper_app (w := w5.drew) (.tmp 98) (.tmp 109) 33 33 rfl 37 (.agg #[.string ⟨#[]⟩, .int .i64 0, .int .i64 0, .bool false]) 4 40 Tryz.underlying33 info40 rfl HO5.out rfl HSR.out rfl (by unfold maxLen; omega) (by omega) HB5.out (fun v' w7 happ => ?_)
            have HKA : Hid (Keep (fun k => (Value.slice ao6 j cap6).ownBlock = some k) w4 w7) := Lib.hid (HK5.out.drew.trans happ.keep (fun _ _ h => h))
            have HA := Lib.hid happ.own
            clear happ
            refine hK.out _ _ ?_ fun hHeld => ?_
            · (try dsimp only); refine HLOT.out _ ?_; exact HKA.out
            clear hK K
            (try simp only [tA])
            refine wS 13 ?_
            refine wpAnyH_done (by kernel_rfl) ?_ _
            refine NoPanic.normal ?_
            go_wp2
            go_roundw
            case rel =>
              refine ⟨j + 1, HLT.out, rfl, ?_, ?_⟩
              · have := HA.out
                rw [HTI.out, HX.out]
                exact this
              · refine (HKR.out.trans HK3.out (fun _ _ h => h)).trans HKA.out (fun k hk e => ?_)
                have := (ownsRow_lt HO.out k e).1
                omega
            case measure => have := HLT.out; simp [intOf]; omega
      · have hji : ((j : Int) < (l.length : Int)) = False := eq_false (by omega)
        have HJ := Lib.hid (show j = l.length by omega)
        have HKR := Lib.hid hk
        clear hlt hk
        go_wp2
        go_ret2
        have hje := HJ.out
        subst hje
        refine ⟨_, rfl, ?_, HK2.out.trans HKR.out (fun _ _ h => h)⟩
        have := HO.out
        rw [List.take_length] at this
        exact ownsRow_base this HK2.out.size
end Go.Proofs.YteokloipniiakacGreatDoor

/- The law HouseBays, walked: it returns true, whatever the bays and the lines. -/
namespace Go.Proofs.YteokloipniiakacGreatDoor
set_option linter.unusedSimpArgs false
set_option linter.unusedVariables false
set_option linter.unnecessarySimpa false
open Go.RowKit

def BRelO (w : World) (g : List Int) (b1 d1 m : Nat) (gh : Nat) (s31 : Value) (wx : World) : Prop :=
  ∃ (j : Nat) (H : HV) (S : St) (ls : List ByteArray), gh = m - j ∧ j ≤ m ∧ s31 = .int .i64 j ∧ H.h = b1 ∧ H.d = d1 ∧ One w H S ls wx ∧ Rep runF (S0 g) ls S ∧ ls.length ≤ j ∧ KI ls.length S ∧ BI g S
def BRelI (w7 : World) (n : Nat) (s47 : Value) (wx : World) : Prop := ∃ i : Nat, i ≤ n ∧ s47 = .int .i64 i ∧ Keep (fun _ => False) w7 wx
theorem bays_step {g : List Int} {ls : List ByteArray} {S : St} (s : ByteArray) (hg : Graph g) (hg8 : g.length = 8) (hrep : Rep runF (S0 g) ls S) (hK : KI ls.length S) (hB : BI g S) (hc : ls.length ≤ 1000) (hcat : (cat ls).length ≤ 199799) :
    ∃ (e : Int) (o : ByteArray) (ls2 : List ByteArray) (S2 : St), hdoF runF (gD ls) S ls false s = ⟨e, o, gD ls2, S2, ls2, false⟩ ∧ Rep runF (S0 g) ls2 S2 ∧ KI ls2.length S2 ∧ BI g S2 ∧ ls2.length ≤ ls.length + 1 := by
  have hst := calm_step (S := S) (ls := ls) hcat s
  by_cases he : (doF runF S s).err = 0
  · rw [if_pos he] at hst
    exact ⟨_, _, _, _, hst, hrep.snoc he, by rw [List.length_append]; exact (step_law hK hc he).1, bay_law hg hg8 hK hB he, by simp⟩
  · rw [if_neg he] at hst
    exact ⟨_, _, _, _, hst, hrep, hK, hB, by omega⟩
theorem rd_law {w : World} {v : Value} {l : List Lot} (h : Rd w 4 v l.length (lawCells l)) {j : Nat} (hj : j < l.length) : ∃ g o cap x, v = .slice (some ⟨g, o, none⟩) l.length cap ∧ l[j]? = some x ∧
    w.cell? ⟨g, o + j * 4, none⟩ = some (.string x.spice) ∧ w.cell? ⟨g, o + j * 4 + 1, none⟩ = some (.int .i64 x.grams) ∧ w.cell? ⟨g, o + j * 4 + 2, none⟩ = some (.int .i64 x.bay) ∧ w.cell? ⟨g, o + j * 4 + 3, none⟩ = some (.bool (!x.closed)) := by
  obtain ⟨x, hx⟩ : ∃ x, l[j]? = some x := ⟨_, List.getElem?_eq_getElem hj⟩
  obtain ⟨h0, h1, h2, h3⟩ := lawCells_at l hx
  rcases h.2.2 with ⟨_, hn⟩ | ⟨g, o, cap, rfl, _, _, hc⟩
  · omega
  · refine ⟨g, o, cap, x, rfl, hx, ?_, ?_, ?_, ?_⟩
    · rw [Nat.mul_comm j 4]; exact hc _ _ h0
    · rw [Nat.mul_comm j 4, Nat.add_assoc]; exact hc _ _ h1
    · rw [Nat.mul_comm j 4, Nat.add_assoc]; exact hc _ _ h2
    · rw [Nat.mul_comm j 4, Nat.add_assoc]; exact hc _ _ h3
theorem lawCells_one (l : List Lot) : ∀ u ∈ lawCells l, u.oneCell' = true := by
  intro u hu
  obtain ⟨x, _, hx⟩ := List.mem_flatMap.1 hu
  simp [lawCell] at hx
  rcases hx with rfl | rfl | rfl | rfl <;> rfl

set_option maxHeartbeats 8000000 in
set_option maxRecDepth 100000 in
theorem houseBays_any {w : World} {gv lv : Value} {g : List Int} {l : List ByteArray} (hG : Glob w) (hg : Rd w 1 gv g.length (icells g)) (hgl : g.length < 9223372036854775807) (hv : Rd w 1 lv l.length (strCells l))
    (hl : ∀ s ∈ l, s.size ≤ 140737488355328) (hln : l.length ≤ 9223372036854775807) :
    Calls Tryz.prog 3 #[gv, lv] w (IdxPost w (.bool true)) := by
  obtain ⟨lo, lc, hve, hlc, _⟩ := hv.shape
  subst hve
  obtain ⟨go_, gc, hge, hgc, _⟩ := hg.shape
  subst hge
  have H16 := Lib.hid (opened2_any hG hg (Nat.le_of_lt hgl))
  have HG := Lib.hid hG; clear hG
  have HGR := Lib.hid hg; clear hg
  have HV := Lib.hid hv; clear hv
  have HL := Lib.hid hl; clear hl
  cases hb : baysB (g.take 10) with
  | false =>
    have HB := Lib.hid hb; clear hb
    go_enter Tryz.func3, Tryz.ntmps3
    go_wp2_with (first
      | (go_at_call 4; refine H16.out.mono ?_; rintro e w1 ⟨hk1, _, hbad⟩; obtain ⟨d1, rfl⟩ := hbad HB.out; have HK1 := Lib.hid hk1; clear hk1 hbad)
      | (go_at_call 5; refine Calls.mono (awake_any (HG.out.keep HK1.out)) ?_; rintro e w4 ⟨rfl, hk4⟩; have HK4 := Lib.hid hk4; clear hk4))
    go_ret
    exact ⟨rfl, HK1.out.trans HK4.out (fun _ _ h => h)⟩
  | true =>
    have hgr : Graph (g.take 10) ∧ (g.take 10).length = 8 := by
      unfold baysB at hb
      simp only [Bool.and_eq_true, beq_iff_eq] at hb
      exact ⟨validB_true.1 hb.1, hb.2⟩
    have hg8 : g.length = 8 := by have := hgr.2; rw [List.length_take] at this; omega
    have htk : g.take 10 = g := List.take_of_length_le (by omega)
    rw [htk] at H16 hb hgr
    have HB := Lib.hid hb; have HGRAPH := Lib.hid hgr.1; have HG8 := Lib.hid hg8; clear hb hgr htk
    obtain ⟨m, hm⟩ : ∃ m, (min (l.length : Int) 60).toNat = m := ⟨_, rfl⟩
    have hml : m ≤ l.length := by omega
    have hm60 : m ≤ 60 := by omega
    have hm0 : (0 : Int) ≤ min (l.length : Int) 60 := by omega
    have hm1 : min (l.length : Int) 60 ≤ (lc : Int) := by omega
    rw [hg8]
    clear hg8
    go_enter Tryz.func3, Tryz.ntmps3
    rw [← HG8.out]
    go_wp2_with (first
      | (go_at_call 4; refine H16.out.mono ?_; rintro e w1 ⟨hk1, hok, _⟩; obtain ⟨H1, rfl, hh1, hf1⟩ := hok HB.out; have HONE := Lib.hid (show One w H1 (S0 g) [] w1 from ⟨hh1, hf1, hk1⟩); clear hk1 hok hh1 hf1))
    rw [HG8.out]
    obtain ⟨b1, hb1⟩ : ∃ x, H1.h = x := ⟨_, rfl⟩
    obtain ⟨d1, hd1⟩ : ∃ x, H1.d = x := ⟨_, rfl⟩
    rw [hb1, hd1]
    have HE := Lib.hid (And.intro hb1 hd1); clear hb1 hd1
    go_loopg [31] m (fun gh s31 wx => BRelO w g b1 d1 m gh s31 wx)
    case atStart => exact ⟨0, H1, _, _, rfl, Nat.zero_le _, rfl, HE.out.1, HE.out.2, HONE.out, .nil _, Nat.le_refl _, KI.start _, BI.start _⟩
    case round =>
      obtain ⟨j, ⟨x1, y1, v1, V1, vl1⟩, S, ls, rfl, hj, rfl, e1, e2, hone, hrep, hlsj, hki, hbi⟩ := hrel
      simp only at e1 e2
      subst e1 e2
      have hcat := cat_length_le hrep
      have HTW := Lib.hid hone
      have HREP := Lib.hid hrep
      have HKI := Lib.hid hki
      have HBI := Lib.hid hbi
      clear hone hrep hki hbi HONE HE
      by_cases hlt : j < m
      · have hjl : ((j : Int) < (m : Int)) = True := by simp; omega
        have hjn : j < l.length := by omega
        have hrd := HV.out.keep HTW.out.keep (fun _ _ h => h)
        obtain ⟨b, o, hao, hcell⟩ : ∃ b o, lo = some ⟨b, o, none⟩ ∧ wr.cell? ⟨b, o + j, none⟩ = some (.string (l.getD j ByteArray.empty)) := by
          rcases hrd.2.2 with ⟨h, h'⟩ | ⟨b, o, c, h, _, _, hx⟩
          · omega
          · injection h with h1 h2 h3
            exact ⟨b, o, h1, hx _ _ (strCells_get l j hjn)⟩
        subst hao
        have hsz := HL.out (l.getD j ByteArray.empty) (by simp [List.getD, List.getElem?_eq_getElem hjn])
        obtain ⟨s, hs⟩ : ∃ s, l.getD j ByteArray.empty = s := ⟨_, rfl⟩
        rw [hs] at hcell hsz
        clear hs hrd
        obtain ⟨re, ro, ls2, rs, hstep, hrep2, hk2, hbi2, hll⟩ := bays_step s HGRAPH.out HG8.out HREP.out HKI.out HBI.out (by omega) (by omega)
        have HIN := Lib.hid (rep_inv (baysB_8 HB.out) HREP.out)
        have HIN2 := Lib.hid (rep_inv (baysB_8 HB.out) hrep2)
        have HST := Lib.hid hstep; have HREP2 := Lib.hid hrep2; have HK2 := Lib.hid hk2; have HBI2 := Lib.hid hbi2
        have hgr2 : ∀ x ∈ rs.lots, x.grams ≤ 999999999999 := fun x hx => by have h1 := (tot_ge (fun y hy => (hk2.l y hy).2.1)).2 x hx; have := hk2.t; omega
        have HGR2 := Lib.hid hgr2
        clear hstep hrep2 hk2 hbi2 hgr2
        go_upto_region 8 with (go_at_call 6; have hh := hdo_any (F := runF) (HG.out.keep HTW.out.keep) HTW.out.keep.size HTW.out.h (HIN.out.small (by omega)) (by omega) (by omega) (run_ok HIN.out (by omega) s); rw [HST.out] at hh; refine Calls.mono hh ?_; clear hh; rintro e w5 ⟨⟨x3, y3, v3, V3, vl3⟩, rfl, h3, hc3⟩; obtain rfl : x1 = x3 := hc3.h.symm; obtain rfl : y1 = y3 := hc3.d.symm; have HTW2 := Lib.hid (HTW.out.step h3 hc3); clear h3 hc3)
        go_upto_region 9 with (go_at_call 7; have hh := lots_any (HG.out.keep HTW2.out.keep) HTW2.out.h HIN2.out HK2.out.l HGR2.out; refine Calls.mono hh ?_; clear hh; rintro e w7 ⟨v7, rfl, ho7, hk7⟩; have HTW3 := Lib.hid (HTW2.out.idle hk7); obtain ⟨ao7, c7, rfl, hc7, _⟩ := ownsRow_shape ho7; have HLO := Lib.hid ho7; clear ho7 hk7)
        go_wp2_with fail
        obtain ⟨L, hL⟩ : ∃ L, rs.lots = L := ⟨_, rfl⟩
        rw [hL] at HLO hc7 ⊢
        have HLL := Lib.hid hL
        have hL20 : L.length ≤ 20 := by rw [← hL]; exact HIN2.out.l
        clear hL
        go_loopw [47] (BRelI w7 L.length) (fun v _ => L.length - (intOf v).toNat)
        case atStart => exact ⟨0, Nat.zero_le _, rfl, Keep.refl _ _⟩
        case round =>
          obtain ⟨i, hi, rfl, hki⟩ := hrel
          have HKI7 := Lib.hid hki
          clear hki
          by_cases hil : i < L.length
          · obtain ⟨g2, o2, c2, x, hvv, hx, e0, e1, e2, e3⟩ := rd_law ((ownsRow_rd HLO.out (lawCells_one _)).keep HKI7.out (fun _ _ h => h)) hil
            injection hvv with q1 q2 q3
            subst q1 q3
            have hiL : ((i : Int) < (L.length : Int)) = True := eq_true (by omega)
            have hi0 : (0 : Int) ≤ (i : Int) := by omega
            have hic : (i : Int) ≤ (c7 : Int) := by omega
            have hwi : IntKind.i64.wrap ((i : Int) + 1) = (i : Int) + 1 := IntWalk.i64_in _ ⟨by omega, by omega⟩
            have hxm : x ∈ rs.lots := by rw [HLL.out]; exact mem_at hx
            have hxk := HK2.out.l x hxm
            have hxc := HBI2.out.c x hxm
            have HX := Lib.hid hx
            have HIL := Lib.hid hil
            obtain ⟨xs, hxs⟩ : ∃ v, x.spice = v := ⟨_, rfl⟩
            obtain ⟨xg, hxg⟩ : ∃ v, x.grams = v := ⟨_, rfl⟩
            obtain ⟨xb, hxb⟩ : ∃ v, x.bay = v := ⟨_, rfl⟩
            obtain ⟨xo, hxo⟩ : ∃ v, (!x.closed) = v := ⟨_, rfl⟩
            rw [hxs] at e0; rw [hxg] at e1; rw [hxb] at e2; rw [hxo] at e3
            have hxcl : xo = false → xb < 0 := fun e => by rw [← hxb]; exact hxc (by rw [e] at hxo; simpa using hxo)
            have HXV := Lib.hid (And.intro hxs hxb)
            have HX7 := Lib.hid (show xb ≤ 7 by rw [← hxb]; exact hxk.2.2.2)
            obtain ⟨w8, hw8⟩ : ∃ w8, w8 = wr.alloc (.cells #[.string xs, .int .i64 xg, .int .i64 xb, .bool xo] 37) := ⟨_, rfl⟩
            have hb8 := Blk.new wr #[.string xs, .int .i64 xg, .int .i64 xb, .bool xo] 37
            have hk8 : Keep (fun _ => False) w7 w8 := by rw [hw8]; exact HKI7.out.alloc _
            rw [← hw8] at hb8
            have HB8 := Lib.hid hb8; have HK8 := Lib.hid hk8; have HW8 := Lib.hid hw8
            clear hxs hxg hxb hxo hx hxm hxk hxc hb8 hk8 hw8 q2 hil hi
            cases xo with
            | true =>
              go_upto_region 14 with fail
              rw [← HW8.out]
              have z2 := HB8.out.cell 2; have z3 := HB8.out.cell 3
              simp at z2 z3
              go_upto_region 16 with fail
              go_wp2_with fail
              clear e0 e1 e2 e3 z2 z3
              go_loopw [64] (BRelI w8 i) (fun v _ => i - (intOf v).toNat)
              case atStart => exact ⟨0, Nat.zero_le _, rfl, Keep.refl _ _⟩
              case round =>
                obtain ⟨k, hk, rfl, hkk⟩ := hrel
                have HKK := Lib.hid hkk
                clear hkk
                by_cases hki : k < i
                · have hkL : k < L.length := by have := HIL.out; omega
                  obtain ⟨g3, o3, c3, y, hvv, hy, e0, e1, e2, e3⟩ := rd_law ((ownsRow_rd HLO.out (lawCells_one _)).keep (HK8.out.trans HKK.out (fun _ _ h => h)) (fun _ _ h => h)) hkL
                  injection hvv with q1 q2 q3
                  injection q1 with q1
                  injection q1 with q4 q5 q6
                  subst q4 q5 q3
                  have hkiI : ((k : Int) < (i : Int)) = True := eq_true (by omega)
                  have hwk : IntKind.i64.wrap ((k : Int) + 1) = (k : Int) + 1 := IntWalk.i64_in _ ⟨by omega, by omega⟩
                  have hbx := HB8.out.keep HKK.out (fun h => h)
                  have hyk := HK2.out.l y (by rw [HLL.out]; exact mem_at hy)
                  have hokp := HBI2.out.p i k x y (by omega) (by rw [HLL.out]; exact HX.out) (by rw [HLL.out]; exact hy)
                  unfold okP at hokp
                  rw [HXV.out.1, HXV.out.2] at hokp
                  obtain ⟨ys, hys⟩ : ∃ v, y.spice = v := ⟨_, rfl⟩
                  obtain ⟨yg, hyg⟩ : ∃ v, y.grams = v := ⟨_, rfl⟩
                  obtain ⟨yb, hyb⟩ : ∃ v, y.bay = v := ⟨_, rfl⟩
                  obtain ⟨yo, hyo⟩ : ∃ v, (!y.closed) = v := ⟨_, rfl⟩
                  rw [hys] at e0 hokp; rw [hyg] at e1; rw [hyb] at e2 hokp; rw [hyo] at e3
                  have hy7 : yb ≤ 7 := by rw [← hyb]; exact hyk.2.2.2
                  obtain ⟨w9, hw9⟩ : ∃ w9, w9 = wr.alloc (.cells #[.string ys, .int .i64 yg, .int .i64 yb, .bool yo] 37) := ⟨_, rfl⟩
                  have hb9 := Blk.new wr #[.string ys, .int .i64 yg, .int .i64 yb, .bool yo] 37
                  have hk9 : Keep (fun _ => False) wr w9 := by rw [hw9]; exact (Keep.refl _ _).alloc _
                  rw [← hw9] at hb9
                  have hbx9 := hbx.keep hk9 (fun h => h)
                  have HKI2 := Lib.hid hki
                  go_upto_region 19 with fail
                  rw [← hw9]
                  have z0 := hbx9.cell 0; have z2 := hbx9.cell 2
                  have t0 := hb9.cell 0; have t2 := hb9.cell 2
                  simp at z0 z2 t0 t2
                  have HK9 := Lib.hid (HKK.out.trans hk9 (fun _ _ h => h))
                  clear e0 e1 e2 e3 hys hyg hyb hyo hy hyk hb9 hk9 hbx hbx9 hw9 q2 q6 hki hk
                  by_cases hx0 : xb < 0
                  · have q1 : (xb < 0) = True := eq_true hx0
                    clear hokp hx0
                    go_wp2_with fail
                    go_roundw
                    case rel => exact ⟨k + 1, HKI2.out, by go_num, HK9.out⟩
                    case measure => have := HKI2.out; simp [intOf]; omega
                  by_cases hy0 : yb < 0
                  · have q1 : (xb < 0) = False := eq_false hx0
                    have q2 : (yb < 0) = True := eq_true hy0
                    clear hokp hx0 hy0
                    go_wp2_with fail
                    go_roundw
                    case rel => exact ⟨k + 1, HKI2.out, by go_num, HK9.out⟩
                    case measure => have := HKI2.out; simp [intOf]; omega
                  have q1 : (xb < 0) = False := eq_false hx0
                  have q2 : (yb < 0) = False := eq_false hy0
                  obtain ⟨hne, hadj⟩ := hokp (by omega) (by omega)
                  obtain ⟨bn, rfl⟩ : ∃ n : Nat, xb = n := ⟨xb.toNat, by omega⟩
                  obtain ⟨c, rfl⟩ : ∃ n : Nat, yb = n := ⟨yb.toNat, by omega⟩
                  have hb8i : ((bn : Int) < 8) = True := eq_true (by have := HX7.out; omega)
                  have hb0i : (0 : Int) ≤ (bn : Int) := by omega
                  have heq : ((bn : Int) == (c : Int)) = false := by rw [beq_eq_false_iff_ne]; exact hne
                  obtain ⟨gb, ob, hvb, hbc⟩ : ∃ gb ob, go_ = some ⟨gb, ob, none⟩ ∧ w9.cell? ⟨gb, ob + bn, none⟩ = some (.int .i64 (g.getD bn 0)) := by
                    have hrb := ((HGR.out.keep HTW3.out.keep (fun _ _ h => h)).keep HK8.out (fun _ _ h => h)).keep HK9.out (fun _ _ h => h)
                    rcases hrb.2.2 with ⟨_, e⟩ | ⟨gb, ob, cb, e, _, _, hx⟩
                    · have := HG8.out; omega
                    · injection e with r1 r2 r3
                      exact ⟨gb, ob, r1, hx bn _ (icells_get _ _ (by have := HG8.out; have := HX7.out; omega))⟩
                  subst hvb
                  obtain ⟨q, hq⟩ : ∃ q, g.getD bn 0 = q := ⟨_, rfl⟩
                  have hadj' : xs ≠ ys → (q / 2 ^ c % 2 == 1) = false := fun hn => by have := hadj hn; unfold adjG at this; rw [Int.toNat_natCast, Int.toNat_natCast, hq] at this; exact this
                  rw [hq] at hbc
                  have a1 := i64_and_one
                  clear hadj hq hne
                  cases hbit : (q / 2 ^ c % 2 == 1) with
                  | true =>
                    have hsp : xs = ys := by
                      cases Classical.em (xs = ys) with
                      | inl h => exact h
                      | inr h => rw [hadj' h] at hbit; cases hbit
                    subst hsp
                    have hsn : (xs.toList != xs.toList) = false := by simp
                    clear hadj'
                    go_upto_region 20 with fail
                    go_quiet (fail)
                    go_wp2_with fail
                    go_roundw
                    case rel => exact ⟨k + 1, HKI2.out, by go_num, HK9.out.drewN _⟩
                    case measure => have := HKI2.out; simp [intOf]; omega
                  | false =>
                    clear hadj'
                    go_upto_region 20 with fail
                    go_quiet (fail)
                    go_wp2_with fail
                    go_roundw
                    case rel => exact ⟨k + 1, HKI2.out, by go_num, HK9.out.drewN _⟩
                    case measure => have := HKI2.out; simp [intOf]; omega
                · have hkiI : ((k : Int) < (i : Int)) = False := eq_false (by omega)
                  clear hki hk
                  go_wp2_with fail
                  go_roundw
                  case rel => exact ⟨i + 1, HIL.out, by go_num, HK8.out.trans HKK.out (fun _ _ h => h)⟩
                  case measure => have := HIL.out; simp [intOf]; omega
            | false =>
              have hxb0 := hxcl rfl
              have hq0 : ((0 : Int) ≤ xb) = False := eq_false (by omega)
              go_upto_region 14 with fail
              rw [← HW8.out]
              have z2 := HB8.out.cell 2; have z3 := HB8.out.cell 3
              simp at z2 z3
              go_upto_region 16 with fail
              go_wp2_with fail
              clear e0 e1 e2 e3 z2 z3
              go_loopw [64] (BRelI w8 i) (fun v _ => i - (intOf v).toNat)
              case atStart => exact ⟨0, Nat.zero_le _, rfl, Keep.refl _ _⟩
              case round =>
                obtain ⟨k, hk, rfl, hkk⟩ := hrel
                have HKK := Lib.hid hkk
                clear hkk
                by_cases hki : k < i
                · have hkL : k < L.length := by have := HIL.out; omega
                  obtain ⟨g3, o3, c3, y, hvv, hy, e0, e1, e2, e3⟩ := rd_law ((ownsRow_rd HLO.out (lawCells_one _)).keep (HK8.out.trans HKK.out (fun _ _ h => h)) (fun _ _ h => h)) hkL
                  injection hvv with q1 q2 q3
                  injection q1 with q1
                  injection q1 with q4 q5 q6
                  subst q4 q5 q3
                  have hkiI : ((k : Int) < (i : Int)) = True := eq_true (by omega)
                  have hwk : IntKind.i64.wrap ((k : Int) + 1) = (k : Int) + 1 := IntWalk.i64_in _ ⟨by omega, by omega⟩
                  have hbx := HB8.out.keep HKK.out (fun h => h)
                  have hyk := HK2.out.l y (by rw [HLL.out]; exact mem_at hy)
                  have hokp := HBI2.out.p i k x y (by omega) (by rw [HLL.out]; exact HX.out) (by rw [HLL.out]; exact hy)
                  unfold okP at hokp
                  rw [HXV.out.1, HXV.out.2] at hokp
                  obtain ⟨ys, hys⟩ : ∃ v, y.spice = v := ⟨_, rfl⟩
                  obtain ⟨yg, hyg⟩ : ∃ v, y.grams = v := ⟨_, rfl⟩
                  obtain ⟨yb, hyb⟩ : ∃ v, y.bay = v := ⟨_, rfl⟩
                  obtain ⟨yo, hyo⟩ : ∃ v, (!y.closed) = v := ⟨_, rfl⟩
                  rw [hys] at e0 hokp; rw [hyg] at e1; rw [hyb] at e2 hokp; rw [hyo] at e3
                  have hy7 : yb ≤ 7 := by rw [← hyb]; exact hyk.2.2.2
                  obtain ⟨w9, hw9⟩ : ∃ w9, w9 = wr.alloc (.cells #[.string ys, .int .i64 yg, .int .i64 yb, .bool yo] 37) := ⟨_, rfl⟩
                  have hb9 := Blk.new wr #[.string ys, .int .i64 yg, .int .i64 yb, .bool yo] 37
                  have hk9 : Keep (fun _ => False) wr w9 := by rw [hw9]; exact (Keep.refl _ _).alloc _
                  rw [← hw9] at hb9
                  have hbx9 := hbx.keep hk9 (fun h => h)
                  have HKI2 := Lib.hid hki
                  go_upto_region 19 with fail
                  rw [← hw9]
                  have z0 := hbx9.cell 0; have z2 := hbx9.cell 2
                  have t0 := hb9.cell 0; have t2 := hb9.cell 2
                  simp at z0 z2 t0 t2
                  have HK9 := Lib.hid (HKK.out.trans hk9 (fun _ _ h => h))
                  clear e0 e1 e2 e3 hys hyg hyb hyo hy hyk hb9 hk9 hbx hbx9 hw9 q2 q6 hki hk
                  by_cases hx0 : xb < 0
                  · have q1 : (xb < 0) = True := eq_true hx0
                    clear hokp hx0
                    go_wp2_with fail
                    go_roundw
                    case rel => exact ⟨k + 1, HKI2.out, by go_num, HK9.out⟩
                    case measure => have := HKI2.out; simp [intOf]; omega
                  exact absurd hxb0 hx0
                · have hkiI : ((k : Int) < (i : Int)) = False := eq_false (by omega)
                  clear hki hk
                  go_wp2_with fail
                  go_roundw
                  case rel => exact ⟨i + 1, HIL.out, by go_num, HK8.out.trans HKK.out (fun _ _ h => h)⟩
                  case measure => have := HIL.out; simp [intOf]; omega
          · have hiL : ((i : Int) < (L.length : Int)) = False := eq_false (by omega)
            clear hil hi
            go_wp2_with fail
            go_roundg (m - (j + 1))
            case measure => omega
            case rel => exact ⟨j + 1, ⟨x1, y1, v3, V3, vl3⟩, rs, ls2, rfl, by omega, by go_num, rfl, rfl, HTW3.out.idle HKI7.out, HREP2.out, by omega, HK2.out, HBI2.out⟩
      · have hje : j = m := by omega
        subst hje
        have hjl : ((j : Int) < (j : Int)) = False := by simp
        go_wp2_with (first
          | (go_at_call 5; refine Calls.mono (awake_any (HG.out.keep HTW.out.keep)) ?_; rintro e w4 ⟨rfl, hk4⟩; have HK4 := Lib.hid hk4; clear hk4))
        go_ret
        exact ⟨rfl, HTW.out.keep.trans HK4.out (fun _ _ h => h)⟩
end Go.Proofs.YteokloipniiakacGreatDoor
