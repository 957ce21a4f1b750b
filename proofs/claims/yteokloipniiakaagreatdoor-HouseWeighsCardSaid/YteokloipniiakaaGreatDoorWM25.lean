/- house.state.list, text; House.State. -/
import Derived.Test.YteokloipniiakaaGreatDoorWM24
import Derived.Test.YteokloipniiakaaGreatDoorWM23
import Derived.Test.YteokloipniiakaaGreatDoorWM10
import Derived.Deep.LoopGhost
import Derived.Deep.DeepCutAuto

/- house.state.list, text; House.State. -/
namespace Go.Proofs.YteokloipniiakaaGreatDoor
set_option linter.unusedSimpArgs false
set_option linter.unusedVariables false
set_option linter.unnecessarySimpa false
open Go.RowKit

def LsRel (w : World) (l : List Lot) (gh : Nat) (s3 s13 : Value) (wx : World) : Prop :=
  ∃ k : Nat, gh = l.length - k ∧ k ≤ l.length ∧ s3 = .string (listN l k) ∧ s13 = .int .i64 k ∧ Keep (fun _ => False) w wx

set_option maxHeartbeats 2000000 in
set_option maxRecDepth 100000 in
theorem list_any {w : World} {V : StV} {S : St} {m : Nat} (hG : Glob w) (h : StAt w V S) (hI : Inv m S) : Calls Tryz.prog 50 #[.pointer (some ⟨V.b, 0, none⟩)] w (IdxPost w (.string (listF S.lots))) := by
  obtain ⟨lo, lc, hve, hlc, _⟩ := h.rl.shape
  have c1 := h.blk.cell 1
  simp [StV.cells] at c1
  rw [hve] at c1
  have hrl := h.rl
  rw [hve] at hrl
  have hl20 := hI.l
  have HRL := Lib.hid hrl
  have HI := Lib.hid hI
  have HG := Lib.hid hG
  clear h hve hrl hI hG
  go_enter Tryz.func50, Tryz.ntmps50
  go_wp2
  go_loopg [3, 13] S.lots.length (fun gh s3 s13 wx => LsRel w S.lots gh s3 s13 wx)
  case atStart => exact ⟨0, rfl, Nat.zero_le _, rfl, rfl, Keep.refl _ _⟩
  case round =>
    obtain ⟨k, rfl, hk, rfl, rfl, hkw⟩ := hrel
    have HK := Lib.hid hkw; clear hkw
    obtain ⟨acc, hacc⟩ : ∃ acc, listN S.lots k = acc := ⟨_, rfl⟩
    have hasz := listN_size HI.out.lo k hk (by omega)
    rw [hacc] at hasz
    rw [hacc]
    have HACC := Lib.hid hacc; clear hacc
    by_cases hlt : k < S.lots.length
    · have hjl : ((k : Int) < (S.lots.length : Int)) = True := by simp; omega
      have hrd := HRL.out.keep HK.out (fun _ _ h => h)
      obtain ⟨b, o, hao, hcell⟩ : ∃ b o, lo = some ⟨b, o, none⟩ ∧ ∀ i, i < 4 → wr.cell? ⟨b, o + (k * 4 + i), none⟩ = (lotCell S.lots[k])[i]? := by
        rcases hrd.2.2 with ⟨h, h'⟩ | ⟨b, o, c, h, _, _, hx⟩
        · omega
        · injection h with h1 h2 h3
          refine ⟨b, o, h1, fun i hi => ?_⟩
          have e := lotCells_get S.lots k i hlt hi
          have : ∃ u, (lotCell S.lots[k])[i]? = some u := ⟨(lotCell S.lots[k])[i]'(by simp [lotCell]; omega), List.getElem?_eq_getElem _⟩
          obtain ⟨u, hu⟩ := this
          rw [hu]
          exact hx _ u (e.trans hu)
      subst hao
      have hok := HI.out.lo S.lots[k] (by simp)
      obtain ⟨A, hA⟩ : ∃ A, S.lots[k] = A := ⟨_, rfl⟩
      have hnext : listN S.lots (k + 1) = acc ++ (bs [32] ++ lotS k A) := by
        simp only [listN, HACC.out]
        rw [show S.lots.getD k ⟨bs [], 0, 0, false⟩ = A by rw [← hA]; simp [List.getD, List.getElem?_eq_getElem hlt]]
      rw [hA] at hcell hok
      obtain ⟨sp, gr, by_, cl⟩ := A
      have c0 := hcell 0 (by omega)
      have c1 := hcell 1 (by omega)
      have c2 := hcell 2 (by omega)
      have c3 := hcell 3 (by omega)
      simp [lotCell] at c0 c1 c2 c3
      simp only [← Nat.add_assoc] at c1 c2 c3
      have HGR := Lib.hid hok.g
      obtain ⟨bay, hbay⟩ : ∃ s, bayS ⟨sp, gr, by_, cl⟩ = s := ⟨_, rfl⟩
      obtain ⟨is, his⟩ : ∃ s, isS ⟨sp, gr, by_, cl⟩ = s := ⟨_, rfl⟩
      obtain ⟨jb, hjb⟩ : ∃ s, lotS k ⟨sp, gr, by_, cl⟩ = s := ⟨_, rfl⟩
      have hjz := lotS_size hok (i := k) (by omega)
      have hby := hok.b
      simp only at hby
      rw [hjb] at hjz hnext
      have hj2 : jbs [itoaB ((k : Int) + 1), sp, itoaB gr, bay, is] (bs [58]) = jb := by rw [← hjb, ← hbay, ← his]; rfl
      have HJ := Lib.hid hj2
      have HJZ : Hid ((jbs [itoaB ((k : Int) + 1), sp, itoaB gr, bay, is] (bs [58])).size ≤ 140737488355328) := Lib.hid (by rw [hj2]; omega)
      have HNX := Lib.hid hnext
      have HBAY := Lib.hid hbay
      have HIS := Lib.hid his
      have hs1 : (9223372036854775807 < 1 + jb.size) = False := eq_false (by omega)
      have hs2 : (9223372036854775807 < acc.size + (1 + jb.size)) = False := eq_false (by omega)
      clear hcell hA hrd hok hj2 hjb hnext hbay his
      have HB0 := Lib.hid (Blk.new wr #[.string sp, .int .i64 gr, .int .i64 by_, .bool cl] 104)
      have HK0 := Lib.hid (HK.out.alloc (.cells #[.string sp, .int .i64 gr, .int .i64 by_, .bool cl] 104))
      go_upto_if 20 with fail
      clear c0 c1 c2 c3
      go_cut [6] (fun s6 wx => s6 = .string bay ∧ Blk wx wr.heap.size #[.string sp, .int .i64 gr, .int .i64 by_, .bool cl] 104 ∧ Keep (fun _ => False) w wx)
      case first =>
        have c2 := HB0.out.cell 2
        simp at c2
        by_cases hb0 : 0 ≤ by_
        · have hbt : ((0 : Int) ≤ by_) = True := eq_true hb0
          have hbs : bay = itoaB by_ := by rw [← HBAY.out]; unfold bayS; rw [if_pos (by exact hb0)]
          have HBS := Lib.hid hbs; clear hbs
          go_wp2_with (go_at_call 41; refine Calls.mono (itoa_any (HG.out.keep HK0.out) (by omega) (by omega)) ?_; rintro e w2 ⟨rfl, hk2⟩; have HK2 := Lib.hid hk2; clear hk2)
          go_meet
          exact ⟨by rw [HBS.out], HB0.out.keep HK2.out (fun h => h), HK0.out.trans HK2.out (fun _ _ h => h)⟩
        · have hbt : ((0 : Int) ≤ by_) = False := eq_false hb0
          have hbs : bay = bs [45] := by rw [← HBAY.out]; unfold bayS; rw [if_neg (by exact hb0)]
          have HBS := Lib.hid hbs; clear hbs
          go_wp2
          go_meet
          exact ⟨by rw [HBS.out]; rfl, HB0.out, HK0.out⟩
      case rest =>
        obtain ⟨rfl, hb1, hk1⟩ := hcut
        have HB1 := Lib.hid hb1
        have HK1 := Lib.hid hk1
        clear hb1 hk1
        have c0 := HB1.out.cell 0
        have c1 := HB1.out.cell 1
        have c3 := HB1.out.cell 3
        simp at c0 c1 c3
        obtain ⟨wb, hwb⟩ : ∃ wb, wb = wc := ⟨_, rfl⟩
        go_upto_if 25 with fail
        go_cut [7] (fun s7 wx => s7 = .string is ∧ wb = wx)
        case first =>
          cases hcl : cl with
          | true =>
            subst hcl
            have hbs : is = bs [99, 108, 111, 115, 101, 100] := by rw [← HIS.out]; rfl
            have HBS := Lib.hid hbs; clear hbs
            go_wp2
            go_meet
            exact ⟨by rw [HBS.out]; rfl, hwb⟩
          | false =>
            subst hcl
            have hbs : is = bs [111, 112, 101, 110] := by rw [← HIS.out]; rfl
            have HBS := Lib.hid hbs; clear hbs
            go_wp2
            go_meet
            exact ⟨by rw [HBS.out]; rfl, hwb⟩
        case rest =>
          subst hwb
          obtain ⟨rfl, rfl⟩ := hcut
          have HGB := Lib.hid (HG.out.keep HK1.out)
          have HSA : Hid (∀ W, Keep (fun _ => False) wb W → (W.cell? ⟨wr.heap.size, 0, none⟩ = some (.string sp) ∧ W.cell? ⟨wr.heap.size, 1, none⟩ = some (.int .i64 gr))) := Lib.hid fun W hk => by
            have h1 := (HB1.out.keep hk (fun h => h)).cell 0
            have h2 := (HB1.out.keep hk (fun h => h)).cell 1
            simp at h1 h2
            exact ⟨h1, h2⟩
          clear c3
          have hwk : IntKind.i64.wrap ((k : Int) + 1) = (k : Int) + 1 := IntWalk.i64_in _ (by omega)
          go_upto_region 10 with fail
          refine wp_region_noPanic ?_
          refine wp_region_held_drew (S := fun W => W.cell? ⟨wr.heap.size, 0, none⟩ = some (.string sp) ∧ W.cell? ⟨wr.heap.size, 1, none⟩ = some (.int .i64 gr)) (by kernel_rfl) (HSA.out _ (Keep.refl (fun _ => False) wb).drew) (fun hHeld => ?_)
          refine wpAnyH_take (i := 0) (oi := _) (v := ?_) rfl (by kernel_rfl) (by kernel_rfl) (by kernel_rfl) (fun _ _ _ h => h) (Or.inl ⟨by rfl, ?_⟩) (by assumption) ?_
          rotate_left
          · (intro w hSw; (try dsimp only at hSw); go_simp) <;> with_reducible rfl
          (try simp only [List.getElem_toArray, List.getElem_cons_zero, List.getElem_cons_succ, Act.put, List.setIfInBounds_toArray, List.set_cons_zero, List.set_cons_succ])
          refine wpAnyH_take (i := 1) (oi := _) (v := ?_) rfl (by kernel_rfl) (by kernel_rfl) (by kernel_rfl) (fun _ _ _ h => h) (Or.inl ⟨by rfl, ?_⟩) (by assumption) ?_
          rotate_left
          · (intro w hSw; (try dsimp only at hSw); go_simp) <;> with_reducible rfl
          (try simp only [List.getElem_toArray, List.getElem_cons_zero, List.getElem_cons_succ, Act.put, List.setIfInBounds_toArray, List.set_cons_zero, List.set_cons_succ])
          refine wpAnyH_take (i := 2) (oi := _) (v := ?_) rfl (by kernel_rfl) (by kernel_rfl) (by kernel_rfl) (fun _ _ _ h => h) (Or.inl ⟨by rfl, ?_⟩) (by assumption) ?_
          rotate_left
          · (intro w hSw; (try dsimp only at hSw); go_simp) <;> with_reducible rfl
          (try simp only [List.getElem_toArray, List.getElem_cons_zero, List.getElem_cons_succ, Act.put, List.setIfInBounds_toArray, List.set_cons_zero, List.set_cons_succ])
          refine wpAnyH_take (i := 4) (oi := _) (v := ?_) rfl (by kernel_rfl) (by kernel_rfl) (by kernel_rfl) (fun _ _ _ h => h) (Or.inl ⟨by rfl, ?_⟩) (by assumption) ?_
          rotate_left
          · (intro w hSw; (try dsimp only at hSw); go_simp) <;> with_reducible rfl
          (try simp only [List.getElem_toArray, List.getElem_cons_zero, List.getElem_cons_succ, Act.put, List.setIfInBounds_toArray, List.set_cons_zero, List.set_cons_succ])
          refine wpAnyH_take (i := 5) (oi := _) (v := ?_) rfl (by kernel_rfl) (by kernel_rfl) (by kernel_rfl) (fun _ _ _ h => h) (Or.inl ⟨by rfl, ?_⟩) (by assumption) ?_
          rotate_left
          · (intro w hSw; (try dsimp only at hSw); go_simp) <;> with_reducible rfl
          (try simp only [List.getElem_toArray, List.getElem_cons_zero, List.getElem_cons_succ, Act.put, List.setIfInBounds_toArray, List.set_cons_zero, List.set_cons_succ])
          refine wpAnyH_take (i := 6) (oi := _) (v := ?_) rfl (by kernel_rfl) (by kernel_rfl) (by kernel_rfl) (fun _ _ _ h => h) (Or.inl ⟨by rfl, ?_⟩) (by assumption) ?_
          rotate_left
          · (intro w hSw; (try dsimp only at hSw); go_simp) <;> with_reducible rfl
          (try simp only [List.getElem_toArray, List.getElem_cons_zero, List.getElem_cons_succ, Act.put, List.setIfInBounds_toArray, List.set_cons_zero, List.set_cons_succ])
          refine wpAnyH_take (i := 7) (oi := _) (v := ?_) rfl (by kernel_rfl) (by kernel_rfl) (by kernel_rfl) (fun _ _ _ h => h) (Or.inl ⟨by rfl, ?_⟩) (by assumption) ?_
          rotate_left
          · (intro w hSw; (try dsimp only at hSw); go_simp) <;> with_reducible rfl
          (try simp only [List.getElem_toArray, List.getElem_cons_zero, List.getElem_cons_succ, Act.put, List.setIfInBounds_toArray, List.set_cons_zero, List.set_cons_succ])
          refine wpAnyH_take (i := 9) (oi := _) (v := ?_) rfl (by kernel_rfl) (by kernel_rfl) (by kernel_rfl) (fun _ _ _ h => h) (Or.inl ⟨by rfl, ?_⟩) (by assumption) ?_
          rotate_left
          · (intro w hSw; (try dsimp only at hSw); go_simp) <;> with_reducible rfl
          (try simp only [List.getElem_toArray, List.getElem_cons_zero, List.getElem_cons_succ, Act.put, List.setIfInBounds_toArray, List.set_cons_zero, List.set_cons_succ])
          refine wpAnyH_take (i := 10) (oi := _) (v := ?_) rfl (by kernel_rfl) (by kernel_rfl) (by kernel_rfl) (fun _ _ _ h => h) (Or.inl ⟨by rfl, ?_⟩) (by assumption) ?_
          rotate_left
          · (intro w hSw; (try dsimp only at hSw); go_simp) <;> with_reducible rfl
          (try simp only [List.getElem_toArray, List.getElem_cons_zero, List.getElem_cons_succ, Act.put, List.setIfInBounds_toArray, List.set_cons_zero, List.set_cons_succ])
          refine wpAnyH_ready (rs := [3]) (by kernel_rfl) (by simp) ?_
          refine AllReadyH.cons (o := _) rfl (fun K hK => ?_) AllReadyH.nil
          go_simp
          refine Calls.mono (itoa_any (HGB.out.keep (show Keep (fun _ => False) wb _ by repeat (first | exact HKR.out | exact Keep.refl _ _ | apply Keep.drew | apply Keep.drewN | apply Keep.alloc))) (by omega) (by omega)) ?_
          rintro e' Wc ⟨rfl, hkc⟩
          have HKRC := Lib.hid (Keep.trans (show Keep (fun _ => False) wb _ by repeat (first | exact HKR.out | exact Keep.refl _ _ | apply Keep.drew | apply Keep.drewN | apply Keep.alloc)) hkc (fun _ _ h => h))
          have HKR := HKRC
          clear HKRC hkc
          (try dsimp only)
          refine hK.out _ _ ?_ (fun hHeld => ?_)
          · ((try dsimp only); refine HSA.out _ ?_; repeat (first | exact HKR.out | exact Keep.refl _ _ | apply Keep.drew | apply Keep.drewN | apply Keep.alloc))
          clear hK K
          (try simp only [List.getElem_toArray, List.getElem_cons_zero, List.getElem_cons_succ, Act.put, List.setIfInBounds_toArray, List.set_cons_zero, List.set_cons_succ])
          refine wpAnyH_ready (rs := [8]) (by kernel_rfl) (by simp) ?_
          refine AllReadyH.cons (o := _) rfl (fun K hK => ?_) AllReadyH.nil
          go_simp
          refine Calls.mono (itoa_any (HGB.out.keep (show Keep (fun _ => False) wb _ by repeat (first | exact HKR.out | exact Keep.refl _ _ | apply Keep.drew | apply Keep.drewN | apply Keep.alloc))) HGR.out.1 HGR.out.2) ?_
          rintro e' Wc ⟨rfl, hkc⟩
          have HKRC := Lib.hid (Keep.trans (show Keep (fun _ => False) wb _ by repeat (first | exact HKR.out | exact Keep.refl _ _ | apply Keep.drew | apply Keep.drewN | apply Keep.alloc)) hkc (fun _ _ h => h))
          have HKR := HKRC
          clear HKRC hkc
          (try dsimp only)
          refine hK.out _ _ ?_ (fun hHeld => ?_)
          · ((try dsimp only); refine HSA.out _ ?_; repeat (first | exact HKR.out | exact Keep.refl _ _ | apply Keep.drew | apply Keep.drewN | apply Keep.alloc))
          clear hK K
          (try simp only [List.getElem_toArray, List.getElem_cons_zero, List.getElem_cons_succ, Act.put, List.setIfInBounds_toArray, List.set_cons_zero, List.set_cons_succ])
          refine wpAnyH_ready (rs := [11]) (by kernel_rfl) (by simp) ?_
          refine AllReadyH.cons (o := _) rfl (fun K hK => ?_) AllReadyH.nil
          go_simp
          refine hK.out _ _ ?_ (fun hHeld => ?_)
          · ((try dsimp only); refine HSA.out _ ?_; repeat (first | exact HKR.out | exact Keep.refl _ _ | apply Keep.drew | apply Keep.drewN | apply Keep.alloc))
          clear hK K
          (try simp only [List.getElem_toArray, List.getElem_cons_zero, List.getElem_cons_succ, Act.put, List.setIfInBounds_toArray, List.set_cons_zero, List.set_cons_succ])
          refine wpAnyH_ready (rs := [12]) (by kernel_rfl) (by simp) ?_
          refine AllReadyH.cons (o := _) rfl (fun K hK => ?_) AllReadyH.nil
          go_simp
          refine Calls.mono (join_row (xs := [itoaB ((k : Int) + 1), sp, itoaB gr, bay, is]) (ownsRow_one (base := 0) (Blk.new _ _ 9) (Nat.zero_le _) rfl (by unfold maxLen; omega)) (by simp) HJZ.out) ?_
          rintro e' Wj ⟨rfl, hkc⟩
          have HKRC := Lib.hid (Keep.trans (show Keep (fun _ => False) wb _ by repeat (first | exact HKR.out | exact Keep.refl _ _ | apply Keep.drew | apply Keep.drewN | apply Keep.alloc)) hkc (fun _ _ h => h))
          have HKR := HKRC
          clear HKRC hkc
          rw [show jbs [itoaB ((k : Int) + 1), sp, itoaB gr, bay, is] ⟨#[58]⟩ = jb from HJ.out]
          (try dsimp only)
          refine hK.out _ _ ?_ (fun hHeld => ?_)
          · ((try dsimp only); refine HSA.out _ ?_; repeat (first | exact HKR.out | exact Keep.refl _ _ | apply Keep.drew | apply Keep.drewN | apply Keep.alloc))
          clear hK K
          (try simp only [List.getElem_toArray, List.getElem_cons_zero, List.getElem_cons_succ, Act.put, List.setIfInBounds_toArray, List.set_cons_zero, List.set_cons_succ])
          refine wpAnyH_take (i := 13) (oi := _) (v := ?_) rfl (by kernel_rfl) (by kernel_rfl) (by kernel_rfl) (fun _ _ _ h => h) (Or.inl ⟨by rfl, ?_⟩) (by assumption) ?_
          rotate_left
          · (intro w hSw; (try dsimp only at hSw); go_simp) <;> with_reducible rfl
          (try simp only [List.getElem_toArray, List.getElem_cons_zero, List.getElem_cons_succ, Act.put, List.setIfInBounds_toArray, List.set_cons_zero, List.set_cons_succ])
          refine wpAnyH_take (i := 14) (oi := _) (v := ?_) rfl (by kernel_rfl) (by kernel_rfl) (by kernel_rfl) (fun _ _ _ h => h) (Or.inl ⟨by rfl, ?_⟩) (by assumption) ?_
          rotate_left
          · (intro w hSw; (try dsimp only at hSw); go_simp) <;> with_reducible rfl
          (try simp only [List.getElem_toArray, List.getElem_cons_zero, List.getElem_cons_succ, Act.put, List.setIfInBounds_toArray, List.set_cons_zero, List.set_cons_succ])
          refine wpAnyH_ready (rs := [15]) (by kernel_rfl) (by simp) ?_
          refine AllReadyH.cons (o := _) rfl (fun K hK => ?_) AllReadyH.nil
          go_simp
          refine hK.out _ _ ?_ (fun hHeld => ?_)
          · ((try dsimp only); refine HSA.out _ ?_; repeat (first | exact HKR.out | exact Keep.refl _ _ | apply Keep.drew | apply Keep.drewN | apply Keep.alloc))
          clear hK K
          (try simp only [List.getElem_toArray, List.getElem_cons_zero, List.getElem_cons_succ, Act.put, List.setIfInBounds_toArray, List.set_cons_zero, List.set_cons_succ])
          refine wpAnyH_done (by kernel_rfl) ?_ _
          refine NoPanic.normal ?_
          go_wp2
          go_roundg (S.lots.length - (k + 1))
          case measure => omega
          case rel => exact ⟨k + 1, rfl, by omega, by rw [HNX.out]; rfl, by go_num, HK1.out.trans HKR.out (fun _ _ h => h)⟩
    · have hje : k = S.lots.length := by omega
      subst hje
      have hjl : ((S.lots.length : Int) < (S.lots.length : Int)) = False := by simp
      go_wp2
      go_ret
      exact ⟨by rw [← HACC.out]; rfl, HK.out⟩

end Go.Proofs.YteokloipniiakaaGreatDoor

/- House.Ask at the question for all lots. -/
namespace Go.Proofs.YteokloipniiakaaGreatDoor
set_option linter.unusedSimpArgs false
set_option linter.unusedVariables false
set_option linter.unnecessarySimpa false
open Go.RowKit

def lotsB : ByteArray := ⟨#[108, 111, 116, 115]⟩
theorem lotsB_line : isLineB lotsB = true := by kernel_rfl
theorem lotsB_is : (lotsB.toList == [108, 111, 116, 115]) = true := by kernel_rfl
set_option maxHeartbeats 1000000 in
set_option maxRecDepth 100000 in
theorem reply_lots {w : World} {V : StV} {S : St} {m : Nat} (hG : Glob w) (h : StAt w V S) (hI : Inv m S) : Calls Tryz.prog 35 #[.pointer (some ⟨V.b, 0, none⟩), .string lotsB] w (IdxPost w (.tuple #[.string (listF S.lots), .int .i64 0])) := by
  obtain ⟨s, hs⟩ : ∃ s, lotsB = s := ⟨_, rfl⟩
  have hl := lotsB_line
  have hi := lotsB_is
  have hz : s.size = 4 := by rw [← hs]; rfl
  rw [hs] at hl hi ⊢
  clear hs
  have HL := Lib.hid hl; have HZ := Lib.hid hz; have HG := Lib.hid hG; have H := Lib.hid h; have HI := Lib.hid hI
  clear hl hz hG h hI
  go_enter Tryz.func35, Tryz.ntmps35
  go_wp2_with (first
    | (go_at_call 38; refine (isLine_any HG.out (by rw [HZ.out]; omega)).mono ?_; rintro e w1 ⟨he, hk1⟩; rw [HL.out] at he; subst he; have HK1 := Lib.hid hk1; clear hk1)
    | (go_at_call 49; obtain ⟨mx, hm⟩ := (HG.out.keep HK1.out).maxlen; refine (Tryz.strings_Cut s ⟨#[32]⟩ mx w1 (by rw [HZ.out]; omega) hm).mono ?_; clear hm; rintro e w2 ⟨rfl, n2, h2⟩; have HK2 := Lib.hid (HK1.out.trans (h2 ▸ (Keep.refl _ w1).drewN n2) (fun _ _ h => h)); clear h2)
    | (go_at_call 50; refine (list_any (HG.out.keep HK2.out) (H.out.keep HK2.out (fun _ _ h => h)) HI.out).mono ?_; rintro e w3 ⟨rfl, hk3⟩; have HK3 := Lib.hid (HK2.out.trans hk3 (fun _ _ h => h)); clear hk3))
  go_ret2
  exact ⟨rfl, HK3.out⟩
set_option maxHeartbeats 1000000 in
set_option maxRecDepth 100000 in
theorem ask_lots {base : Nat} {w : World} {H : HV} {D : Dsk} {S : St} {ls : List ByteArray} {lost : Bool} {m : Nat} (hG : Glob w) (h : HouseAt base w H D S ls lost) (hI : Inv m S) :
    Calls Tryz.prog 19 #[.pointer (some ⟨H.h, 0, none⟩), .string lotsB] w (IdxPost w (.tuple #[.string (listF S.lots), .int .i64 0])) := by
  have c1 := h.blk.cell 1
  simp at c1
  have HN := Lib.hid (hnone_any h)
  have HR := Lib.hid (reply_lots hG h.st hI)
  clear hG h hI
  go_enter Tryz.func19, Tryz.ntmps19
  go_wp2_with (first
    | (go_at_call 14; refine HN.out.mono ?_; rintro e w' ⟨rfl, rfl⟩)
    | (go_at_call 35; refine HR.out.mono ?_; rintro e w3 ⟨rfl, hk3⟩; have HK3 := Lib.hid hk3; clear hk3))
  go_ret2
  exact ⟨rfl, HK3.out⟩
end Go.Proofs.YteokloipniiakaaGreatDoor

/- The reply to lots, read back word by word: plain Lean. -/
namespace Go.Proofs.YteokloipniiakaaGreatDoor
set_option linter.unusedSimpArgs false
set_option linter.unusedVariables false
set_option linter.unnecessarySimpa false
open Go.RowKit

theorem joinTail_snoc (sep : List UInt8) (r : List (List UInt8)) (y : List UInt8) : Lib.joinTail sep (r ++ [y]) = Lib.joinTail sep r ++ (sep ++ y) := by
  simp [Lib.joinTail]
theorem jbs_snoc (x : ByteArray) (xs : List ByteArray) (y sep : ByteArray) : jbs (x :: (xs ++ [y])) sep = jbs (x :: xs) sep ++ (sep ++ y) := by
  apply ByteArray.ext; apply Array.toList_inj.1
  simp [jbs, Lib.join_cons, joinTail_snoc]
def d0 : Lot := ⟨bs [], 0, 0, false⟩
def lotWs (l : List Lot) (k : Nat) : List ByteArray := (List.range k).map fun i => lotS i (l.getD i d0)
theorem listN_join (l : List Lot) : ∀ k, listN l k = jbs (lotsB :: lotWs l k) (bs [32]) := by
  intro k
  induction k with
  | zero =>
    apply ByteArray.ext; apply Array.toList_inj.1
    simp [listN, lotWs, jbs, Lib.join_one, lotsB, bs]
  | succ k ih =>
    have e : lotWs l (k + 1) = lotWs l k ++ [lotS k (l.getD k d0)] := by simp [lotWs, List.range_succ]
    rw [e, jbs_snoc, ← ih]
    rfl
/-- A byte that stands in no part. -/
def okC (c : UInt8) : Prop := c ≠ 58 ∧ c ≠ 32
theorem okC_range {c : UInt8} (h : c.toNat ≠ 58 ∧ c.toNat ≠ 32) : okC c := ⟨fun e => h.1 (by rw [e]; rfl), fun e => h.2 (by rw [e]; rfl)⟩
theorem itoa_ok {n : Int} (h : 0 ≤ n) : ∀ c ∈ (itoaB n).data.toList, okC c := by
  obtain ⟨u, rfl⟩ : ∃ u : Nat, n = u := ⟨n.toNat, by omega⟩
  intro c hc
  have e : (itoaB (u : Int)).data.toList = Lib.decDigits u := by simp [itoaB, Lib.itoa_nonneg]
  rw [e] at hc
  have hd := digB_iff.1 (List.all_eq_true.1 (numV_dec u).1 c hc)
  exact okC_range (by omega)
theorem spice_ok {s : ByteArray} (h : s.data.toList.any badS = false) : ∀ c ∈ s.data.toList, okC c := by
  intro c hc
  have hb : badS c = false := by
    cases hb : badS c with
    | false => rfl
    | true => rw [List.any_eq_true.2 ⟨c, hc, hb⟩] at h; cases h
  unfold badS at hb
  simp only [Bool.or_eq_false_iff, decide_eq_false_iff_not] at hb
  exact okC_range (by omega)
theorem bay_ok {x : Lot} : ∀ c ∈ (bayS x).data.toList, okC c := by
  intro c hc
  unfold bayS at hc
  split at hc
  · exact itoa_ok (by omega) c hc
  · have : c = 45 := by simpa [bs] using hc
    subst this; exact ⟨by decide, by decide⟩
theorem is_ok (x : Lot) : ∀ c ∈ (isS x).data.toList, okC c := by
  have h1 : ∀ c ∈ (bs [99, 108, 111, 115, 101, 100]).data.toList, okC c := by unfold okC; decide
  have h2 : ∀ c ∈ (bs [111, 112, 101, 110]).data.toList, okC c := by unfold okC; decide
  unfold isS
  split
  · exact h1
  · exact h2
def partsOf (i : Nat) (x : Lot) : List ByteArray := [itoaB ((i : Int) + 1), x.spice, itoaB x.grams, bayS x, isS x]
theorem parts_ok {i : Nat} {x : Lot} (h : LotK x) : ∀ y ∈ partsOf i x, ∀ c ∈ y.data.toList, okC c := by
  intro y hy
  simp only [partsOf, List.mem_cons, List.not_mem_nil, or_false] at hy
  rcases hy with rfl | rfl | rfl | rfl | rfl
  · exact itoa_ok (by omega)
  · exact spice_ok h.1
  · exact itoa_ok h.2.1
  · exact bay_ok
  · exact is_ok x
theorem lotS_parts {i : Nat} {x : Lot} (h : LotK x) : splC 58 (lotS i x) = partsOf i x := splC_join 58 _ _ (fun y hy hc => (parts_ok (i := i) h y hy 58 hc).1 rfl)
theorem mem_join {sep c : UInt8} : ∀ (xs : List (List UInt8)), c ∈ Lib.join xs [sep] → c = sep ∨ ∃ y ∈ xs, c ∈ y := by
  intro xs
  induction xs with
  | nil => intro h; simp [Lib.join_nil] at h
  | cons x r ih =>
    intro h
    cases r with
    | nil => rw [Lib.join_one] at h; exact .inr ⟨x, List.mem_cons_self .., h⟩
    | cons y r =>
      rw [join_two'] at h
      rcases List.mem_append.1 h with h | h
      · exact .inr ⟨x, List.mem_cons_self .., h⟩
      · rcases List.mem_append.1 h with h | h
        · exact .inl (List.mem_singleton.1 h)
        · rcases ih h with h | ⟨z, hz, hc⟩
          · exact .inl h
          · exact .inr ⟨z, List.mem_cons_of_mem _ hz, hc⟩
theorem lotS_no32 {i : Nat} {x : Lot} (h : LotK x) : (32 : UInt8) ∉ (lotS i x).data.toList := by
  intro hc
  have hc' : (32 : UInt8) ∈ Lib.join ((partsOf i x).map (·.data.toList)) [58] := by simpa [lotS, jbs, bs, partsOf] using hc
  rcases mem_join _ hc' with h2 | ⟨y, hy, h2⟩
  · exact absurd h2 (by decide)
  · obtain ⟨z, hz, rfl⟩ := List.mem_map.1 hy
    exact (parts_ok h z hz 32 h2).2 rfl
theorem getD_mem {l : List Lot} {k : Nat} (h : k < l.length) : l.getD k d0 ∈ l := by
  have e : l.getD k d0 = l[k] := by simp [List.getD, h]
  rw [e]; exact List.getElem_mem h
theorem list_words {l : List Lot} (h : ∀ x ∈ l, LotK x) : words (listF l) = lotsB :: lotWs l l.length := by
  show splC 32 (listN l l.length) = _
  rw [listN_join]
  refine splC_join 32 _ _ (fun y hy => ?_)
  rcases List.mem_cons.1 hy with rfl | hy
  · decide
  · obtain ⟨i, hi, rfl⟩ := List.mem_map.1 hy
    exact lotS_no32 (h _ (getD_mem (List.mem_range.1 hi)))
theorem lotWs_len (l : List Lot) (k : Nat) : (lotWs l k).length = k := by simp [lotWs]
theorem lotWs_at {l : List Lot} {k j : Nat} (h : j < k) : (lotWs l k)[j]? = some (lotS j (l.getD j d0)) := by simp [lotWs, h]
theorem listF_size {m : Nat} {S : St} (hI : Inv m S) : (listF S.lots).size ≤ 2424 := by
  have := listN_size (l := S.lots) hI.lo S.lots.length (Nat.le_refl _) (by have := hI.l; omega)
  have h2 := hI.l
  unfold listF
  omega
/-- The bay's word. -/
theorem numR_bay {x : Lot} (h : LotK x) : (0 ≤ x.bay → numR (bayS x) = (x.bay, true)) ∧ (x.bay < 0 → bayS x = bs [45] ∧ x.bay = -1) := by
  refine ⟨fun h0 => ?_, fun h0 => ?_⟩
  · unfold bayS
    rw [if_pos h0]
    exact numR_itoa h0 (by have := h.2.2.2; omega)
  · unfold bayS
    rw [if_neg (by omega)]
    exact ⟨rfl, by have := h.2.2.1; omega⟩
/-- A lot as the law keeps it. -/
def lawCell (x : Lot) : List Value := [.string x.spice, .int .i64 x.grams, .int .i64 x.bay, .bool (!x.closed)]
def lawCells (l : List Lot) : List Value := l.flatMap lawCell
theorem lawCells_len (l : List Lot) : (lawCells l).length = l.length * 4 := by
  induction l with
  | nil => rfl
  | cons a l ih => show (lawCell a ++ lawCells l).length = _; rw [List.length_append, ih]; simp [lawCell]; omega
theorem lawCells_take {l : List Lot} {k : Nat} (h : k < l.length) : lawCells (l.take (k + 1)) = lawCells (l.take k) ++ lawCell (l.getD k d0) := by
  have e : l.getD k d0 = l[k] := by simp [List.getD, h]
  rw [List.take_succ_eq_append_getElem h, e]
  unfold lawCells
  rw [List.flatMap_append]
  simp only [List.flatMap_cons, List.flatMap_nil, List.append_nil]
theorem lawCells_at : ∀ (l : List Lot) {j : Nat} {x : Lot}, l[j]? = some x → (lawCells l)[4 * j]? = some (.string x.spice) ∧ (lawCells l)[4 * j + 1]? = some (.int .i64 x.grams) ∧ (lawCells l)[4 * j + 2]? = some (.int .i64 x.bay) ∧ (lawCells l)[4 * j + 3]? = some (.bool (!x.closed))
  | [], j, x, h => by simp at h
  | a :: l, 0, x, h => by
    simp at h; subst h
    exact ⟨rfl, rfl, rfl, rfl⟩
  | a :: l, j + 1, x, h => by
    have ih := lawCells_at l (j := j) (x := x) (by simpa using h)
    have e : lawCells (a :: l) = .string a.spice :: .int .i64 a.grams :: .int .i64 a.bay :: .bool (!a.closed) :: lawCells l := rfl
    rw [e, show 4 * (j + 1) = 4 * j + 1 + 1 + 1 + 1 by omega]
    simpa using ih
end Go.Proofs.YteokloipniiakaaGreatDoor

/- The law's own reader of the reply to lots, walked. -/
namespace Go.Proofs.YteokloipniiakaaGreatDoor
set_option linter.unusedSimpArgs false
set_option linter.unusedVariables false
set_option linter.unnecessarySimpa false
open Go.RowKit

theorem splitC_any {w : World} {s : ByteArray} (c : UInt8) (hG : Glob w) (hs : s.size ≤ 4096) : Calls Tryz.prog 7 #[.string s, .string ⟨#[c]⟩] w fun e w' => e = .returned (.slice (some ⟨w.heap.size, 0, none⟩) (splC c s).length (splC c s).length) ∧ w' = w.alloc (.cells ((splC c s).map Value.string).toArray 9) := by
  obtain ⟨m, hm⟩ := hG.maxlen
  have hl : (splC c s).length = Lib.countB s ⟨#[c]⟩ + 1 := Lib.splitB_all ⟨#[c]⟩ (Nat.le_refl 1) 0 _ s rfl
  refine (Tryz.strings_Split s ⟨#[c]⟩ m w (by omega) hm (Nat.le_refl 1)).mono ?_
  rintro e w' ⟨rfl, rfl⟩
  exact ⟨by rw [hl], rfl⟩
theorem info40 : (Tryz.prog.info? 40).map (fun i => (i.zero, i.size, i.bytes)) = some (some (.agg #[.string ⟨#[]⟩, .int .i64 0, .int .i64 0, .bool false]), 4, 40) := by kernel_rfl
def LotsPost (w : World) (l : List Lot) (e : Ending) (w' : World) : Prop := ∃ v, e = .returned (.tuple #[v, .bool true]) ∧ w'.ownsRow w.heap.size 40 4 v l.length (lawCells l) ∧ Keep (fun _ => False) w w'
/-- What the loop over the words keeps. -/
def LRel (w w2 : World) (l : List Lot) (v27 v6 : Value) (wr : World) : Prop := ∃ j : Nat, j ≤ l.length ∧ v27 = .int .i64 j ∧ wr.ownsRow w2.heap.size 40 4 v6 j (lawCells (l.take j)) ∧ Keep (fun _ => False) w2 wr

set_option maxHeartbeats 6000000 in
set_option maxRecDepth 100000 in
theorem lots_any {base : Nat} {w : World} {H : HV} {D : Dsk} {S : St} {ls : List ByteArray} {lost : Bool} {m : Nat} (hG : Glob w) (h : HouseAt base w H D S ls lost) (hI : Inv m S) (hK : ∀ x ∈ S.lots, LotK x) (hg : ∀ x ∈ S.lots, x.grams ≤ 999999999999) :
    Calls Tryz.prog 9 #[.pointer (some ⟨H.h, 0, none⟩)] w (LotsPost w S.lots) := by
  obtain ⟨l, hl⟩ : ∃ l, S.lots = l := ⟨_, rfl⟩
  obtain ⟨s, hs⟩ : ∃ s, listF S.lots = s := ⟨_, rfl⟩
  have hsz := listF_size hI
  rw [hs] at hsz
  have hask := ask_lots hG h hI
  rw [hs] at hask
  have hw := list_words hK
  rw [hs, hl] at hw
  have hlen : l.length ≤ 20 := by rw [← hl]; exact hI.l
  rw [hl] at hK hg ⊢
  have HIO := Lib.hid hI.lo
  rw [hl] at HIO
  have HSZ := Lib.hid (fun x (hx : x ∈ S.lots) (j : Nat) (hj : j ≤ 1000000) => lotS_size (hI.lo x hx) hj)
  rw [hl] at HSZ
  clear hs hl h hI
  have hwl : (words s).length - 1 = l.length := by rw [hw]; simp [lotWs_len]
  have hw1 : 1 ≤ (words s).length := by rw [hw]; simp
  have hwj : ∀ j, j < l.length → (words s).getD (1 + j) ByteArray.empty = lotS j (l.getD j d0) := fun j hj => by
    rw [hw, Nat.add_comm 1 j]
    simp only [List.getD_cons_succ]
    simp [List.getD, lotWs_at hj]
  have hS : ∀ W, Glob W → Calls Tryz.prog 7 #[.string s, .string ⟨#[32]⟩] W (SplitPost W s) := fun W g => split_any g (by omega)
  obtain ⟨nn, hnn⟩ : ∃ nn, (words s).length = nn := ⟨_, rfl⟩
  have HASK := Lib.hid hask; have HG := Lib.hid hG; have HWJ := Lib.hid hwj; have HS := Lib.hid hS; have HK := Lib.hid hK; have HGR := Lib.hid hg
  have HCELL := Lib.hid (fun (W : World) (j : Nat) (hj : j < (words s).length) => words_cell W s j hj)
  have HNN := Lib.hid hnn
  rw [hnn] at hwl hw1
  have hwi : (1 : Int) ≤ (nn : Int) := by omega
  have HW1 := Lib.hid hw1
  clear hask hG hwj hS hK hg hw hnn hw1 hsz
  go_enter Tryz.func9, Tryz.ntmps9
  go_wp2_with (first
    | (go_at_call 19; refine HASK.out.mono ?_; rintro e w1 ⟨rfl, hk1⟩; have HK1 := Lib.hid hk1; clear hk1)
    | (go_at_call 7; refine (HS.out _ (HG.out.keep HK1.out)).mono ?_; rintro e w2 ⟨he, h2⟩; rw [HNN.out] at he; subst he; have H2 := Lib.hid h2; clear h2))
  · have h0 : l.length = 0 := by omega
    have HL := Lib.hid h0
    have HK2 : Hid (Keep (fun _ => False) w w2) := Lib.hid (by rw [H2.out]; exact HK1.out.alloc _)
    clear h0 hwl h hwi hlen
    go_loopw [27, 6] (LRel w w2 l) (fun v _ _ => l.length - (intOf v).toNat)
    case atStart => exact ⟨0, Nat.zero_le _, rfl, World.ownsRow_nil _ _ _ _, Keep.refl _ _⟩
    case round =>
      obtain ⟨j, hj, rfl, ho, hk⟩ := hrel
      obtain ⟨ao6, cap6, rfl, _⟩ := ownsRow_shape ho
      have hl0 : ((j : Int) < (l.length : Int)) = False := eq_false (by have := HL.out; omega)
      have HO := Lib.hid ho; have HKR := Lib.hid hk; have HJ := Lib.hid hj
      clear ho hk hj
      go_wp2
      go_ret2
      refine ⟨_, rfl, ?_, HK2.out.trans HKR.out (fun _ _ h => h)⟩
      have := HO.out
      have e : l = [] := List.eq_nil_of_length_eq_zero HL.out
      subst e
      have hj0 : j = 0 := by have := HJ.out; simpa using this
      subst hj0
      exact ownsRow_base this HK2.out.size
  · have HN1 := Lib.hid h
    have HK2 : Hid (Keep (fun _ => False) w w2) := Lib.hid (by rw [H2.out]; exact HK1.out.alloc _)
    have hcw : ∀ j, j < l.length → w2.cell? ⟨w1.heap.size, 1 + j, none⟩ = some (.string (lotS j (l.getD j d0))) := fun j hj => by
      have := HCELL.out w1 (1 + j) (by rw [HNN.out]; omega)
      rw [Nat.zero_add, HWJ.out j hj] at this
      rw [H2.out]; exact this
    have hz2 : w1.heap.size < w2.heap.size := by rw [H2.out, World.size_alloc]; omega
    have HCW := Lib.hid hcw
    clear hcw hwi hwl h H2
    go_loopw [27, 6] (LRel w w2 l) (fun v _ _ => l.length - (intOf v).toNat)
    case atStart => exact ⟨0, Nat.zero_le _, rfl, World.ownsRow_nil _ _ _ _, Keep.refl _ _⟩
    case round =>
      obtain ⟨j, hj, rfl, ho, hk⟩ := hrel
      obtain ⟨ao6, cap6, rfl, _⟩ := ownsRow_shape ho
      have HO := Lib.hid ho; have HKR := Lib.hid hk
      have hszr := hk.size
      clear ho
      by_cases hlt : j < l.length
      · have hc0 := (hk.cell (p := ⟨w1.heap.size, 1 + j, none⟩) hz2 (fun h => h)).trans (HCW.out j hlt)
        obtain ⟨x, hx⟩ : ∃ x, l.getD j d0 = x := ⟨_, rfl⟩
        have hmem : x ∈ l := hx ▸ getD_mem hlt
        have hlk := HK.out x hmem
        have hgx := HGR.out x hmem
        rw [hx] at hc0
        have hti := lawCells_take hlt
        rw [hx] at hti
        have hparts := lotS_parts (i := j) hlk
        have hlsz : (lotS j x).size ≤ 4096 := by
          have := HSZ.out x hmem j (by omega)
          omega
        have n0 := numR_itoa (n := (j : Int) + 1) (by omega) (by omega)
        have n2 := numR_itoa hlk.2.1 hgx
        have n3 := numR_bay hlk
        obtain ⟨sj, hsj⟩ : ∃ sj, lotS j x = sj := ⟨_, rfl⟩
        rw [hsj] at hc0 hparts hlsz
        obtain ⟨p0, hp0⟩ : ∃ p, itoaB ((j : Int) + 1) = p := ⟨_, rfl⟩
        obtain ⟨p2, hp2⟩ : ∃ p, itoaB x.grams = p := ⟨_, rfl⟩
        obtain ⟨p3, hp3⟩ : ∃ p, bayS x = p := ⟨_, rfl⟩
        obtain ⟨p4, hp4⟩ : ∃ p, isS x = p := ⟨_, rfl⟩
        have hb3 := bayS_size (HIO.out x hmem)
        have hb0 := itoaB_size ((j : Int) + 1) (by omega) (by omega)
        have hb2 := itoaB_size x.grams (by have := hlk.2.1; omega) (by omega)
        have hpt : partsOf j x = [p0, x.spice, p2, p3, p4] := by unfold partsOf; rw [hp0, hp2, hp3, hp4]
        rw [hpt] at hparts
        rw [hp0] at n0 hb0; rw [hp2] at n2 hb2; rw [hp3] at n3 hb3
        obtain ⟨w3, hw3⟩ : ∃ w3, w3 = wr.alloc (.cells #[.string p0, .string x.spice, .string p2, .string p3, .string p4] 9) := ⟨_, rfl⟩
        have hb := Blk.new wr #[.string p0, .string x.spice, .string p2, .string p3, .string p4] 9
        rw [← hw3] at hb
        have b0 := hb.cell 0; have b1 := hb.cell 1; have b2 := hb.cell 2; have b3 := hb.cell 3; have b4 := hb.cell 4
        simp at b0 b1 b2 b3 b4
        have HSP := Lib.hid (show Calls Tryz.prog 7 #[.string sj, .string ⟨#[58]⟩] wr (fun e w' => e = .returned (.slice (some ⟨wr.heap.size, 0, none⟩) 5 5) ∧ w' = w3) from (splitC_any 58 ((HG.out.keep HK2.out).keep hk) (by omega)).mono fun e w' ⟨he, h2⟩ => by
          rw [hparts] at he h2
          exact ⟨he, by rw [hw3, h2]; rfl⟩)
        have HN0 := Lib.hid (fun W => number_any (w := W) (s := p0) (by omega))
        have HN2 := Lib.hid (fun W => number_any (w := W) (s := p2) (by omega))
        have HN3 := Lib.hid (fun W => number_any (w := W) (s := p3) (by omega))
        rw [n0] at HN0; rw [n2] at HN2
        have HK3 : Hid (Keep (fun _ => False) wr w3) := Lib.hid (by rw [hw3]; exact (Keep.refl _ _).alloc _)
        have HLOT : Hid (∀ W, Keep (fun k => (Value.slice ao6 j cap6).ownBlock = some k) w3 W → W.cell? ⟨wr.heap.size, 1, none⟩ = some (.string x.spice) ∧ W.cell? ⟨wr.heap.size, 4, none⟩ = some (.string p4)) :=
          Lib.hid fun W hk => by
            have hn := hb.keep hk (fun e => by have := (ownsRow_lt HO.out _ e).2; omega)
            exact ⟨hn.cell 1, hn.cell 4⟩
        have HBS : Hid (w2.heap.size ≤ w3.heap.size) := Lib.hid (by have h2 := HKR.out.size; have h3 := HK3.out.size; omega)
        have HOW := Lib.hid (ownsRow_keep HO.out HK3.out (fun _ _ h => h))
        have hjj : IntKind.i64.wrap ((j : Int) + 1) = (j : Int) + 1 := IntWalk.i64_in _ ⟨by omega, by omega⟩
        have hji : ((j : Int) < (l.length : Int)) = True := eq_true (by omega)
        have HTI := Lib.hid hti
        have hopen : (p4.toList == [111, 112, 101, 110]) = !x.closed := by rw [← hp4]; unfold isS; cases x.closed <;> kernel_rfl
        have hclo : (p4.toList == [99, 108, 111, 115, 101, 100]) = x.closed := by rw [← hp4]; unfold isS; cases x.closed <;> kernel_rfl
        have hopenN : (p4.toList != [111, 112, 101, 110]) = x.closed := by rw [← hp4]; unfold isS; cases x.closed <;> kernel_rfl
        have hcloN : (p4.toList != [99, 108, 111, 115, 101, 100]) = !x.closed := by rw [← hp4]; unfold isS; cases x.closed <;> kernel_rfl
        have HLT := Lib.hid hlt
        have H7 := Lib.hid hlk.2.2.2
        clear hti hw3 hb hparts hmem hlk hgx hlsz n0 n2 hp0 hp2 hp3 hp4 hpt hx hsj hb0 hb2 hb3 hk hlt
        obtain ⟨xs, hxs⟩ : ∃ v, x.spice = v := ⟨_, rfl⟩
        obtain ⟨xg, hxg⟩ : ∃ v, x.grams = v := ⟨_, rfl⟩
        obtain ⟨xb, hxb⟩ : ∃ v, x.bay = v := ⟨_, rfl⟩
        obtain ⟨xc, hxc⟩ : ∃ v, x.closed = v := ⟨_, rfl⟩
        rw [hxs] at b1 HLOT
        rw [hxg] at HN2
        rw [hxb] at n3 H7
        rw [hxc] at hopen hclo hopenN hcloN
        have HX := Lib.hid (show lawCell x = [.string xs, .int .i64 xg, .int .i64 xb, .bool (!xc)] by unfold lawCell; rw [hxs, hxg, hxb, hxc])
        clear hxs hxg hxb hxc
        by_cases hbay : 0 ≤ xb
        · rw [n3.1 hbay] at HN3
          have h70 : ((7 : Int) < xb) = False := eq_false (by have := H7.out; omega)
          clear n3
          cases xc with
          | false =>
            simp only [Bool.not_false, Bool.not_true] at hopen hcloN
            go_upto_region 11 with (go_at_call 7; refine HSP.out.mono ?_; rintro e w4 ⟨rfl, rfl⟩)
            go_upto_region 12 with (go_at_call 8; refine (HN0.out _).mono ?_; rintro e w4 ⟨rfl, rfl⟩)
            go_upto_region 13 with (go_at_call 8; refine (HN2.out _).mono ?_; rintro e w4 ⟨rfl, rfl⟩)
            go_upto_region 14 with (go_at_call 8; refine (HN3.out _).mono ?_; rintro e w4 ⟨rfl, rfl⟩)
            go_upto_region 18 with fail
            obtain ⟨w5, hw5⟩ : ∃ w5, w5 = w4.alloc (.cells #[.string xs, .int .i64 xg, .int .i64 xb, .bool true] 40) := ⟨_, rfl⟩
            have hk5 : Keep (fun k => (Value.slice ao6 j cap6).ownBlock = some k) w4 w5 := by rw [hw5]; exact (Keep.refl _ _).alloc _
            have hsr := (Rd.new w4 4 1 [.string xs, .int .i64 xg, .int .i64 xb, .bool true] 40 rfl (by simp [Value.oneCell']) (by unfold maxLen; omega))
            rw [← hw5] at hsr
            have HSR := Lib.hid (hsr.drew.src Tryz.underlying36)
            have HO5 := Lib.hid (show w5.drew.ownsRow w2.heap.size 40 4 (.slice ao6 j cap6) j (lawCells (l.take j)) by rw [hw5]; exact HOW.out.alloc _)
            have HB5 : Hid (w2.heap.size ≤ w5.drew.heap.size) := Lib.hid (by rw [hw5]; show w2.heap.size ≤ (w4.alloc _).heap.size; rw [World.size_alloc]; exact Nat.le_succ_of_le HBS.out)
            have HK5 := Lib.hid hk5
            have HW5 := Lib.hid hw5
            clear hk5 hsr hw5
            refine wp_region_noPanic ?_
            refine wp_region_held_drew (S := fun W => W.cell? ⟨wr.heap.size, 1, none⟩ = some (.string xs) ∧ W.cell? ⟨wr.heap.size, 4, none⟩ = some (.string p4)) (by kernel_rfl) (HLOT.out _ (Keep.refl _ _).drew) (fun hHeld => ?_)
            refine wS 0 ?_
            refine wS 1 ?_
            refine wS 2 ?_
            refine wS 3 ?_
            refine wS 4 ?_
            refine wS 5 ?_
            refine wS 6 ?_
            refine wS 7 ?_
            refine wS 8 ?_
            refine wS 9 ?_
            refine wS 10 ?_
            refine wB 11 fun K hK => ?_
            go_simp
            rw [← HW5.out]
            refine hK.out _ _ ?_ fun hHeld => ?_
            · (try dsimp only); refine HLOT.out _ ?_; exact HK5.out.drew
            clear hK K
            (try simp only [tA])
            refine wB 12 fun K hK => ?_
            refine oper_app (w := w5.drew) (.tmp 98) (.tmp 109) 36 36 rfl 40 (.agg #[.string ⟨#[]⟩, .int .i64 0, .int .i64 0, .bool false]) 4 40 Tryz.underlying36 info40 rfl HO5.out rfl HSR.out rfl (by unfold maxLen; omega) (by omega) HB5.out (fun v' w7 happ => ?_)
            have HKA : Hid (Keep (fun k => (Value.slice ao6 j cap6).ownBlock = some k) w4 w7) := Lib.hid (HK5.out.drew.trans happ.keep (fun _ _ h => h))
            have HA := Lib.hid happ.own
            clear happ
            refine hK.out _ _ ?_ fun hHeld => ?_
            · (try dsimp only); refine HLOT.out _ ?_; exact HKA.out
            clear hK K
            (try simp only [tA])
            refine wS 13 ?_
            refine wpAnyH_done (by kernel_rfl) ?_ _
            refine NoPanic.normal ?_
            go_wp2
            go_roundw
            case rel =>
              refine ⟨j + 1, HLT.out, rfl, ?_, ?_⟩
              · have := HA.out
                rw [HTI.out, HX.out]
                exact this
              · refine (HKR.out.trans HK3.out (fun _ _ h => h)).trans HKA.out (fun k hk e => ?_)
                have := (ownsRow_lt HO.out k e).1
                omega
            case measure => have := HLT.out; simp [intOf]; omega
          | true =>
            simp only [Bool.not_false, Bool.not_true] at hopen hcloN
            go_upto_region 11 with (go_at_call 7; refine HSP.out.mono ?_; rintro e w4 ⟨rfl, rfl⟩)
            go_upto_region 12 with (go_at_call 8; refine (HN0.out _).mono ?_; rintro e w4 ⟨rfl, rfl⟩)
            go_upto_region 13 with (go_at_call 8; refine (HN2.out _).mono ?_; rintro e w4 ⟨rfl, rfl⟩)
            go_upto_region 14 with (go_at_call 8; refine (HN3.out _).mono ?_; rintro e w4 ⟨rfl, rfl⟩)
            go_upto_region 18 with fail
            obtain ⟨w5, hw5⟩ : ∃ w5, w5 = w4.alloc (.cells #[.string xs, .int .i64 xg, .int .i64 xb, .bool false] 40) := ⟨_, rfl⟩
            have hk5 : Keep (fun k => (Value.slice ao6 j cap6).ownBlock = some k) w4 w5 := by rw [hw5]; exact (Keep.refl _ _).alloc _
            have hsr := (Rd.new w4 4 1 [.string xs, .int .i64 xg, .int .i64 xb, .bool false] 40 rfl (by simp [Value.oneCell']) (by unfold maxLen; omega))
            rw [← hw5] at hsr
            have HSR := Lib.hid (hsr.drew.src Tryz.underlying36)
            have HO5 := Lib.hid (show w5.drew.ownsRow w2.heap.size 40 4 (.slice ao6 j cap6) j (lawCells (l.take j)) by rw [hw5]; exact HOW.out.alloc _)
            have HB5 : Hid (w2.heap.size ≤ w5.drew.heap.size) := Lib.hid (by rw [hw5]; show w2.heap.size ≤ (w4.alloc _).heap.size; rw [World.size_alloc]; exact Nat.le_succ_of_le HBS.out)
            have HK5 := Lib.hid hk5
            have HW5 := Lib.hid hw5
            clear hk5 hsr hw5
            refine wp_region_noPanic ?_
            refine wp_region_held_drew (S := fun W => W.cell? ⟨wr.heap.size, 1, none⟩ = some (.string xs) ∧ W.cell? ⟨wr.heap.size, 4, none⟩ = some (.string p4)) (by kernel_rfl) (HLOT.out _ (Keep.refl _ _).drew) (fun hHeld => ?_)
            refine wS 0 ?_
            refine wS 1 ?_
            refine wS 2 ?_
            refine wS 3 ?_
            refine wS 4 ?_
            refine wS 5 ?_
            refine wS 6 ?_
            refine wS 7 ?_
            refine wS 8 ?_
            refine wS 9 ?_
            refine wS 10 ?_
            refine wB 11 fun K hK => ?_
            go_simp
            rw [← HW5.out]
            refine hK.out _ _ ?_ fun hHeld => ?_
            · (try dsimp only); refine HLOT.out _ ?_; exact HK5.out.drew
            clear hK K
            (try simp only [tA])
            refine wB 12 fun K hK => ?_
            refine oper_app (w := w5.drew) (.tmp 98) (.tmp 109) 36 36 rfl 40 (.agg #[.string ⟨#[]⟩, .int .i64 0, .int .i64 0, .bool false]) 4 40 Tryz.underlying36 info40 rfl HO5.out rfl HSR.out rfl (by unfold maxLen; omega) (by omega) HB5.out (fun v' w7 happ => ?_)
            have HKA : Hid (Keep (fun k => (Value.slice ao6 j cap6).ownBlock = some k) w4 w7) := Lib.hid (HK5.out.drew.trans happ.keep (fun _ _ h => h))
            have HA := Lib.hid happ.own
            clear happ
            refine hK.out _ _ ?_ fun hHeld => ?_
            · (try dsimp only); refine HLOT.out _ ?_; exact HKA.out
            clear hK K
            (try simp only [tA])
            refine wS 13 ?_
            refine wpAnyH_done (by kernel_rfl) ?_ _
            refine NoPanic.normal ?_
            go_wp2
            go_roundw
            case rel =>
              refine ⟨j + 1, HLT.out, rfl, ?_, ?_⟩
              · have := HA.out
                rw [HTI.out, HX.out]
                exact this
              · refine (HKR.out.trans HK3.out (fun _ _ h => h)).trans HKA.out (fun k hk e => ?_)
                have := (ownsRow_lt HO.out k e).1
                omega
            case measure => have := HLT.out; simp [intOf]; omega
        · obtain ⟨hp3, hxb⟩ := n3.2 (by omega)
          have e3 : numR p3 = (0, false) := by rw [hp3]; exact numR_dash
          have q3 : (p3.toList != [45]) = false := by rw [hp3]; kernel_rfl
          have q4 : (p3.toList == [45]) = true := by rw [hp3]; kernel_rfl
          rw [e3] at HN3
          subst hxb
          clear n3 e3 hp3 hbay
          cases xc with
          | false =>
            simp only [Bool.not_false, Bool.not_true] at hopen hcloN
            go_upto_region 11 with (go_at_call 7; refine HSP.out.mono ?_; rintro e w4 ⟨rfl, rfl⟩)
            go_upto_region 12 with (go_at_call 8; refine (HN0.out _).mono ?_; rintro e w4 ⟨rfl, rfl⟩)
            go_upto_region 13 with (go_at_call 8; refine (HN2.out _).mono ?_; rintro e w4 ⟨rfl, rfl⟩)
            go_upto_region 14 with (go_at_call 8; refine (HN3.out _).mono ?_; rintro e w4 ⟨rfl, rfl⟩)
            go_upto_region 18 with fail
            obtain ⟨w5, hw5⟩ : ∃ w5, w5 = w4.alloc (.cells #[.string xs, .int .i64 xg, .int .i64 (-1), .bool true] 40) := ⟨_, rfl⟩
            have hk5 : Keep (fun k => (Value.slice ao6 j cap6).ownBlock = some k) w4 w5 := by rw [hw5]; exact (Keep.refl _ _).alloc _
            have hsr := (Rd.new w4 4 1 [.string xs, .int .i64 xg, .int .i64 (-1), .bool true] 40 rfl (by simp [Value.oneCell']) (by unfold maxLen; omega))
            rw [← hw5] at hsr
            have HSR := Lib.hid (hsr.drew.src Tryz.underlying36)
            have HO5 := Lib.hid (show w5.drew.ownsRow w2.heap.size 40 4 (.slice ao6 j cap6) j (lawCells (l.take j)) by rw [hw5]; exact HOW.out.alloc _)
            have HB5 : Hid (w2.heap.size ≤ w5.drew.heap.size) := Lib.hid (by rw [hw5]; show w2.heap.size ≤ (w4.alloc _).heap.size; rw [World.size_alloc]; exact Nat.le_succ_of_le HBS.out)
            have HK5 := Lib.hid hk5
            have HW5 := Lib.hid hw5
            clear hk5 hsr hw5
            refine wp_region_noPanic ?_
            refine wp_region_held_drew (S := fun W => W.cell? ⟨wr.heap.size, 1, none⟩ = some (.string xs) ∧ W.cell? ⟨wr.heap.size, 4, none⟩ = some (.string p4)) (by kernel_rfl) (HLOT.out _ (Keep.refl _ _).drew) (fun hHeld => ?_)
            refine wS 0 ?_
            refine wS 1 ?_
            refine wS 2 ?_
            refine wS 3 ?_
            refine wS 4 ?_
            refine wS 5 ?_
            refine wS 6 ?_
            refine wS 7 ?_
            refine wS 8 ?_
            refine wS 9 ?_
            refine wS 10 ?_
            refine wB 11 fun K hK => ?_
            go_simp
            rw [← HW5.out]
            refine hK.out _ _ ?_ fun hHeld => ?_
            · (try dsimp only); refine HLOT.out _ ?_; exact HK5.out.drew
            clear hK K
            (try simp only [tA])
            refine wB 12 fun K hK => ?_
            refine oper_app (w := w5.drew) (.tmp 98) (.tmp 109) 36 36 rfl 40 (.agg #[.string ⟨#[]⟩, .int .i64 0, .int .i64 0, .bool false]) 4 40 Tryz.underlying36 info40 rfl HO5.out rfl HSR.out rfl (by unfold maxLen; omega) (by omega) HB5.out (fun v' w7 happ => ?_)
            have HKA : Hid (Keep (fun k => (Value.slice ao6 j cap6).ownBlock = some k) w4 w7) := Lib.hid (HK5.out.drew.trans happ.keep (fun _ _ h => h))
            have HA := Lib.hid happ.own
            clear happ
            refine hK.out _ _ ?_ fun hHeld => ?_
            · (try dsimp only); refine HLOT.out _ ?_; exact HKA.out
            clear hK K
            (try simp only [tA])
            refine wS 13 ?_
            refine wpAnyH_done (by kernel_rfl) ?_ _
            refine NoPanic.normal ?_
            go_wp2
            go_roundw
            case rel =>
              refine ⟨j + 1, HLT.out, rfl, ?_, ?_⟩
              · have := HA.out
                rw [HTI.out, HX.out]
                exact this
              · refine (HKR.out.trans HK3.out (fun _ _ h => h)).trans HKA.out (fun k hk e => ?_)
                have := (ownsRow_lt HO.out k e).1
                omega
            case measure => have := HLT.out; simp [intOf]; omega
          | true =>
            simp only [Bool.not_false, Bool.not_true] at hopen hcloN
            go_upto_region 11 with (go_at_call 7; refine HSP.out.mono ?_; rintro e w4 ⟨rfl, rfl⟩)
            go_upto_region 12 with (go_at_call 8; refine (HN0.out _).mono ?_; rintro e w4 ⟨rfl, rfl⟩)
            go_upto_region 13 with (go_at_call 8; refine (HN2.out _).mono ?_; rintro e w4 ⟨rfl, rfl⟩)
            go_upto_region 14 with (go_at_call 8; refine (HN3.out _).mono ?_; rintro e w4 ⟨rfl, rfl⟩)
            go_upto_region 18 with fail
            obtain ⟨w5, hw5⟩ : ∃ w5, w5 = w4.alloc (.cells #[.string xs, .int .i64 xg, .int .i64 (-1), .bool false] 40) := ⟨_, rfl⟩
            have hk5 : Keep (fun k => (Value.slice ao6 j cap6).ownBlock = some k) w4 w5 := by rw [hw5]; exact (Keep.refl _ _).alloc _
            have hsr := (Rd.new w4 4 1 [.string xs, .int .i64 xg, .int .i64 (-1), .bool false] 40 rfl (by simp [Value.oneCell']) (by unfold maxLen; omega))
            rw [← hw5] at hsr
            have HSR := Lib.hid (hsr.drew.src Tryz.underlying36)
            have HO5 := Lib.hid (show w5.drew.ownsRow w2.heap.size 40 4 (.slice ao6 j cap6) j (lawCells (l.take j)) by rw [hw5]; exact HOW.out.alloc _)
            have HB5 : Hid (w2.heap.size ≤ w5.drew.heap.size) := Lib.hid (by rw [hw5]; show w2.heap.size ≤ (w4.alloc _).heap.size; rw [World.size_alloc]; exact Nat.le_succ_of_le HBS.out)
            have HK5 := Lib.hid hk5
            have HW5 := Lib.hid hw5
            clear hk5 hsr hw5
            refine wp_region_noPanic ?_
            refine wp_region_held_drew (S := fun W => W.cell? ⟨wr.heap.size, 1, none⟩ = some (.string xs) ∧ W.cell? ⟨wr.heap.size, 4, none⟩ = some (.string p4)) (by kernel_rfl) (HLOT.out _ (Keep.refl _ _).drew) (fun hHeld => ?_)
            refine wS 0 ?_
            refine wS 1 ?_
            refine wS 2 ?_
            refine wS 3 ?_
            refine wS 4 ?_
            refine wS 5 ?_
            refine wS 6 ?_
            refine wS 7 ?_
            refine wS 8 ?_
            refine wS 9 ?_
            refine wS 10 ?_
            refine wB 11 fun K hK => ?_
            go_simp
            rw [← HW5.out]
            refine hK.out _ _ ?_ fun hHeld => ?_
            · (try dsimp only); refine HLOT.out _ ?_; exact HK5.out.drew
            clear hK K
            (try simp only [tA])
            refine wB 12 fun K hK => ?_
            refine oper_app (w := w5.drew) (.tmp 98) (.tmp 109) 36 36 rfl 40 (.agg #[.string ⟨#[]⟩, .int .i64 0, .int .i64 0, .bool false]) 4 40 Tryz.underlying36 info40 rfl HO5.out rfl HSR.out rfl (by unfold maxLen; omega) (by omega) HB5.out (fun v' w7 happ => ?_)
            have HKA : Hid (Keep (fun k => (Value.slice ao6 j cap6).ownBlock = some k) w4 w7) := Lib.hid (HK5.out.drew.trans happ.keep (fun _ _ h => h))
            have HA := Lib.hid happ.own
            clear happ
            refine hK.out _ _ ?_ fun hHeld => ?_
            · (try dsimp only); refine HLOT.out _ ?_; exact HKA.out
            clear hK K
            (try simp only [tA])
            refine wS 13 ?_
            refine wpAnyH_done (by kernel_rfl) ?_ _
            refine NoPanic.normal ?_
            go_wp2
            go_roundw
            case rel =>
              refine ⟨j + 1, HLT.out, rfl, ?_, ?_⟩
              · have := HA.out
                rw [HTI.out, HX.out]
                exact this
              · refine (HKR.out.trans HK3.out (fun _ _ h => h)).trans HKA.out (fun k hk e => ?_)
                have := (ownsRow_lt HO.out k e).1
                omega
            case measure => have := HLT.out; simp [intOf]; omega
      · have hji : ((j : Int) < (l.length : Int)) = False := eq_false (by omega)
        have HJ := Lib.hid (show j = l.length by omega)
        have HKR := Lib.hid hk
        clear hlt hk
        go_wp2
        go_ret2
        have hje := HJ.out
        subst hje
        refine ⟨_, rfl, ?_, HK2.out.trans HKR.out (fun _ _ h => h)⟩
        have := HO.out
        rw [List.take_length] at this
        exact ownsRow_base this HK2.out.size
end Go.Proofs.YteokloipniiakaaGreatDoor

/- The law HouseWeighs, walked: it returns true, whatever the bays and the lines. -/
namespace Go.Proofs.YteokloipniiakaaGreatDoor
set_option linter.unusedSimpArgs false
set_option linter.unusedVariables false
set_option linter.unnecessarySimpa false
open Go.RowKit

def WRel (w : World) (g : List Int) (b1 d1 m : Nat) (gh : Nat) (s36 s8 : Value) (wx : World) : Prop :=
  ∃ (j : Nat) (H : HV) (S : St) (ls : List ByteArray), gh = m - j ∧ j ≤ m ∧ s36 = .int .i64 j ∧ s8 = .int .i64 (tot S.lots) ∧ H.h = b1 ∧ H.d = d1 ∧ One w H S ls wx ∧ Rep runF (S0 g) ls S ∧ ls.length ≤ j ∧ KI ls.length S
def WIn (w6 : World) (l : List Lot) (n : Nat) (s74 s18 : Value) (wx : World) : Prop :=
  ∃ k : Nat, k ≤ n ∧ s74 = .int .i64 k ∧ s18 = .int .i64 (tot (l.take k)) ∧ Keep (fun _ => False) w6 wx
theorem tot_take {l : List Lot} {k : Nat} {x : Lot} (h : l[k]? = some x) : tot (l.take (k + 1)) = tot (l.take k) + x.grams := by
  have hk := (List.getElem?_eq_some_iff.1 h).1
  have e : l[k] = x := (List.getElem?_eq_some_iff.1 h).2
  rw [List.take_succ_eq_append_getElem hk, tot_append, e]
  simp [tot]
theorem tot_take_le {l : List Lot} (h : ∀ x ∈ l, 0 ≤ x.grams) (k : Nat) : 0 ≤ tot (l.take k) ∧ tot (l.take k) ≤ tot l := by
  have h1 := tot_ge (l := l.take k) (fun x hx => h x (List.mem_of_mem_take hx))
  have h2 := tot_ge (l := l.drop k) (fun x hx => h x (List.mem_of_mem_drop hx))
  have e : tot l = tot (l.take k) + tot (l.drop k) := by rw [← tot_append, List.take_append_drop]
  omega
theorem rd_law {w : World} {v : Value} {l : List Lot} (h : Rd w 4 v l.length (lawCells l)) {j : Nat} (hj : j < l.length) : ∃ g o cap x, v = .slice (some ⟨g, o, none⟩) l.length cap ∧ l[j]? = some x ∧
    w.cell? ⟨g, o + j * 4, none⟩ = some (.string x.spice) ∧ w.cell? ⟨g, o + j * 4 + 1, none⟩ = some (.int .i64 x.grams) ∧ w.cell? ⟨g, o + j * 4 + 2, none⟩ = some (.int .i64 x.bay) ∧ w.cell? ⟨g, o + j * 4 + 3, none⟩ = some (.bool (!x.closed)) := by
  obtain ⟨x, hx⟩ : ∃ x, l[j]? = some x := ⟨_, List.getElem?_eq_getElem hj⟩
  obtain ⟨h0, h1, h2, h3⟩ := lawCells_at l hx
  rcases h.2.2 with ⟨_, hn⟩ | ⟨g, o, cap, rfl, _, _, hc⟩
  · omega
  · refine ⟨g, o, cap, x, rfl, hx, ?_, ?_, ?_, ?_⟩
    · rw [Nat.mul_comm j 4]; exact hc _ _ h0
    · rw [Nat.mul_comm j 4, Nat.add_assoc]; exact hc _ _ h1
    · rw [Nat.mul_comm j 4, Nat.add_assoc]; exact hc _ _ h2
    · rw [Nat.mul_comm j 4, Nat.add_assoc]; exact hc _ _ h3
theorem lawCells_one (l : List Lot) : ∀ u ∈ lawCells l, u.oneCell' = true := by
  intro u hu
  obtain ⟨x, _, hx⟩ := List.mem_flatMap.1 hu
  simp [lawCell] at hx
  rcases hx with rfl | rfl | rfl | rfl <;> rfl

set_option maxHeartbeats 8000000 in
set_option maxRecDepth 100000 in
theorem houseWeighs_any {w : World} {gv lv : Value} {g : List Int} {l : List ByteArray} (hG : Glob w) (hg : Rd w 1 gv g.length (icells g)) (hgl : g.length < 9223372036854775807) (hv : Rd w 1 lv l.length (strCells l))
    (hl : ∀ s ∈ l, s.size ≤ 140737488355328) (hln : l.length ≤ 9223372036854775807) :
    Calls Tryz.prog 3 #[gv, lv] w (IdxPost w (.bool true)) := by
  obtain ⟨lo, lc, hve, hlc, _⟩ := hv.shape
  subst hve
  obtain ⟨go_, gc, hge, hgc, _⟩ := hg.shape
  subst hge
  have H16 := Lib.hid (opened2_any hG hg (Nat.le_of_lt hgl))
  have HG := Lib.hid hG; clear hG
  have HGR := Lib.hid hg; clear hg
  have HV := Lib.hid hv; clear hv
  have HL := Lib.hid hl; clear hl
  cases hb : baysB (g.take 10) with
  | false =>
    have HB := Lib.hid hb; clear hb
    go_enter Tryz.func3, Tryz.ntmps3
    go_wp2_with (first
      | (go_at_call 4; refine H16.out.mono ?_; rintro e w1 ⟨hk1, _, hbad⟩; obtain ⟨d1, rfl⟩ := hbad HB.out; have HK1 := Lib.hid hk1; clear hk1 hbad)
      | (go_at_call 5; refine Calls.mono (awake_any (HG.out.keep HK1.out)) ?_; rintro e w4 ⟨rfl, hk4⟩; have HK4 := Lib.hid hk4; clear hk4))
    go_ret
    exact ⟨rfl, HK1.out.trans HK4.out (fun _ _ h => h)⟩
  | true =>
    have HB := Lib.hid hb; clear hb
    obtain ⟨m, hm⟩ : ∃ m, (min (l.length : Int) 60).toNat = m := ⟨_, rfl⟩
    have hml : m ≤ l.length := by omega
    have hm60 : m ≤ 60 := by omega
    have hm0 : (0 : Int) ≤ min (l.length : Int) 60 := by omega
    have hm1 : min (l.length : Int) 60 ≤ (lc : Int) := by omega
    go_enter Tryz.func3, Tryz.ntmps3
    go_wp2_with (first
      | (go_at_call 4; refine H16.out.mono ?_; rintro e w1 ⟨hk1, hok, _⟩; obtain ⟨H1, rfl, hh1, hf1⟩ := hok HB.out; have HONE := Lib.hid (show One w H1 (S0 (g.take 10)) [] w1 from ⟨hh1, hf1, hk1⟩); clear hk1 hok hh1 hf1))
    obtain ⟨b1, hb1⟩ : ∃ x, H1.h = x := ⟨_, rfl⟩
    obtain ⟨d1, hd1⟩ : ∃ x, H1.d = x := ⟨_, rfl⟩
    rw [hb1, hd1]
    have HE := Lib.hid (And.intro hb1 hd1); clear hb1 hd1
    go_loopg [36, 8] m (fun gh s36 s8 wx => WRel w (g.take 10) b1 d1 m gh s36 s8 wx)
    case atStart => exact ⟨0, H1, _, _, rfl, Nat.zero_le _, rfl, rfl, HE.out.1, HE.out.2, HONE.out, .nil _, Nat.le_refl _, KI.start _⟩
    case round =>
      obtain ⟨j, ⟨x1, y1, v1, V1, vl1⟩, S, ls, rfl, hj, rfl, rfl, e1, e2, hone, hrep, hlsj, hki⟩ := hrel
      simp only at e1 e2
      subst e1 e2
      have hcat := cat_length_le hrep
      have HTW := Lib.hid hone
      have HREP := Lib.hid hrep
      have HKI := Lib.hid hki
      clear hone hrep hki HONE HE
      by_cases hlt : j < m
      · have hjl : ((j : Int) < (m : Int)) = True := by simp; omega
        have hjn : j < l.length := by omega
        have hrd := HV.out.keep HTW.out.keep (fun _ _ h => h)
        obtain ⟨b, o, hao, hcell⟩ : ∃ b o, lo = some ⟨b, o, none⟩ ∧ wr.cell? ⟨b, o + j, none⟩ = some (.string (l.getD j ByteArray.empty)) := by
          rcases hrd.2.2 with ⟨h, h'⟩ | ⟨b, o, c, h, _, _, hx⟩
          · omega
          · injection h with h1 h2 h3
            exact ⟨b, o, h1, hx _ _ (strCells_get l j hjn)⟩
        subst hao
        have hsz := HL.out (l.getD j ByteArray.empty) (by simp [List.getD, List.getElem?_eq_getElem hjn])
        obtain ⟨s, hs⟩ : ∃ s, l.getD j ByteArray.empty = s := ⟨_, rfl⟩
        rw [hs] at hcell hsz
        clear hs hrd
        have hstep := calm_step (S := S) (ls := ls) (by omega) s
        have HIN := Lib.hid (rep_inv (baysB_8 HB.out) HREP.out)
        obtain ⟨R, hR⟩ : ∃ R, doF runF S s = R := ⟨_, rfl⟩
        rw [hR] at hstep
        have HR := Lib.hid hR; clear hR
        obtain ⟨re, rs, ro⟩ := R
        obtain ⟨T0, hT0⟩ : ∃ t, tot S.lots = t := ⟨_, rfl⟩
        have HT0 := Lib.hid hT0
        rw [hT0]
        clear hT0
        by_cases he : re = 0
        · subst he
          rw [if_pos rfl] at hstep
          have HST := Lib.hid hstep; clear hstep
          have hzs : s.size ≤ 200 := doF_size (F := runF) (S := S) (by rw [HR.out])
          have hlaw := step_law HKI.out (by omega) (s := s) (by rw [HR.out])
          rw [HR.out] at hlaw
          simp only at hlaw
          obtain ⟨hk2, htake, hno⟩ := hlaw
          have hrep2 : Rep runF (S0 (g.take 10)) (ls ++ [s]) rs := by have h := HREP.out.snoc (s := s) (by rw [HR.out]); rw [HR.out] at h; exact h
          have HREP2 := Lib.hid hrep2
          have HIN2 := Lib.hid (rep_inv (baysB_8 HB.out) hrep2)
          have hg0 : ∀ x ∈ rs.lots, 0 ≤ x.grams := fun x hx => (hk2.l x hx).2.1
          have ht1b : tot rs.lots ≤ 999999 * 61 := by have := hk2.t; omega
          have hgr2 : ∀ x ∈ rs.lots, x.grams ≤ 999999999999 := fun x hx => by have := (tot_ge hg0).2 x hx; omega
          obtain ⟨T1, hT1⟩ : ∃ t, tot rs.lots = t := ⟨_, rfl⟩
          rw [HT0.out, hT1] at htake hno
          have hge0 : 0 ≤ T0 := by rw [← HT0.out]; exact (tot_ge (fun x hx => (HKI.out.l x hx).2.1)).1
          have hle0 : T0 ≤ 999999 * 61 := by rw [← HT0.out]; have := HKI.out.t; omega
          have HG0 := Lib.hid hg0; have HT1B := Lib.hid ht1b; have HGR2 := Lib.hid hgr2; have HK2 := Lib.hid hk2; have HT1 := Lib.hid hT1
          clear hk2 hg0 ht1b hgr2 hrep2 hT1
          by_cases htk : ((words s).headD (bs [])).data.toList = takeB
          · obtain ⟨n, hn, hn0, hn1, htt⟩ := htake htk
            obtain ⟨h0, wd, x0, hws⟩ := take_shape (s := s) (S := S) (by rw [HR.out]) htk
            rw [hws] at hn htk
            have hn' : numR x0 = (n, true) := hn
            have hx0 : x0.size ≤ 200 := by
              have := word_size (s := s) (j := 2) (by rw [hws]; simp)
              rw [hws] at this
              have h2 : x0.size ≤ s.size := this
              omega
            have HN := Lib.hid (fun W => number_any (w := W) (s := x0) (by omega))
            rw [hn'] at HN
            have htb : (h0.toList == [116, 97, 107, 101]) = true := by
              rw [Lib.toList_data]; have e : h0.data.toList = takeB := htk
              rw [e]; rfl
            have HS7 : Hid (∀ W, Glob W → Calls Tryz.prog 7 #[.string s, .string ⟨#[32]⟩] W (fun e W' => e = .returned (.slice (some ⟨W.heap.size, 0, none⟩) 3 3) ∧ W' = W.alloc (.cells #[.string h0, .string wd, .string x0] 9))) :=
              Lib.hid fun W g => (split_any g (by omega)).mono fun e W' ⟨he, hw⟩ => by rw [hws] at he hw; exact ⟨he, hw⟩
            have hwr : IntKind.i64.wrap (T0 + n) = T1 := by rw [IntWalk.i64_in _ ⟨by omega, by omega⟩]; omega
            have n2 : IntKind.i64.wrap 2 = 2 := rfl
            have n2' : IntKind.i64.wrap (3 - 1) = 2 := rfl
            clear htake hno hn hws htk hzs hn0 hn1 htt hge0 hle0 hn' hx0
            go_upto_region 10 with (go_at_call 6; have hh := hdo_any (F := runF) (HG.out.keep HTW.out.keep) HTW.out.keep.size HTW.out.h (HIN.out.small (by omega)) (by omega) (by omega) (run_ok HIN.out (by omega) s); rw [HST.out] at hh; refine Calls.mono hh ?_; clear hh; rintro e w5 ⟨⟨x3, y3, v3, V3, vl3⟩, rfl, h3, hc3⟩; obtain rfl : x1 = x3 := hc3.h.symm; obtain rfl : y1 = y3 := hc3.d.symm; have HTW1 := Lib.hid (HTW.out.step h3 hc3); clear h3 hc3)
            go_upto_region 11 with (go_at_call 7; refine (HS7.out _ (HG.out.keep HTW1.out.keep)).mono ?_; rintro e w6 ⟨rfl, h6⟩; have hb6 := Blk.new w5 #[.string h0, .string wd, .string x0] 9; have HTW2 := Lib.hid (HTW1.out.idle ((Keep.refl _ _).alloc (.cells #[.string h0, .string wd, .string x0] 9))); rw [← h6] at hb6 HTW2; have q0 := hb6.cell 0; have q1 := hb6.cell 1; have q2 := hb6.cell 2; simp at q0 q1 q2; clear hb6 h6)
            go_upto_region 13 with (go_at_call 8; refine (HN.out _).mono ?_; rintro e w4 ⟨rfl, rfl⟩)
            go_upto_region 15 with (go_at_call 9; have hh := lots_any (HG.out.keep HTW2.out.keep) HTW2.out.h HIN2.out HK2.out.l HGR2.out; refine Calls.mono hh ?_; clear hh; rintro e w7 ⟨v7, rfl, ho7, hk7⟩; have HTW3 := Lib.hid (HTW2.out.idle hk7); obtain ⟨ao7, c7, rfl, _⟩ := ownsRow_shape ho7; have HLO := Lib.hid ho7; clear ho7 hk7)
            go_wp2_with fail
            go_loopw [74, 18] (WIn w7 rs.lots rs.lots.length) (fun v _ _ => rs.lots.length - (intOf v).toNat)
            case atStart => exact ⟨0, Nat.zero_le _, rfl, rfl, Keep.refl _ _⟩
            case round =>
              obtain ⟨k, hk, rfl, rfl, hkp⟩ := hrel
              have HKP := Lib.hid hkp
              clear hkp
              by_cases hkl : k < rs.lots.length
              · obtain ⟨g2, o2, c2, x, hvv, hx, d0, d1, d2, d3⟩ := rd_law ((ownsRow_rd HLO.out (lawCells_one _)).keep HKP.out (fun _ _ h => h)) hkl
                injection hvv with h1 h2 h3
                subst h1
                have hkn : ((k : Int) < (rs.lots.length : Int)) = True := eq_true (by omega)
                have hwk : IntKind.i64.wrap ((k : Int) + 1) = (k : Int) + 1 := IntWalk.i64_in _ ⟨by omega, by have := HIN2.out.l; omega⟩
                have htt := tot_take hx
                have hb1 := tot_take_le HG0.out k
                have hb2 := tot_take_le HG0.out (k + 1)
                obtain ⟨A, hA⟩ : ∃ A, tot (rs.lots.take k) = A := ⟨_, rfl⟩
                rw [hA] at htt hb1 ⊢
                have hws : IntKind.i64.wrap (A + x.grams) = A + x.grams := IntWalk.i64_in _ ⟨by omega, by have := HT1B.out; omega⟩
                have HTT := Lib.hid htt
                have HKL := Lib.hid hkl
                clear h2 h3 hx htt hb1 hb2 hA hkl hk
                go_wp2
                go_roundw
                case rel => exact ⟨k + 1, HKL.out, by go_num, by rw [HTT.out], HKP.out.alloc _⟩
                case measure => have := HKL.out; simp [intOf]; omega
              · have hke : k = rs.lots.length := by omega
                subst hke
                rw [List.take_length, HT1.out]
                have hkn : ((rs.lots.length : Int) < (rs.lots.length : Int)) = False := by simp
                clear hkl hk
                go_wp2
                go_roundg (m - (j + 1))
                case measure => omega
                case rel => exact ⟨j + 1, ⟨x1, y1, v3, V3, vl3⟩, rs, ls ++ [s], rfl, by omega, by go_num, by rw [HT1.out], rfl, rfl, HTW3.out.idle HKP.out, HREP2.out, by simp; omega, by rw [List.length_append]; exact HK2.out⟩
          · have hT := hno htk
            subst hT
            obtain ⟨h0, hh0⟩ : ∃ h, (words s).getD 0 ByteArray.empty = h := ⟨_, rfl⟩
            obtain ⟨nn, hnn⟩ : ∃ n, (words s).length = n := ⟨_, rfl⟩
            have hnn1 : 1 ≤ nn := by rw [← hnn, words_length]; omega
            have htb : (h0.toList == [116, 97, 107, 101]) = false := by
              rw [beq_eq_false_iff_ne]
              intro e
              refine htk ?_
              have e2 : (words s).headD (bs []) = h0 := by
                rw [← hh0]
                cases hw : words s with
                | nil => rw [hw] at hnn; simp at hnn; omega
                | cons a r => rfl
              rw [e2, ← Lib.toList_data, e]; rfl
            have HC0 := Lib.hid (fun W : World => words_cell W s 0 (by omega))
            rw [hh0] at HC0
            have HS7 : Hid (∀ W, Glob W → Calls Tryz.prog 7 #[.string s, .string ⟨#[32]⟩] W (fun e W' => e = .returned (.slice (some ⟨W.heap.size, 0, none⟩) nn nn) ∧ W' = W.alloc (.cells ((words s).map Value.string).toArray 9))) :=
              Lib.hid fun W g => (split_any g (by omega)).mono fun e W' ⟨he, hw⟩ => by rw [hnn] at he; exact ⟨he, hw⟩
            have hni : (0 : Int) < (nn : Int) := by omega
            clear htake hno htk hzs hge0 hle0 hh0 hnn
            go_upto_region 10 with (go_at_call 6; have hh := hdo_any (F := runF) (HG.out.keep HTW.out.keep) HTW.out.keep.size HTW.out.h (HIN.out.small (by omega)) (by omega) (by omega) (run_ok HIN.out (by omega) s); rw [HST.out] at hh; refine Calls.mono hh ?_; clear hh; rintro e w5 ⟨⟨x3, y3, v3, V3, vl3⟩, rfl, h3, hc3⟩; obtain rfl : x1 = x3 := hc3.h.symm; obtain rfl : y1 = y3 := hc3.d.symm; have HTW1 := Lib.hid (HTW.out.step h3 hc3); clear h3 hc3)
            go_upto_region 11 with (go_at_call 7; refine (HS7.out _ (HG.out.keep HTW1.out.keep)).mono ?_; rintro e w6 ⟨rfl, h6⟩; have q0 := HC0.out w5; have HTW2 := Lib.hid (HTW1.out.idle ((Keep.refl _ _).alloc (.cells ((words s).map Value.string).toArray 9))); rw [← h6] at q0 HTW2; simp only [Nat.add_zero] at q0; clear h6)
            go_upto_region 15 with (go_at_call 9; have hh := lots_any (HG.out.keep HTW2.out.keep) HTW2.out.h HIN2.out HK2.out.l HGR2.out; refine Calls.mono hh ?_; clear hh; rintro e w7 ⟨v7, rfl, ho7, hk7⟩; have HTW3 := Lib.hid (HTW2.out.idle hk7); obtain ⟨ao7, c7, rfl, _⟩ := ownsRow_shape ho7; have HLO := Lib.hid ho7; clear ho7 hk7)
            go_wp2_with fail
            go_loopw [74, 18] (WIn w7 rs.lots rs.lots.length) (fun v _ _ => rs.lots.length - (intOf v).toNat)
            case atStart => exact ⟨0, Nat.zero_le _, rfl, rfl, Keep.refl _ _⟩
            case round =>
              obtain ⟨k, hk, rfl, rfl, hkp⟩ := hrel
              have HKP := Lib.hid hkp
              clear hkp
              by_cases hkl : k < rs.lots.length
              · obtain ⟨g2, o2, c2, x, hvv, hx, d0, d1, d2, d3⟩ := rd_law ((ownsRow_rd HLO.out (lawCells_one _)).keep HKP.out (fun _ _ h => h)) hkl
                injection hvv with h1 h2 h3
                subst h1
                have hkn : ((k : Int) < (rs.lots.length : Int)) = True := eq_true (by omega)
                have hwk : IntKind.i64.wrap ((k : Int) + 1) = (k : Int) + 1 := IntWalk.i64_in _ ⟨by omega, by have := HIN2.out.l; omega⟩
                have htt := tot_take hx
                have hb1 := tot_take_le HG0.out k
                have hb2 := tot_take_le HG0.out (k + 1)
                obtain ⟨A, hA⟩ : ∃ A, tot (rs.lots.take k) = A := ⟨_, rfl⟩
                rw [hA] at htt hb1 ⊢
                have hws : IntKind.i64.wrap (A + x.grams) = A + x.grams := IntWalk.i64_in _ ⟨by omega, by have := HT1B.out; omega⟩
                have HTT := Lib.hid htt
                have HKL := Lib.hid hkl
                clear h2 h3 hx htt hb1 hb2 hA hkl hk
                go_wp2
                go_roundw
                case rel => exact ⟨k + 1, HKL.out, by go_num, by rw [HTT.out], HKP.out.alloc _⟩
                case measure => have := HKL.out; simp [intOf]; omega
              · have hke : k = rs.lots.length := by omega
                subst hke
                rw [List.take_length, HT1.out]
                have hkn : ((rs.lots.length : Int) < (rs.lots.length : Int)) = False := by simp
                clear hkl hk
                go_wp2
                go_roundg (m - (j + 1))
                case measure => omega
                case rel => exact ⟨j + 1, ⟨x1, y1, v3, V3, vl3⟩, rs, ls ++ [s], rfl, by omega, by go_num, by rw [HT1.out], rfl, rfl, HTW3.out.idle HKP.out, HREP2.out, by simp; omega, by rw [List.length_append]; exact HK2.out⟩
        · rw [if_neg he, show bs [] = (⟨#[]⟩ : ByteArray) from rfl] at hstep
          have he2 : (re != 0) = true := by simp [he]
          have HST := Lib.hid hstep; clear hstep
          go_wp2_with (first
            | (go_at_call 6; have hh := hdo_any (F := runF) (HG.out.keep HTW.out.keep) HTW.out.keep.size HTW.out.h (HIN.out.small (by omega)) (by omega) (by omega) (run_ok HIN.out (by omega) s); rw [HST.out] at hh; refine Calls.mono hh ?_; clear hh; rintro e w5 ⟨⟨x3, y3, v3, V3, vl3⟩, rfl, h3, hc3⟩; obtain rfl : x1 = x3 := hc3.h.symm; obtain rfl : y1 = y3 := hc3.d.symm; have HTW1 := Lib.hid (HTW.out.step h3 hc3); clear h3 hc3))
          go_roundg (m - (j + 1))
          case measure => omega
          case rel => exact ⟨j + 1, ⟨x1, y1, v3, V3, vl3⟩, S, ls, rfl, by omega, by go_num, by rw [HT0.out], rfl, rfl, HTW1.out, HREP.out, by omega, HKI.out⟩
      · have hje : j = m := by omega
        subst hje
        have hjl : ((j : Int) < (j : Int)) = False := by simp
        go_wp2_with (first
          | (go_at_call 5; refine Calls.mono (awake_any (HG.out.keep HTW.out.keep)) ?_; rintro e w4 ⟨rfl, hk4⟩; have HK4 := Lib.hid hk4; clear hk4))
        go_ret
        exact ⟨rfl, HTW.out.keep.trans HK4.out (fun _ _ h => h)⟩
end Go.Proofs.YteokloipniiakaaGreatDoor
