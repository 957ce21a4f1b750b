/- house.state.list, text; House.State. -/
import Derived.Test.YteommegadhipkaaGreatDoorFM26
import Derived.Test.YteommegadhipkaaGreatDoorFM10
import Derived.Deep.LoopGhost
import Derived.Deep.DeepCutAuto

/- house.state.list, text; House.State. -/
namespace Go.Proofs.YteommegadhipkaaGreatDoor
set_option linter.unusedSimpArgs false
set_option linter.unusedVariables false
set_option linter.unnecessarySimpa false
open Go.RowKit

def LsRel (w : World) (l : List Lot) (gh : Nat) (s3 s13 : Value) (wx : World) : Prop :=
  ∃ k : Nat, gh = l.length - k ∧ k ≤ l.length ∧ s3 = .string (listN l k) ∧ s13 = .int .i64 k ∧ Keep (fun _ => False) w wx

set_option maxHeartbeats 2000000 in
set_option maxRecDepth 100000 in
theorem list_any {w : World} {V : StV} {S : St} {m : Nat} (hG : Glob w) (h : StAt w V S) (hI : Inv m S) : Calls Tryz.prog 41 #[.pointer (some ⟨V.b, 0, none⟩)] w (IdxPost w (.string (listF S.lots))) := by
  obtain ⟨lo, lc, hve, hlc, _⟩ := h.rl.shape
  have c1 := h.blk.cell 1
  simp [StV.cells] at c1
  rw [hve] at c1
  have hrl := h.rl
  rw [hve] at hrl
  have hl20 := hI.l
  have HRL := Lib.hid hrl
  have HI := Lib.hid hI
  have HG := Lib.hid hG
  clear h hve hrl hI hG
  go_enter Tryz.func41, Tryz.ntmps41
  go_wp2
  go_loopg [3, 13] S.lots.length (fun gh s3 s13 wx => LsRel w S.lots gh s3 s13 wx)
  case atStart => exact ⟨0, rfl, Nat.zero_le _, rfl, rfl, Keep.refl _ _⟩
  case round =>
    obtain ⟨k, rfl, hk, rfl, rfl, hkw⟩ := hrel
    have HK := Lib.hid hkw; clear hkw
    obtain ⟨acc, hacc⟩ : ∃ acc, listN S.lots k = acc := ⟨_, rfl⟩
    have hasz := listN_size HI.out.lo k hk (by omega)
    rw [hacc] at hasz
    rw [hacc]
    have HACC := Lib.hid hacc; clear hacc
    by_cases hlt : k < S.lots.length
    · have hjl : ((k : Int) < (S.lots.length : Int)) = True := by simp; omega
      have hrd := HRL.out.keep HK.out (fun _ _ h => h)
      obtain ⟨b, o, hao, hcell⟩ : ∃ b o, lo = some ⟨b, o, none⟩ ∧ ∀ i, i < 4 → wr.cell? ⟨b, o + (k * 4 + i), none⟩ = (lotCell S.lots[k])[i]? := by
        rcases hrd.2.2 with ⟨h, h'⟩ | ⟨b, o, c, h, _, _, hx⟩
        · omega
        · injection h with h1 h2 h3
          refine ⟨b, o, h1, fun i hi => ?_⟩
          have e := lotCells_get S.lots k i hlt hi
          have : ∃ u, (lotCell S.lots[k])[i]? = some u := ⟨(lotCell S.lots[k])[i]'(by simp [lotCell]; omega), List.getElem?_eq_getElem _⟩
          obtain ⟨u, hu⟩ := this
          rw [hu]
          exact hx _ u (e.trans hu)
      subst hao
      have hok := HI.out.lo S.lots[k] (by simp)
      obtain ⟨A, hA⟩ : ∃ A, S.lots[k] = A := ⟨_, rfl⟩
      have hnext : listN S.lots (k + 1) = acc ++ (bs [32] ++ lotS k A) := by
        simp only [listN, HACC.out]
        rw [show S.lots.getD k ⟨bs [], 0, 0, false⟩ = A by rw [← hA]; simp [List.getD, List.getElem?_eq_getElem hlt]]
      rw [hA] at hcell hok
      obtain ⟨sp, gr, by_, cl⟩ := A
      have c0 := hcell 0 (by omega)
      have c1 := hcell 1 (by omega)
      have c2 := hcell 2 (by omega)
      have c3 := hcell 3 (by omega)
      simp [lotCell] at c0 c1 c2 c3
      simp only [← Nat.add_assoc] at c1 c2 c3
      have HGR := Lib.hid hok.g
      obtain ⟨bay, hbay⟩ : ∃ s, bayS ⟨sp, gr, by_, cl⟩ = s := ⟨_, rfl⟩
      obtain ⟨is, his⟩ : ∃ s, isS ⟨sp, gr, by_, cl⟩ = s := ⟨_, rfl⟩
      obtain ⟨jb, hjb⟩ : ∃ s, lotS k ⟨sp, gr, by_, cl⟩ = s := ⟨_, rfl⟩
      have hjz := lotS_size hok (i := k) (by omega)
      have hby := hok.b
      simp only at hby
      rw [hjb] at hjz hnext
      have hj2 : jbs [itoaB ((k : Int) + 1), sp, itoaB gr, bay, is] (bs [58]) = jb := by rw [← hjb, ← hbay, ← his]; rfl
      have HJ := Lib.hid hj2
      have HJZ : Hid ((jbs [itoaB ((k : Int) + 1), sp, itoaB gr, bay, is] (bs [58])).size ≤ 140737488355328) := Lib.hid (by rw [hj2]; omega)
      have HNX := Lib.hid hnext
      have HBAY := Lib.hid hbay
      have HIS := Lib.hid his
      have hs1 : (9223372036854775807 < 1 + jb.size) = False := eq_false (by omega)
      have hs2 : (9223372036854775807 < acc.size + (1 + jb.size)) = False := eq_false (by omega)
      clear hcell hA hrd hok hj2 hjb hnext hbay his
      have HB0 := Lib.hid (Blk.new wr #[.string sp, .int .i64 gr, .int .i64 by_, .bool cl] 120)
      have HK0 := Lib.hid (HK.out.alloc (.cells #[.string sp, .int .i64 gr, .int .i64 by_, .bool cl] 120))
      go_upto_if 20 with fail
      clear c0 c1 c2 c3
      go_cut [6] (fun s6 wx => s6 = .string bay ∧ Blk wx wr.heap.size #[.string sp, .int .i64 gr, .int .i64 by_, .bool cl] 120 ∧ Keep (fun _ => False) w wx)
      case first =>
        have c2 := HB0.out.cell 2
        simp at c2
        by_cases hb0 : 0 ≤ by_
        · have hbt : ((0 : Int) ≤ by_) = True := eq_true hb0
          have hbs : bay = itoaB by_ := by rw [← HBAY.out]; unfold bayS; rw [if_pos (by exact hb0)]
          have HBS := Lib.hid hbs; clear hbs
          go_wp2_with (go_at_call 65; refine Calls.mono (itoa_any (HG.out.keep HK0.out) (by omega) (by omega)) ?_; rintro e w2 ⟨rfl, hk2⟩; have HK2 := Lib.hid hk2; clear hk2)
          go_meet
          exact ⟨by rw [HBS.out], HB0.out.keep HK2.out (fun h => h), HK0.out.trans HK2.out (fun _ _ h => h)⟩
        · have hbt : ((0 : Int) ≤ by_) = False := eq_false hb0
          have hbs : bay = bs [45] := by rw [← HBAY.out]; unfold bayS; rw [if_neg (by exact hb0)]
          have HBS := Lib.hid hbs; clear hbs
          go_wp2
          go_meet
          exact ⟨by rw [HBS.out]; rfl, HB0.out, HK0.out⟩
      case rest =>
        obtain ⟨rfl, hb1, hk1⟩ := hcut
        have HB1 := Lib.hid hb1
        have HK1 := Lib.hid hk1
        clear hb1 hk1
        have c0 := HB1.out.cell 0
        have c1 := HB1.out.cell 1
        have c3 := HB1.out.cell 3
        simp at c0 c1 c3
        obtain ⟨wb, hwb⟩ : ∃ wb, wb = wc := ⟨_, rfl⟩
        go_upto_if 25 with fail
        go_cut [7] (fun s7 wx => s7 = .string is ∧ wb = wx)
        case first =>
          cases hcl : cl with
          | true =>
            subst hcl
            have hbs : is = bs [99, 108, 111, 115, 101, 100] := by rw [← HIS.out]; rfl
            have HBS := Lib.hid hbs; clear hbs
            go_wp2
            go_meet
            exact ⟨by rw [HBS.out]; rfl, hwb⟩
          | false =>
            subst hcl
            have hbs : is = bs [111, 112, 101, 110] := by rw [← HIS.out]; rfl
            have HBS := Lib.hid hbs; clear hbs
            go_wp2
            go_meet
            exact ⟨by rw [HBS.out]; rfl, hwb⟩
        case rest =>
          subst hwb
          obtain ⟨rfl, rfl⟩ := hcut
          have HGB := Lib.hid (HG.out.keep HK1.out)
          have HSA : Hid (∀ W, Keep (fun _ => False) wb W → (W.cell? ⟨wr.heap.size, 0, none⟩ = some (.string sp) ∧ W.cell? ⟨wr.heap.size, 1, none⟩ = some (.int .i64 gr))) := Lib.hid fun W hk => by
            have h1 := (HB1.out.keep hk (fun h => h)).cell 0
            have h2 := (HB1.out.keep hk (fun h => h)).cell 1
            simp at h1 h2
            exact ⟨h1, h2⟩
          clear c3
          have hwk : IntKind.i64.wrap ((k : Int) + 1) = (k : Int) + 1 := IntWalk.i64_in _ (by omega)
          go_upto_region 10 with fail
          refine wp_region_noPanic ?_
          refine wp_region_held_drew (S := fun W => W.cell? ⟨wr.heap.size, 0, none⟩ = some (.string sp) ∧ W.cell? ⟨wr.heap.size, 1, none⟩ = some (.int .i64 gr)) (by kernel_rfl) (HSA.out _ (Keep.refl (fun _ => False) wb).drew) (fun hHeld => ?_)
          refine wpAnyH_take (i := 0) (oi := _) (v := ?_) rfl (by kernel_rfl) (by kernel_rfl) (by kernel_rfl) (fun _ _ _ h => h) (Or.inl ⟨by rfl, ?_⟩) (by assumption) ?_
          rotate_left
          · (intro w hSw; (try dsimp only at hSw); go_simp) <;> with_reducible rfl
          (try simp only [List.getElem_toArray, List.getElem_cons_zero, List.getElem_cons_succ, Act.put, List.setIfInBounds_toArray, List.set_cons_zero, List.set_cons_succ])
          refine wpAnyH_take (i := 1) (oi := _) (v := ?_) rfl (by kernel_rfl) (by kernel_rfl) (by kernel_rfl) (fun _ _ _ h => h) (Or.inl ⟨by rfl, ?_⟩) (by assumption) ?_
          rotate_left
          · (intro w hSw; (try dsimp only at hSw); go_simp) <;> with_reducible rfl
          (try simp only [List.getElem_toArray, List.getElem_cons_zero, List.getElem_cons_succ, Act.put, List.setIfInBounds_toArray, List.set_cons_zero, List.set_cons_succ])
          refine wpAnyH_take (i := 2) (oi := _) (v := ?_) rfl (by kernel_rfl) (by kernel_rfl) (by kernel_rfl) (fun _ _ _ h => h) (Or.inl ⟨by rfl, ?_⟩) (by assumption) ?_
          rotate_left
          · (intro w hSw; (try dsimp only at hSw); go_simp) <;> with_reducible rfl
          (try simp only [List.getElem_toArray, List.getElem_cons_zero, List.getElem_cons_succ, Act.put, List.setIfInBounds_toArray, List.set_cons_zero, List.set_cons_succ])
          refine wpAnyH_take (i := 4) (oi := _) (v := ?_) rfl (by kernel_rfl) (by kernel_rfl) (by kernel_rfl) (fun _ _ _ h => h) (Or.inl ⟨by rfl, ?_⟩) (by assumption) ?_
          rotate_left
          · (intro w hSw; (try dsimp only at hSw); go_simp) <;> with_reducible rfl
          (try simp only [List.getElem_toArray, List.getElem_cons_zero, List.getElem_cons_succ, Act.put, List.setIfInBounds_toArray, List.set_cons_zero, List.set_cons_succ])
          refine wpAnyH_take (i := 5) (oi := _) (v := ?_) rfl (by kernel_rfl) (by kernel_rfl) (by kernel_rfl) (fun _ _ _ h => h) (Or.inl ⟨by rfl, ?_⟩) (by assumption) ?_
          rotate_left
          · (intro w hSw; (try dsimp only at hSw); go_simp) <;> with_reducible rfl
          (try simp only [List.getElem_toArray, List.getElem_cons_zero, List.getElem_cons_succ, Act.put, List.setIfInBounds_toArray, List.set_cons_zero, List.set_cons_succ])
          refine wpAnyH_take (i := 6) (oi := _) (v := ?_) rfl (by kernel_rfl) (by kernel_rfl) (by kernel_rfl) (fun _ _ _ h => h) (Or.inl ⟨by rfl, ?_⟩) (by assumption) ?_
          rotate_left
          · (intro w hSw; (try dsimp only at hSw); go_simp) <;> with_reducible rfl
          (try simp only [List.getElem_toArray, List.getElem_cons_zero, List.getElem_cons_succ, Act.put, List.setIfInBounds_toArray, List.set_cons_zero, List.set_cons_succ])
          refine wpAnyH_take (i := 7) (oi := _) (v := ?_) rfl (by kernel_rfl) (by kernel_rfl) (by kernel_rfl) (fun _ _ _ h => h) (Or.inl ⟨by rfl, ?_⟩) (by assumption) ?_
          rotate_left
          · (intro w hSw; (try dsimp only at hSw); go_simp) <;> with_reducible rfl
          (try simp only [List.getElem_toArray, List.getElem_cons_zero, List.getElem_cons_succ, Act.put, List.setIfInBounds_toArray, List.set_cons_zero, List.set_cons_succ])
          refine wpAnyH_take (i := 9) (oi := _) (v := ?_) rfl (by kernel_rfl) (by kernel_rfl) (by kernel_rfl) (fun _ _ _ h => h) (Or.inl ⟨by rfl, ?_⟩) (by assumption) ?_
          rotate_left
          · (intro w hSw; (try dsimp only at hSw); go_simp) <;> with_reducible rfl
          (try simp only [List.getElem_toArray, List.getElem_cons_zero, List.getElem_cons_succ, Act.put, List.setIfInBounds_toArray, List.set_cons_zero, List.set_cons_succ])
          refine wpAnyH_take (i := 10) (oi := _) (v := ?_) rfl (by kernel_rfl) (by kernel_rfl) (by kernel_rfl) (fun _ _ _ h => h) (Or.inl ⟨by rfl, ?_⟩) (by assumption) ?_
          rotate_left
          · (intro w hSw; (try dsimp only at hSw); go_simp) <;> with_reducible rfl
          (try simp only [List.getElem_toArray, List.getElem_cons_zero, List.getElem_cons_succ, Act.put, List.setIfInBounds_toArray, List.set_cons_zero, List.set_cons_succ])
          refine wpAnyH_ready (rs := [3]) (by kernel_rfl) (by simp) ?_
          refine AllReadyH.cons (o := _) rfl (fun K hK => ?_) AllReadyH.nil
          go_simp
          refine Calls.mono (itoa_any (HGB.out.keep (show Keep (fun _ => False) wb _ by repeat (first | exact HKR.out | exact Keep.refl _ _ | apply Keep.drew | apply Keep.drewN | apply Keep.alloc))) (by omega) (by omega)) ?_
          rintro e' Wc ⟨rfl, hkc⟩
          have HKRC := Lib.hid (Keep.trans (show Keep (fun _ => False) wb _ by repeat (first | exact HKR.out | exact Keep.refl _ _ | apply Keep.drew | apply Keep.drewN | apply Keep.alloc)) hkc (fun _ _ h => h))
          have HKR := HKRC
          clear HKRC hkc
          (try dsimp only)
          refine hK.out _ _ ?_ (fun hHeld => ?_)
          · ((try dsimp only); refine HSA.out _ ?_; repeat (first | exact HKR.out | exact Keep.refl _ _ | apply Keep.drew | apply Keep.drewN | apply Keep.alloc))
          clear hK K
          (try simp only [List.getElem_toArray, List.getElem_cons_zero, List.getElem_cons_succ, Act.put, List.setIfInBounds_toArray, List.set_cons_zero, List.set_cons_succ])
          refine wpAnyH_ready (rs := [8]) (by kernel_rfl) (by simp) ?_
          refine AllReadyH.cons (o := _) rfl (fun K hK => ?_) AllReadyH.nil
          go_simp
          refine Calls.mono (itoa_any (HGB.out.keep (show Keep (fun _ => False) wb _ by repeat (first | exact HKR.out | exact Keep.refl _ _ | apply Keep.drew | apply Keep.drewN | apply Keep.alloc))) HGR.out.1 HGR.out.2) ?_
          rintro e' Wc ⟨rfl, hkc⟩
          have HKRC := Lib.hid (Keep.trans (show Keep (fun _ => False) wb _ by repeat (first | exact HKR.out | exact Keep.refl _ _ | apply Keep.drew | apply Keep.drewN | apply Keep.alloc)) hkc (fun _ _ h => h))
          have HKR := HKRC
          clear HKRC hkc
          (try dsimp only)
          refine hK.out _ _ ?_ (fun hHeld => ?_)
          · ((try dsimp only); refine HSA.out _ ?_; repeat (first | exact HKR.out | exact Keep.refl _ _ | apply Keep.drew | apply Keep.drewN | apply Keep.alloc))
          clear hK K
          (try simp only [List.getElem_toArray, List.getElem_cons_zero, List.getElem_cons_succ, Act.put, List.setIfInBounds_toArray, List.set_cons_zero, List.set_cons_succ])
          refine wpAnyH_ready (rs := [11]) (by kernel_rfl) (by simp) ?_
          refine AllReadyH.cons (o := _) rfl (fun K hK => ?_) AllReadyH.nil
          go_simp
          refine hK.out _ _ ?_ (fun hHeld => ?_)
          · ((try dsimp only); refine HSA.out _ ?_; repeat (first | exact HKR.out | exact Keep.refl _ _ | apply Keep.drew | apply Keep.drewN | apply Keep.alloc))
          clear hK K
          (try simp only [List.getElem_toArray, List.getElem_cons_zero, List.getElem_cons_succ, Act.put, List.setIfInBounds_toArray, List.set_cons_zero, List.set_cons_succ])
          refine wpAnyH_ready (rs := [12]) (by kernel_rfl) (by simp) ?_
          refine AllReadyH.cons (o := _) rfl (fun K hK => ?_) AllReadyH.nil
          go_simp
          refine Calls.mono (join_row (xs := [itoaB ((k : Int) + 1), sp, itoaB gr, bay, is]) (ownsRow_one (base := 0) (Blk.new _ _ 9) (Nat.zero_le _) rfl (by unfold maxLen; omega)) (by simp) HJZ.out) ?_
          rintro e' Wj ⟨rfl, hkc⟩
          have HKRC := Lib.hid (Keep.trans (show Keep (fun _ => False) wb _ by repeat (first | exact HKR.out | exact Keep.refl _ _ | apply Keep.drew | apply Keep.drewN | apply Keep.alloc)) hkc (fun _ _ h => h))
          have HKR := HKRC
          clear HKRC hkc
          rw [show jbs [itoaB ((k : Int) + 1), sp, itoaB gr, bay, is] ⟨#[58]⟩ = jb from HJ.out]
          (try dsimp only)
          refine hK.out _ _ ?_ (fun hHeld => ?_)
          · ((try dsimp only); refine HSA.out _ ?_; repeat (first | exact HKR.out | exact Keep.refl _ _ | apply Keep.drew | apply Keep.drewN | apply Keep.alloc))
          clear hK K
          (try simp only [List.getElem_toArray, List.getElem_cons_zero, List.getElem_cons_succ, Act.put, List.setIfInBounds_toArray, List.set_cons_zero, List.set_cons_succ])
          refine wpAnyH_take (i := 13) (oi := _) (v := ?_) rfl (by kernel_rfl) (by kernel_rfl) (by kernel_rfl) (fun _ _ _ h => h) (Or.inl ⟨by rfl, ?_⟩) (by assumption) ?_
          rotate_left
          · (intro w hSw; (try dsimp only at hSw); go_simp) <;> with_reducible rfl
          (try simp only [List.getElem_toArray, List.getElem_cons_zero, List.getElem_cons_succ, Act.put, List.setIfInBounds_toArray, List.set_cons_zero, List.set_cons_succ])
          refine wpAnyH_take (i := 14) (oi := _) (v := ?_) rfl (by kernel_rfl) (by kernel_rfl) (by kernel_rfl) (fun _ _ _ h => h) (Or.inl ⟨by rfl, ?_⟩) (by assumption) ?_
          rotate_left
          · (intro w hSw; (try dsimp only at hSw); go_simp) <;> with_reducible rfl
          (try simp only [List.getElem_toArray, List.getElem_cons_zero, List.getElem_cons_succ, Act.put, List.setIfInBounds_toArray, List.set_cons_zero, List.set_cons_succ])
          refine wpAnyH_ready (rs := [15]) (by kernel_rfl) (by simp) ?_
          refine AllReadyH.cons (o := _) rfl (fun K hK => ?_) AllReadyH.nil
          go_simp
          refine hK.out _ _ ?_ (fun hHeld => ?_)
          · ((try dsimp only); refine HSA.out _ ?_; repeat (first | exact HKR.out | exact Keep.refl _ _ | apply Keep.drew | apply Keep.drewN | apply Keep.alloc))
          clear hK K
          (try simp only [List.getElem_toArray, List.getElem_cons_zero, List.getElem_cons_succ, Act.put, List.setIfInBounds_toArray, List.set_cons_zero, List.set_cons_succ])
          refine wpAnyH_done (by kernel_rfl) ?_ _
          refine NoPanic.normal ?_
          go_wp2
          go_roundg (S.lots.length - (k + 1))
          case measure => omega
          case rel => exact ⟨k + 1, rfl, by omega, by rw [HNX.out]; rfl, by go_num, HK1.out.trans HKR.out (fun _ _ h => h)⟩
    · have hje : k = S.lots.length := by omega
      subst hje
      have hjl : ((S.lots.length : Int) < (S.lots.length : Int)) = False := by simp
      go_wp2
      go_ret
      exact ⟨by rw [← HACC.out]; rfl, HK.out⟩

end Go.Proofs.YteommegadhipkaaGreatDoor

/- House.Ask at the question for all lots. -/
namespace Go.Proofs.YteommegadhipkaaGreatDoor
set_option linter.unusedSimpArgs false
set_option linter.unusedVariables false
set_option linter.unnecessarySimpa false
open Go.RowKit

def lotsB : ByteArray := ⟨#[108, 111, 116, 115]⟩
theorem lotsB_line : isLineB lotsB = true := by kernel_rfl
theorem lotsB_is : (lotsB.toList == [108, 111, 116, 115]) = true := by kernel_rfl
set_option maxHeartbeats 1000000 in
set_option maxRecDepth 100000 in
theorem reply_lots {w : World} {V : StV} {S : St} {m : Nat} (hG : Glob w) (h : StAt w V S) (hI : Inv m S) : Calls Tryz.prog 20 #[.pointer (some ⟨V.b, 0, none⟩), .string lotsB] w (IdxPost w (.tuple #[.string (listF S.lots), .int .i64 0])) := by
  obtain ⟨s, hs⟩ : ∃ s, lotsB = s := ⟨_, rfl⟩
  have hl := lotsB_line
  have hi := lotsB_is
  have hz : s.size = 4 := by rw [← hs]; rfl
  rw [hs] at hl hi ⊢
  clear hs
  have HL := Lib.hid hl; have HZ := Lib.hid hz; have HG := Lib.hid hG; have H := Lib.hid h; have HI := Lib.hid hI
  clear hl hz hG h hI
  go_enter Tryz.func20, Tryz.ntmps20
  go_wp2_with (first
    | (go_at_call 39; refine (isLine_any HG.out (by rw [HZ.out]; omega)).mono ?_; rintro e w1 ⟨he, hk1⟩; rw [HL.out] at he; subst he; have HK1 := Lib.hid hk1; clear hk1)
    | (go_at_call 40; obtain ⟨mx, hm⟩ := (HG.out.keep HK1.out).maxlen; refine (Tryz.strings_Cut s ⟨#[32]⟩ mx w1 (by rw [HZ.out]; omega) hm).mono ?_; clear hm; rintro e w2 ⟨rfl, n2, h2⟩; have HK2 := Lib.hid (HK1.out.trans (h2 ▸ (Keep.refl _ w1).drewN n2) (fun _ _ h => h)); clear h2)
    | (go_at_call 41; refine (list_any (HG.out.keep HK2.out) (H.out.keep HK2.out (fun _ _ h => h)) HI.out).mono ?_; rintro e w3 ⟨rfl, hk3⟩; have HK3 := Lib.hid (HK2.out.trans hk3 (fun _ _ h => h)); clear hk3))
  go_ret2
  exact ⟨rfl, HK3.out⟩
set_option maxHeartbeats 1000000 in
set_option maxRecDepth 100000 in
theorem ask_lots {base : Nat} {w : World} {H : HV} {D : Dsk} {S : St} {ls : List ByteArray} {lost : Bool} {m : Nat} (hG : Glob w) (h : HouseAt base w H D S ls lost) (hI : Inv m S) :
    Calls Tryz.prog 7 #[.pointer (some ⟨H.h, 0, none⟩), .string lotsB] w (IdxPost w (.tuple #[.string (listF S.lots), .int .i64 0])) := by
  have c1 := h.blk.cell 1
  simp at c1
  have HN := Lib.hid (hnone_any h)
  have HR := Lib.hid (reply_lots hG h.st hI)
  clear hG h hI
  go_enter Tryz.func7, Tryz.ntmps7
  go_wp2_with (first
    | (go_at_call 16; refine HN.out.mono ?_; rintro e w' ⟨rfl, rfl⟩)
    | (go_at_call 20; refine HR.out.mono ?_; rintro e w3 ⟨rfl, hk3⟩; have HK3 := Lib.hid hk3; clear hk3))
  go_ret2
  exact ⟨rfl, HK3.out⟩
end Go.Proofs.YteommegadhipkaaGreatDoor

/- The law's own opened, and takes: a new house takes a lot. -/
namespace Go.Proofs.YteommegadhipkaaGreatDoor
set_option linter.unusedSimpArgs false
set_option linter.unusedVariables false
set_option linter.unnecessarySimpa false
open Go.RowKit

theorem newDisk_ok (w : World) : Calls Tryz.prog 13 #[.int .i64 200000] w fun e w' => e = .returned (.tuple #[.pointer (some ⟨w.heap.size, 0, none⟩), .int .i64 0]) ∧ Keep (fun _ => False) w w' ∧ DiskAt w.heap.size w' w.heap.size (newD 200000) (.slice none 0 0) := by
  refine (newDisk_any (base := w.heap.size) (w := w) 200000 (Nat.le_refl _)).mono ?_
  rintro e w' ⟨he, hk, hd⟩
  refine ⟨?_, hk, (hd (by decide) (by decide)).2⟩
  rw [he]
  rfl
theorem take10 {w : World} {v : Value} {g : List Int} (hv : Rd w 1 v g.length (icells g)) : ∃ ao cap, v = .slice ao g.length cap ∧ g.length ≤ cap ∧ Rd w 1 (.slice ao (g.take 10).length cap) (g.take 10).length (icells (g.take 10)) := by
  obtain ⟨ao, cap, hve, hlc, _⟩ := hv.shape
  subst hve
  have hr := hv.takeN (g.take 10).length (by rw [List.length_take]; omega)
  have ht : (icells g).take (g.take 10).length = icells (g.take 10) := by
    rw [List.length_take]
    by_cases h : g.length ≤ 10
    · rw [List.take_of_length_le h, List.take_of_length_le (by rw [icells_length]; omega)]
    · rw [show min 10 g.length = 10 by omega]
      simp [icells, List.map_take]
  rw [ht] at hr
  exact ⟨ao, cap, rfl, hlc, hr⟩
set_option maxHeartbeats 2000000 in
set_option maxRecDepth 100000 in
theorem opened3_any {w : World} {gv : Value} {g : List Int} (hG : Glob w) (hg : Rd w 1 gv g.length (icells g)) (hgl : g.length ≤ 9223372036854775807) : Calls Tryz.prog 4 #[gv] w (OpenedPost2 w (g.take 10)) := by
  have h12 := newDisk_ok w
  obtain ⟨ao, cap, hve, hlc, hr⟩ := take10 hg
  have hm : (min (g.length : Int) 10).toNat = (g.take 10).length := by rw [List.length_take]; omega
  have hg10 : (g.take 10).length ≤ 10 := by rw [List.length_take]; omega
  have HC := Lib.hid (fun W (kW : Keep (fun _ => False) w W) => clone57 (hr.keep kW (fun _ _ h => h)) (by omega))
  have HM := Lib.hid hm
  have H10 := Lib.hid hg10
  subst hve
  clear hg hr hm hg10
  have h0 : (0 : Int) ≤ min (g.length : Int) 10 := by omega
  have h1 : min (g.length : Int) 10 ≤ (cap : Int) := by omega
  have HG := Lib.hid hG; clear hG
  have H12 := Lib.hid h12; clear h12
  cases hb : baysB (g.take 10) with
  | true =>
    have hop := calm_open hb (.nil _)
    have HOP := Lib.hid (show openF runF (newD 200000) (g.take 10) = ⟨0, gD [], S0 (g.take 10), []⟩ from hop); have HB := Lib.hid hb
    clear hop hb
    go_enter Tryz.func4, Tryz.ntmps4
    go_wp2_with (first
      | (go_at_call 13; refine H12.out.mono ?_; rintro e w1 ⟨rfl, hk1, hd1⟩; have HK1 := Lib.hid hk1; have HD := Lib.hid hd1; clear hk1 hd1)
      | (go_at_call 15; rw [HM.out]; refine (HC.out _ HK1.out).mono ?_; rintro e w3 ⟨gv3, rfl, ho3, hk3⟩; have HO3 := Lib.hid ho3; have HK3 := Lib.hid (HK1.out.trans hk3 (fun _ _ h => h)); have HK13 := Lib.hid hk3; clear ho3 hk3)
      | (go_at_call 14; have hh := open_any (F := runF) (I := Inv) (g := g.take 10) (HG.out.keep HK3.out) (HD.out.keep HK13.out (fun h => h) (fun _ _ h => h)) (ownsRow_rd HO3.out (icells_one _)) (by have := H10.out; omega) (fun k e => (ownsRow_lt HO3.out k e).2) HK3.out.size (fun e => inv_S0 (baysB_8 e)) (sys_all (by decide)); rw [HOP.out] at hh; refine Calls.mono hh ?_; clear hh; rintro e w4 ⟨v4, _, _, hk4, _, hok4⟩; obtain ⟨H, rfl, hHd, hHv, hh4, hfp4, hbb4, hvl4⟩ := hok4 rfl; have HH := Lib.hid hh4; have HFP := Lib.hid hfp4; have HHD := Lib.hid hHd; have HK4 := Lib.hid (HK3.out.trans (hk4.mono (T := fun k => w.heap.size ≤ k) (fun k _ e => e.elim (fun e => e ▸ Nat.le_refl _) (fun e => by cases e))) (fun k hk e => by omega)); clear hk4 hok4 hHd hHv hh4 hfp4 hbb4 hvl4))
    go_ret3
    refine ⟨HK4.out, fun _ => ⟨H, by rw [HHD.out]; rfl, HH.out, fun k hk => by have := HFP.out k hk; have := HK3.out.size; omega⟩, fun e => by rw [HB.out] at e; cases e⟩
  | false =>
    have hop := open_badBays hb (newD 200000)
    have HOP := Lib.hid hop; have HB := Lib.hid hb
    clear hop hb
    go_enter Tryz.func4, Tryz.ntmps4
    go_wp2_with (first
      | (go_at_call 13; refine H12.out.mono ?_; rintro e w1 ⟨rfl, hk1, hd1⟩; have HK1 := Lib.hid hk1; have HD := Lib.hid hd1; clear hk1 hd1)
      | (go_at_call 15; rw [HM.out]; refine (HC.out _ HK1.out).mono ?_; rintro e w3 ⟨gv3, rfl, ho3, hk3⟩; have HO3 := Lib.hid ho3; have HK3 := Lib.hid (HK1.out.trans hk3 (fun _ _ h => h)); have HK13 := Lib.hid hk3; clear ho3 hk3)
      | (go_at_call 14; have hh := open_any (F := runF) (I := Inv) (g := g.take 10) (HG.out.keep HK3.out) (HD.out.keep HK13.out (fun h => h) (fun _ _ h => h)) (ownsRow_rd HO3.out (icells_one _)) (by have := H10.out; omega) (fun k e => (ownsRow_lt HO3.out k e).2) HK3.out.size (fun e => inv_S0 (baysB_8 e)) (sys_all (by decide)); rw [HOP.out] at hh; refine Calls.mono hh ?_; clear hh; rintro e w4 ⟨v4, _, _, hk4, hbad4, _⟩; obtain rfl := hbad4 (show (2 : Int) ≠ 0 by decide); have HK4 := Lib.hid (HK3.out.trans (hk4.mono (T := fun k => w.heap.size ≤ k) (fun k _ e => e.elim (fun e => e ▸ Nat.le_refl _) (fun e => by cases e))) (fun k hk e => by omega)); clear hk4 hbad4))
    go_ret3
    refine ⟨HK4.out, (fun e => by rw [HB.out] at e; cases e), fun _ => ⟨_, rfl⟩⟩

/- takes -/
def zeroG : List Int := [0, 0, 0, 0, 0, 0, 0, 0]
def maceL : ByteArray := bs [116, 97, 107, 101, 32, 109, 97, 99, 101, 32, 55]
def maceS : St := addS (S0 zeroG) ⟨bs [109, 97, 99, 101], 7, -1, false⟩
theorem bays_zero : baysB (zeroG.take 10) = true := by decide +kernel
theorem form_mace7 : formF maceL = some ([115, 100], 391, ⟨[7], bs [109, 97, 99, 101], true⟩) := by kernel_rfl
theorem do_mace7 : doF runF (S0 zeroG) maceL = ⟨0, maceS, bs [116, 97, 107, 101, 32, 49]⟩ := by
  have h : runF 391 (S0 zeroG) ⟨[7], bs [109, 97, 99, 101], true⟩ = ⟨0, maceS, bs [116, 97, 107, 101, 32, 49]⟩ := by kernel_rfl
  unfold doF
  rw [form_mace7]
  show (if true = true then (if (runF 391 (S0 zeroG) ⟨[7], bs [109, 97, 99, 101], true⟩).err = 0 then runF 391 (S0 zeroG) ⟨[7], bs [109, 97, 99, 101], true⟩ else _) else _) = _
  rw [if_pos rfl, h]
  rfl
theorem list_mace7 : listF maceS.lots = bs [108, 111, 116, 115, 32, 49, 58, 109, 97, 99, 101, 58, 55, 58, 45, 58, 111, 112, 101, 110] := by kernel_rfl
theorem inv_mace : Inv 1 maceS := by
  have h := inv_next (inv_S0 (g := zeroG) rfl) (line := maceL) (by rw [do_mace7])
  rw [do_mace7] at h
  exact h
theorem step_mace7 : hdoF runF (gD []) (S0 zeroG) [] false maceL = ⟨0, bs [116, 97, 107, 101, 32, 49], gD [maceL], maceS, [maceL], false⟩ := by
  have h := calm_step (S := S0 zeroG) (ls := []) (by decide) maceL
  rw [do_mace7, if_pos rfl] at h
  exact h
def lotsM : ByteArray := bs [108, 111, 116, 115, 32, 49, 58, 109, 97, 99, 101, 58, 55, 58, 45, 58, 111, 112, 101, 110]
theorem lots_eq : ((bs [116, 97, 107, 101, 32, 49]).toList == [116, 97, 107, 101, 32, 49]) = true := by kernel_rfl
theorem lotsM_eq : (lotsM.toList == [108, 111, 116, 115, 32, 49, 58, 109, 97, 99, 101, 58, 55, 58, 45, 58, 111, 112, 101, 110]) = true := by kernel_rfl
theorem list_maceM : listF maceS.lots = lotsM := list_mace7
set_option maxHeartbeats 4000000 in
set_option maxRecDepth 100000 in
theorem takes_any {w : World} (hG : Glob w) : Calls Tryz.prog 5 #[] w (IdxPost w (.bool true)) := by
  have h4 := opened3_any (w := w.alloc (.cells (icells zeroG).toArray 3)) (g := zeroG) (hG.keep ((Keep.refl _ w).alloc _)) (Rd.new w 1 8 (icells zeroG) 3 rfl (icells_one _) (by unfold maxLen; omega)) (by decide)
  have HG := Lib.hid hG; clear hG
  have H4 := Lib.hid h4; clear h4
  have HK0 := Lib.hid (show Keep (fun _ => False) w (w.alloc (.cells (icells zeroG).toArray 3)) from (Keep.refl _ w).alloc _)
  have hone : ∀ w1 H1, Keep (fun _ => False) (w.alloc (.cells (icells zeroG).toArray 3)) w1 → HouseAt (w.alloc (.cells (icells zeroG).toArray 3)).heap.size w1 H1 (gD []) (S0 zeroG) [] false → (∀ k, H1.V.fp k → (w.alloc (.cells (icells zeroG).toArray 3)).heap.size ≤ k) → One w H1 (S0 zeroG) [] w1 := fun w1 H1 k h f =>
    ⟨h.lower HK0.out.size, fun i hi => Nat.le_trans HK0.out.size (f i hi), HK0.out.trans k (fun _ _ h => h)⟩
  have HONE := Lib.hid hone; clear hone
  go_enter Tryz.func5, Tryz.ntmps5
  go_wp2_with (first
    | (go_at_call 4; refine H4.out.mono ?_; rintro e w1 ⟨hk1, hok, _⟩; obtain ⟨⟨x1, y1, v1, V1, vl1⟩, rfl, hh1, hf1⟩ := hok bays_zero; have HO := Lib.hid (HONE.out _ _ hk1 hh1 hf1); clear hk1 hok hh1 hf1)
    | (go_at_call 6; have hh := hdo_any (F := runF) (s := maceL) (HG.out.keep HO.out.keep) HO.out.keep.size HO.out.h ((inv_S0 (g := zeroG) rfl).small (by omega)) (by decide) (by decide) (run_ok (inv_S0 (g := zeroG) rfl) (by omega) maceL); rw [step_mace7] at hh; refine Calls.mono hh ?_; clear hh; rintro e w5 ⟨⟨x3, y3, v3, V3, vl3⟩, rfl, h3, hc3⟩; obtain rfl : x1 = x3 := hc3.h.symm; obtain rfl : y1 = y3 := hc3.d.symm; have HO2 := Lib.hid (HO.out.step h3 hc3); clear h3 hc3)
    | (go_at_call 7; have hh := ask_lots (HG.out.keep HO2.out.keep) HO2.out.h inv_mace; rw [list_maceM] at hh; refine Calls.mono hh ?_; clear hh; rintro e w6 ⟨rfl, hk6⟩; have HK6 := Lib.hid (HO2.out.keep.trans hk6 (fun _ _ h => h)); clear hk6))
  rotate_left
  · exact absurd (beq_iff_eq.1 lots_eq) (by assumption)
  go_ret
  refine ⟨?_, HK6.out⟩
  show Ending.returned (.bool (lotsM.toList == [108, 111, 116, 115, 32, 49, 58, 109, 97, 99, 101, 58, 55, 58, 45, 58, 111, 112, 101, 110])) = _
  rw [lotsM_eq]
end Go.Proofs.YteommegadhipkaaGreatDoor

/- The reply to lots, read back word by word: plain Lean. -/
namespace Go.Proofs.YteommegadhipkaaGreatDoor
set_option linter.unusedSimpArgs false
set_option linter.unusedVariables false
set_option linter.unnecessarySimpa false
open Go.RowKit

theorem joinTail_snoc (sep : List UInt8) (r : List (List UInt8)) (y : List UInt8) : Lib.joinTail sep (r ++ [y]) = Lib.joinTail sep r ++ (sep ++ y) := by
  simp [Lib.joinTail]
theorem jbs_snoc (x : ByteArray) (xs : List ByteArray) (y sep : ByteArray) : jbs (x :: (xs ++ [y])) sep = jbs (x :: xs) sep ++ (sep ++ y) := by
  apply ByteArray.ext; apply Array.toList_inj.1
  simp [jbs, Lib.join_cons, joinTail_snoc]
def d0 : Lot := ⟨bs [], 0, 0, false⟩
def lotWs (l : List Lot) (k : Nat) : List ByteArray := (List.range k).map fun i => lotS i (l.getD i d0)
theorem listN_join (l : List Lot) : ∀ k, listN l k = jbs (lotsB :: lotWs l k) (bs [32]) := by
  intro k
  induction k with
  | zero =>
    apply ByteArray.ext; apply Array.toList_inj.1
    simp [listN, lotWs, jbs, Lib.join_one, lotsB, bs]
  | succ k ih =>
    have e : lotWs l (k + 1) = lotWs l k ++ [lotS k (l.getD k d0)] := by simp [lotWs, List.range_succ]
    rw [e, jbs_snoc, ← ih]
    rfl
/-- A byte that stands in no part. -/
def okC (c : UInt8) : Prop := c ≠ 58 ∧ c ≠ 32
theorem okC_range {c : UInt8} (h : c.toNat ≠ 58 ∧ c.toNat ≠ 32) : okC c := ⟨fun e => h.1 (by rw [e]; rfl), fun e => h.2 (by rw [e]; rfl)⟩
theorem itoa_ok {n : Int} (h : 0 ≤ n) : ∀ c ∈ (itoaB n).data.toList, okC c := by
  obtain ⟨u, rfl⟩ : ∃ u : Nat, n = u := ⟨n.toNat, by omega⟩
  intro c hc
  have e : (itoaB (u : Int)).data.toList = Lib.decDigits u := by simp [itoaB, Lib.itoa_nonneg]
  rw [e] at hc
  have hd := digB_iff.1 (List.all_eq_true.1 (numV_dec u).1 c hc)
  exact okC_range (by omega)
theorem spice_ok {s : ByteArray} (h : s.data.toList.any badS = false) : ∀ c ∈ s.data.toList, okC c := by
  intro c hc
  have hb : badS c = false := by
    cases hb : badS c with
    | false => rfl
    | true => rw [List.any_eq_true.2 ⟨c, hc, hb⟩] at h; cases h
  unfold badS at hb
  simp only [Bool.or_eq_false_iff, decide_eq_false_iff_not] at hb
  exact okC_range (by omega)
theorem bay_ok {x : Lot} : ∀ c ∈ (bayS x).data.toList, okC c := by
  intro c hc
  unfold bayS at hc
  split at hc
  · exact itoa_ok (by omega) c hc
  · have : c = 45 := by simpa [bs] using hc
    subst this; exact ⟨by decide, by decide⟩
theorem is_ok (x : Lot) : ∀ c ∈ (isS x).data.toList, okC c := by
  have h1 : ∀ c ∈ (bs [99, 108, 111, 115, 101, 100]).data.toList, okC c := by unfold okC; decide
  have h2 : ∀ c ∈ (bs [111, 112, 101, 110]).data.toList, okC c := by unfold okC; decide
  unfold isS
  split
  · exact h1
  · exact h2
def partsOf (i : Nat) (x : Lot) : List ByteArray := [itoaB ((i : Int) + 1), x.spice, itoaB x.grams, bayS x, isS x]
theorem parts_ok {i : Nat} {x : Lot} (h : LotK x) : ∀ y ∈ partsOf i x, ∀ c ∈ y.data.toList, okC c := by
  intro y hy
  simp only [partsOf, List.mem_cons, List.not_mem_nil, or_false] at hy
  rcases hy with rfl | rfl | rfl | rfl | rfl
  · exact itoa_ok (by omega)
  · exact spice_ok h.1
  · exact itoa_ok h.2.1
  · exact bay_ok
  · exact is_ok x
theorem mem_join {sep c : UInt8} : ∀ (xs : List (List UInt8)), c ∈ Lib.join xs [sep] → c = sep ∨ ∃ y ∈ xs, c ∈ y := by
  intro xs
  induction xs with
  | nil => intro h; simp [Lib.join_nil] at h
  | cons x r ih =>
    intro h
    cases r with
    | nil => rw [Lib.join_one] at h; exact .inr ⟨x, List.mem_cons_self .., h⟩
    | cons y r =>
      rw [join_two'] at h
      rcases List.mem_append.1 h with h | h
      · exact .inr ⟨x, List.mem_cons_self .., h⟩
      · rcases List.mem_append.1 h with h | h
        · exact .inl (List.mem_singleton.1 h)
        · rcases ih h with h | ⟨z, hz, hc⟩
          · exact .inl h
          · exact .inr ⟨z, List.mem_cons_of_mem _ hz, hc⟩
theorem lotS_no32 {i : Nat} {x : Lot} (h : LotK x) : (32 : UInt8) ∉ (lotS i x).data.toList := by
  intro hc
  have hc' : (32 : UInt8) ∈ Lib.join ((partsOf i x).map (·.data.toList)) [58] := by simpa [lotS, jbs, bs, partsOf] using hc
  rcases mem_join _ hc' with h2 | ⟨y, hy, h2⟩
  · exact absurd h2 (by decide)
  · obtain ⟨z, hz, rfl⟩ := List.mem_map.1 hy
    exact (parts_ok h z hz 32 h2).2 rfl
theorem getD_mem {l : List Lot} {k : Nat} (h : k < l.length) : l.getD k d0 ∈ l := by
  have e : l.getD k d0 = l[k] := by simp [List.getD, h]
  rw [e]; exact List.getElem_mem h
theorem list_words {l : List Lot} (h : ∀ x ∈ l, LotK x) : words (listF l) = lotsB :: lotWs l l.length := by
  show splC 32 (listN l l.length) = _
  rw [listN_join]
  refine splC_join 32 _ _ (fun y hy => ?_)
  rcases List.mem_cons.1 hy with rfl | hy
  · decide
  · obtain ⟨i, hi, rfl⟩ := List.mem_map.1 hy
    exact lotS_no32 (h _ (getD_mem (List.mem_range.1 hi)))
theorem lotWs_len (l : List Lot) (k : Nat) : (lotWs l k).length = k := by simp [lotWs]
theorem lotWs_at {l : List Lot} {k j : Nat} (h : j < k) : (lotWs l k)[j]? = some (lotS j (l.getD j d0)) := by simp [lotWs, h]
theorem listF_size {m : Nat} {S : St} (hI : Inv m S) : (listF S.lots).size ≤ 2424 := by
  have := listN_size (l := S.lots) hI.lo S.lots.length (Nat.le_refl _) (by have := hI.l; omega)
  have h2 := hI.l
  unfold listF
  omega
end Go.Proofs.YteommegadhipkaaGreatDoor
