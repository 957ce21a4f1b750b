/- The law TopFinds, walked: it returns true, whatever the bays, the lines and the pattern. -/
import Derived.Test.YteommegadhipkaaGreatDoorFM27
import Derived.Test.YteommegadhipkaaGreatDoorFM50
import Derived.Test.YteommegadhipkaaGreatDoorFM51
import Derived.Test.YteommegadhipkaaGreatDoorFM12
import Derived.Deep.LoopGhost

/- The law TopFinds, walked: it returns true, whatever the bays, the lines and the pattern. -/
namespace Go.Proofs.YteommegadhipkaaGreatDoor
set_option linter.unusedSimpArgs false
set_option linter.unusedVariables false
set_option linter.unnecessarySimpa false
open Go.RowKit

theorem splitC_any {w : World} {s : ByteArray} (c : UInt8) (hG : Glob w) (hs : s.size ≤ 4096) : Calls Tryz.prog 8 #[.string s, .string ⟨#[c]⟩] w fun e w' => e = .returned (.slice (some ⟨w.heap.size, 0, none⟩) (splC c s).length (splC c s).length) ∧ w' = w.alloc (.cells ((splC c s).map Value.string).toArray 9) := by
  obtain ⟨m, hm⟩ := hG.maxlen
  have hl : (splC c s).length = Lib.countB s ⟨#[c]⟩ + 1 := Lib.splitB_all ⟨#[c]⟩ (Nat.le_refl 1) 0 _ s rfl
  refine (Tryz.strings_Split s ⟨#[c]⟩ m w (by omega) hm (Nat.le_refl 1)).mono ?_
  rintro e w' ⟨rfl, rfl⟩
  exact ⟨by rw [hl], rfl⟩
def L1Rel (w : World) (g : List Int) (b1 d1 m : Nat) (gh : Nat) (s42 : Value) (wx : World) : Prop :=
  ∃ (j : Nat) (H : HV) (S : St) (ls : List ByteArray), gh = m - j ∧ j ≤ m ∧ s42 = .int .i64 j ∧ H.h = b1 ∧ H.d = d1 ∧ One w H S ls wx ∧ Rep runF (S0 g) ls S ∧ ls.length ≤ j ∧ KI ls.length S
def L2Rel (w : World) (l : List Lot) (v14 v59 : Value) (wr : World) : Prop :=
  ∃ j : Nat, j ≤ l.length ∧ v14 = .string (labB (l.take j)) ∧ v59 = .int .i64 j ∧ Keep (fun _ => False) w wr
set_option maxHeartbeats 16000000 in
set_option maxRecDepth 100000 in
theorem topFinds_any {w : World} {gv lv : Value} {g : List Int} {l : List ByteArray} {p : ByteArray} (hG : Glob w) (hg : Rd w 1 gv g.length (icells g)) (hgl : g.length < 9223372036854775807) (hv : Rd w 1 lv l.length (strCells l))
    (hl : ∀ s ∈ l, s.size ≤ 140737488355328) (hln : l.length ≤ 9223372036854775807) (hp : p.size ≤ 1048576) :
    Calls Tryz.prog 3 #[gv, lv, .string p] w (IdxPost w (.bool true)) := by
  obtain ⟨lo, lc, hve, hlc, _⟩ := hv.shape
  subst hve
  obtain ⟨go_, gc, hge, hgc, _⟩ := hg.shape
  subst hge
  have H4 := Lib.hid (opened3_any hG hg (Nat.le_of_lt hgl))
  have HG := Lib.hid hG; clear hG
  have HGR := Lib.hid hg; clear hg
  have HV := Lib.hid hv; clear hv
  have HL := Lib.hid hl; clear hl
  have HLINE := Lib.hid (fun W (hW : Glob W) => line_any (w := W) (s := fndQ p) hW (by rw [fndQ_size]; omega))
  have hqz : (9223372036854775807 < 5 + p.size) = False := eq_false (by omega)
  cases hb : baysB (g.take 10) with
  | false =>
    have HB := Lib.hid hb; clear hb
    go_enter Tryz.func3, Tryz.ntmps3
    go_wp2_with (first
      | (go_at_call 4; refine H4.out.mono ?_; rintro e w1 ⟨hk1, _, hbad⟩; obtain ⟨d1, rfl⟩ := hbad HB.out; have HK1 := Lib.hid hk1; clear hk1 hbad)
      | (go_at_call 5; refine Calls.mono (takes_any (HG.out.keep HK1.out)) ?_; rintro e w4 ⟨rfl, hk4⟩; have HK4 := Lib.hid hk4; clear hk4))
    go_ret
    exact ⟨rfl, HK1.out.trans HK4.out (fun _ _ h => h)⟩
  | true =>
    have HB := Lib.hid hb; clear hb
    obtain ⟨m, hm⟩ : ∃ m, (min (l.length : Int) 50).toNat = m := ⟨_, rfl⟩
    have hml : m ≤ l.length := by omega
    have hm60 : m ≤ 50 := by omega
    have hm0 : (0 : Int) ≤ min (l.length : Int) 50 := by omega
    have hm1 : min (l.length : Int) 50 ≤ (lc : Int) := by omega
    go_enter Tryz.func3, Tryz.ntmps3
    go_wp2_with (first
      | (go_at_call 4; refine H4.out.mono ?_; rintro e w1 ⟨hk1, hok, _⟩; obtain ⟨H1, rfl, hh1, hf1⟩ := hok HB.out; have HONE := Lib.hid (show One w H1 (S0 (g.take 10)) [] w1 from ⟨hh1, hf1, hk1⟩); clear hk1 hok hh1 hf1))
    obtain ⟨b1, hb1⟩ : ∃ x, H1.h = x := ⟨_, rfl⟩
    obtain ⟨d1, hd1⟩ : ∃ x, H1.d = x := ⟨_, rfl⟩
    rw [hb1, hd1]
    have HE := Lib.hid (And.intro hb1 hd1); clear hb1 hd1
    go_loopg [42] m (fun gh s42 wx => L1Rel w (g.take 10) b1 d1 m gh s42 wx)
    case atStart => exact ⟨0, H1, _, _, rfl, Nat.zero_le _, rfl, HE.out.1, HE.out.2, HONE.out, .nil _, Nat.le_refl _, KI.start _⟩
    case round =>
      obtain ⟨j, ⟨x1, y1, v1, V1, vl1⟩, S, ls, rfl, hj, rfl, e1, e2, hone, hrep, hlsj, hki⟩ := hrel
      simp only at e1 e2
      subst e1 e2
      have hcat := cat_length_le hrep
      have HTW := Lib.hid hone
      have HREP := Lib.hid hrep
      have HKI := Lib.hid hki
      clear hone hrep hki HONE HE
      have HIN := Lib.hid (rep_inv (baysB_8 HB.out) HREP.out)
      by_cases hlt : j < m
      · have hjl : ((j : Int) < (m : Int)) = True := by simp; omega
        have hjn : j < l.length := by omega
        have hrd := HV.out.keep HTW.out.keep (fun _ _ h => h)
        obtain ⟨b, o, hao, hcell⟩ : ∃ b o, lo = some ⟨b, o, none⟩ ∧ wr.cell? ⟨b, o + j, none⟩ = some (.string (l.getD j ByteArray.empty)) := by
          rcases hrd.2.2 with ⟨h, h'⟩ | ⟨b, o, c, h, _, _, hx⟩
          · omega
          · injection h with h1 h2 h3
            exact ⟨b, o, h1, hx _ _ (strCells_get l j hjn)⟩
        subst hao
        have hsz := HL.out (l.getD j ByteArray.empty) (by simp [List.getD, List.getElem?_eq_getElem hjn])
        obtain ⟨s, hs⟩ : ∃ s, l.getD j ByteArray.empty = s := ⟨_, rfl⟩
        rw [hs] at hcell hsz
        clear hs hrd
        have hstep := calm_step (S := S) (ls := ls) (by omega) s
        by_cases he : (doF runF S s).err = 0
        · rw [if_pos he] at hstep
          have HST := Lib.hid hstep; clear hstep
          have hlaw := step_law HKI.out (by omega) he
          have HK2 := Lib.hid hlaw.1
          have HREP2 := Lib.hid (HREP.out.snoc he)
          clear hlaw
          go_wp2_with (go_at_call 6; have hh := hdo_any (F := runF) (HG.out.keep HTW.out.keep) HTW.out.keep.size HTW.out.h (HIN.out.small (by omega)) (by omega) (by omega) (run_ok HIN.out (by omega) s); rw [HST.out] at hh; refine Calls.mono hh ?_; clear hh; rintro e w5 ⟨⟨x3, y3, v3, V3, vl3⟩, rfl, h3, hc3⟩; obtain rfl : x1 = x3 := hc3.h.symm; obtain rfl : y1 = y3 := hc3.d.symm; have HTW1 := Lib.hid (HTW.out.step h3 hc3); clear h3 hc3)
          go_roundg (m - (j + 1))
          case measure => omega
          case rel => exact ⟨j + 1, ⟨x1, y1, v3, V3, vl3⟩, _, ls ++ [s], rfl, by omega, by go_num, rfl, rfl, HTW1.out, HREP2.out, by simp; omega, by rw [List.length_append]; exact HK2.out⟩
        · rw [if_neg he] at hstep
          have HST := Lib.hid hstep; clear hstep
          go_wp2_with (go_at_call 6; have hh := hdo_any (F := runF) (HG.out.keep HTW.out.keep) HTW.out.keep.size HTW.out.h (HIN.out.small (by omega)) (by omega) (by omega) (run_ok HIN.out (by omega) s); rw [HST.out] at hh; refine Calls.mono hh ?_; clear hh; rintro e w5 ⟨⟨x3, y3, v3, V3, vl3⟩, rfl, h3, hc3⟩; obtain rfl : x1 = x3 := hc3.h.symm; obtain rfl : y1 = y3 := hc3.d.symm; have HTW1 := Lib.hid (HTW.out.step h3 hc3); clear h3 hc3)
          go_roundg (m - (j + 1))
          case measure => omega
          case rel => exact ⟨j + 1, ⟨x1, y1, v3, V3, vl3⟩, S, ls, rfl, by omega, by go_num, rfl, rfl, HTW1.out, HREP.out, by omega, HKI.out⟩
      · have hje : j = m := by omega
        subst hje
        have hjl : ((j : Int) < (j : Int)) = False := by simp
        have hin := HIN.out
        have hlk : ∀ x ∈ S.lots, LotZ x := fun x hx => ⟨HKI.out.l x hx, (hin.lo x hx).s⟩
        obtain ⟨zs, hzs⟩ : ∃ zs, S.lots = zs := ⟨_, rfl⟩
        have HLK := Lib.hid hlk
        have hlen : zs.length ≤ 20 := by rw [← hzs]; exact hin.l
        obtain ⟨s, hs⟩ : ∃ s, listF S.lots = s := ⟨_, rfl⟩
        have hsz := listF_size hin
        rw [hs] at hsz
        have hw := list_words (fun x hx => (hlk x hx).1)
        rw [hs, hzs] at hw
        have HASK := Lib.hid (ask_lots (HG.out.keep HTW.out.keep) HTW.out.h hin)
        rw [hs] at HASK
        have HSZ := Lib.hid (fun x (hx : x ∈ S.lots) (i : Nat) (hi : i ≤ 1000000) => lotS_size (hin.lo x hx) hi)
        have HASKF := Lib.hid (fun W (kW : Keep (fun _ => False) wr W) (hli : isLineB (fndQ p) = true) => ask_find (p := p) (HG.out.keep (HTW.out.keep.trans kW (fun _ _ h => h))) (HTW.out.h.idle kW) hin hlk hli)
        have HASKB := Lib.hid (fun W (kW : Keep (fun _ => False) wr W) (hli : isLineB (fndQ p) = false) => ask_bad (s := fndQ p) (HG.out.keep (HTW.out.keep.trans kW (fun _ _ h => h))) (HTW.out.h.idle kW) (by rw [fndQ_size]; omega) hli)
        rw [hzs] at HSZ HLK HASKF
        clear hs hlk hzs
        have hwl : (words s).length - 1 = zs.length := by rw [hw]; simp [lotWs_len]
        have hw1 : 1 ≤ (words s).length := by rw [hw]; simp
        have hwj : ∀ j, j < zs.length → (words s).getD (1 + j) ByteArray.empty = lotS j (zs.getD j d0) := fun j hj => by
          rw [hw, Nat.add_comm 1 j]
          simp only [List.getD_cons_succ]
          simp [List.getD, lotWs_at hj]
        have hS : ∀ W, Glob W → Calls Tryz.prog 8 #[.string s, .string ⟨#[32]⟩] W (SplitPost W s) := fun W g => split_any g (by omega)
        obtain ⟨nn, hnn⟩ : ∃ nn, (words s).length = nn := ⟨_, rfl⟩
        have HWJ := Lib.hid hwj; have HS := Lib.hid hS
        have HCELL := Lib.hid (fun (W : World) (j : Nat) (hj : j < (words s).length) => words_cell W s j hj)
        have HNN := Lib.hid hnn
        rw [hnn] at hwl hw1
        have hwi : (1 : Int) ≤ (nn : Int) := by omega
        have HW1 := Lib.hid hw1
        clear hwj hS hw hnn hw1 hsz hin
        go_wp2_with (first
          | (go_at_call 7; refine HASK.out.mono ?_; rintro e w1 ⟨rfl, hk1⟩; have HK1 := Lib.hid hk1; clear hk1)
          | (go_at_call 8; refine (HS.out _ (HG.out.keep (HTW.out.keep.trans HK1.out (fun _ _ h => h)))).mono ?_; rintro e w2 ⟨he, h2⟩; rw [HNN.out] at he; subst he; have H2 := Lib.hid h2; clear h2))
        · have h0 : zs.length = 0 := by omega
          have HK2 : Hid (Keep (fun _ => False) wr w2) := Lib.hid (by rw [H2.out]; exact HK1.out.alloc _)
          have HK2W := Lib.hid (HTW.out.keep.trans HK2.out (fun _ _ h => h))
          obtain rfl : zs = [] := List.eq_nil_of_length_eq_zero h0
          clear h0 hwl h hwi
          go_loopw [14, 59] (L2Rel w2 []) (fun _ v _ => 0 - (intOf v).toNat)
          case atStart => exact ⟨0, Nat.zero_le _, rfl, rfl, Keep.refl _ _⟩
          case round =>
            obtain ⟨j2, hj2, rfl, rfl, hk⟩ := hrel
            obtain rfl : j2 = 0 := by simpa using hj2
            rw [show (List.take 0 ([] : List Lot)) = [] from rfl]
            obtain ⟨acc, hacc⟩ : ∃ acc, labB ([] : List Lot) = acc := ⟨_, rfl⟩
            have hval := labB_valid HLK.out hlen
            have hlab := labL_len HLK.out
            have hmem := locB_mem ([] : List Lot) p
            have hnl := locB_len ([] : List Lot) p
            have hadata : acc.data.toList = labL ([] : List Lot) := by rw [← hacc]; simp [labB]
            have hasz : acc.size = (labL ([] : List Lot)).length := by rw [← hacc]; exact labB_size ([] : List Lot)
            rw [hacc] at hval ⊢
            have HAD := Lib.hid hadata
            have HAS := Lib.hid hasz
            have HVAL := Lib.hid hval
            have HLAB := Lib.hid (show (labL ([] : List Lot)).length ≤ 180 by omega)
            have HKR := Lib.hid hk
            have HKA := Lib.hid (HK2.out.trans hk (fun _ _ h => h))
            have HKW := Lib.hid (HK2W.out.trans hk (fun _ _ h => h))
            have hji : ((([] : List Lot).length : Int) < (([] : List Lot).length : Int)) = False := by simp
            clear hacc hval hlab hadata hasz hk hlen
            cases hli : isLineB (fndQ p) with
            | false =>
              have HAB := Lib.hid (fun W kW => HASKB.out W kW hli)
              have HLN := Lib.hid (fun W gW => HLINE.out W gW)
              rw [hli] at HLN
              clear hli
              go_wp2_with (first
                | (go_at_call 9; refine Calls.mono (HLN.out _ (HG.out.keep HKW.out)) ?_; rintro e w3 ⟨rfl, hk3⟩; have HK3 := Lib.hid hk3; clear hk3)
                | (go_at_call 7; refine Calls.mono (HAB.out _ (HKA.out.trans HK3.out (fun _ _ h => h))) ?_; rintro e w4 ⟨rfl, hk4⟩; have HK4 := Lib.hid (HKW.out.trans (HK3.out.trans hk4 (fun _ _ h => h)) (fun _ _ h => h)); clear hk4)
                | (go_at_call 5; refine Calls.mono (takes_any (HG.out.keep HK4.out)) ?_; rintro e w5 ⟨rfl, hk5⟩; have HK5 := Lib.hid (HK4.out.trans hk5 (fun _ _ h => h)); clear hk5))
              go_ret
              exact ⟨rfl, HK5.out⟩
            | true =>
              have HAB := Lib.hid (fun W kW => HASKF.out W kW hli)
              have HLN := Lib.hid (fun W gW => HLINE.out W gW)
              rw [hli] at HLN
              have HPV := Lib.hid (fnd_valid hli).1
              clear hli
              have HF := Lib.hid (show fndF ([] : List Lot) p = findN (locB ([] : List Lot) p) (locB ([] : List Lot) p).length from rfl)
              obtain ⟨fr, hfr⟩ : ∃ fr, fndF ([] : List Lot) p = fr := ⟨_, rfl⟩
              rw [hfr] at HAB HF
              clear hfr
              go_wp2_with (first
                | (go_at_call 9; refine Calls.mono (HLN.out _ (HG.out.keep HKW.out)) ?_; rintro e w3 ⟨rfl, hk3⟩; have HK3 := Lib.hid hk3; clear hk3)
                | (go_at_call 7; refine Calls.mono (HAB.out _ (HKA.out.trans HK3.out (fun _ _ h => h))) ?_; rintro e w4 ⟨rfl, hk4⟩; have HK4 := Lib.hid (HKW.out.trans (HK3.out.trans hk4 (fun _ _ h => h)) (fun _ _ h => h)); clear hk4)
                | (go_at_call 10; refine (new_any (w := w4) (s := acc) (by rw [HAS.out]; have := HLAB.out; omega)).mono ?_; rintro e w5 ⟨hk5, hp5⟩; rcases hp5 with ⟨hv5, _⟩ | ⟨_, xb, rfl, hx5⟩; · exact absurd (HVAL.out.symm.trans hv5) (by decide)
                   rw [HAS.out, HAD.out] at hx5; have HK5 := Lib.hid (HK4.out.trans hk5 (fun _ _ h => h)); have HX := Lib.hid hx5; clear hk5 hx5)
                | (go_at_call 11; refine (locate_any HX.out (by have := HLAB.out; omega) HPV.out).mono ?_; rintro e w6 ⟨v6, rfl, ho6, hk6⟩; obtain ⟨lo6, lc6, rfl, _⟩ := ownsRow_shape ho6; have HO6 := Lib.hid ho6; have HK6 := Lib.hid (HK5.out.trans hk6 (fun _ _ h => h)); clear ho6 hk6))
              have HO := Lib.hid (show w6.ownsRow w5.heap.size 3 1 (.slice lo6 (locB ([] : List Lot) p).length lc6) (locB ([] : List Lot) p).length (icells (locB ([] : List Lot) p)) from HO6.out)
              have hLI : locI (labL ([] : List Lot)) (Lib.bitLen ((labL ([] : List Lot)).length + 1)) p.data.toList = locB ([] : List Lot) p := rfl
              rw [hLI]
              clear hLI
              obtain ⟨ns, hns⟩ : ∃ ns, locB ([] : List Lot) p = ns := ⟨_, rfl⟩
              rw [hns] at hmem hnl HO HF ⊢
              have h180 : (labL ([] : List Lot)).length ≤ 180 := by have := HLAB.out; omega
              have hfs := findN_size (l := ns) (fun x hx => by obtain ⟨m, h1, h2⟩ := hmem x hx; exact ⟨m, h1, by omega⟩)
              have hnl2 : ns.length ≤ 181 := by omega
              have HFS := Lib.hid hfs
              have HME := Lib.hid (fun x (hx : x ∈ ns) => (show ∃ m : Nat, x = (m : Int) ∧ m ≤ 180 by obtain ⟨m, h1, h2⟩ := hmem x hx; exact ⟨m, h1, by omega⟩))
              clear hns hmem hfs hnl h180 HO6
              go_loopw [24, 119] (F2Rel w6 ns) (fun _ v _ => ns.length - (intOf v).toNat)
              case atStart => exact ⟨0, Nat.zero_le _, rfl, rfl, Keep.refl _ _⟩
              case round =>
                obtain ⟨k, hk, rfl, rfl, hkw⟩ := hrel
                have HKW2 := Lib.hid hkw; clear hkw
                by_cases hltk : k < ns.length
                · have hrd := (ownsRow_rd HO.out (icells_one _)).keep HKW2.out (fun _ _ h => h)
                  have hjk : ((k : Int) < (ns.length : Int)) = True := by simp; omega
                  obtain ⟨x, hx⟩ : ∃ x, ns.getD k 0 = x := ⟨_, rfl⟩
                  have e0 : ns.getD k 0 = ns[k] := by simp [List.getD, hltk]
                  obtain ⟨u, hu, hu2⟩ := HME.out ns[k] (List.getElem_mem _)
                  have hxm : x = (u : Int) := by rw [← hx, e0, hu]
                  obtain ⟨b, o, hao, hcell⟩ : ∃ b o, lo6 = some ⟨b, o, none⟩ ∧ wr.cell? ⟨b, o + k, none⟩ = some (.int .i64 x) := by
                    rcases hrd.2.2 with ⟨h, h'⟩ | ⟨b, o, c, h, _, _, hc⟩
                    · omega
                    · cases h
                      exact ⟨b, o, rfl, by rw [hc k _ (icells_get ns k hltk), hx]⟩
                  subst hao
                  have hnx : findN ns (k + 1) = findN ns k ++ (bs [32] ++ itoaB x) := by rw [← hx]; rfl
                  have hz := HFS.out k (by omega)
                  have hiz := itoaB_size x (by omega) (by omega)
                  obtain ⟨ac2, hac2⟩ : ∃ ac2, findN ns k = ac2 := ⟨_, rfl⟩
                  rw [hac2] at hz hnx ⊢
                  rw [hxm] at hcell hnx hiz
                  have HIT := Lib.hid (fun W => decimalT_any (w := W) (n := u) (by omega))
                  obtain ⟨it, hit⟩ : ∃ it, itoaB (u : Int) = it := ⟨_, rfl⟩
                  rw [hit] at hiz hnx HIT
                  have HNX := Lib.hid hnx
                  have hs1 : (9223372036854775807 < 1 + it.size) = False := eq_false (by omega)
                  have hs2 : (9223372036854775807 < ac2.size + (1 + it.size)) = False := eq_false (by omega)
                  clear hrd e0 hx hu hxm hac2 hit hnx
                  go_wp2_with (go_at_call 12; refine (HIT.out _).mono ?_; rintro e w7 ⟨rfl, rfl⟩)
                  go_roundw
                  case rel => exact ⟨k + 1, by omega, by rw [HNX.out]; rfl, by go_num, HKW2.out⟩
                  case measure => simp [intOf]; omega
                · have hke : k = ns.length := by omega
                  subst hke
                  have heq : (fr.toList == (findN ns ns.length).toList) = true := by rw [HF.out]; exact beq_self_eq_true _
                  obtain ⟨fw, hfw⟩ : ∃ fw, findN ns ns.length = fw := ⟨_, rfl⟩
                  rw [hfw] at heq ⊢
                  clear hfw
                  have hjk : ((ns.length : Int) < (ns.length : Int)) = False := by simp
                  go_wp2_with (go_at_call 5; refine Calls.mono (takes_any (HG.out.keep (HK6.out.trans HKW2.out (fun _ _ h => h)))) ?_; rintro e w8 ⟨rfl, hk8⟩; have HK8 := Lib.hid ((HK6.out.trans HKW2.out (fun _ _ h => h)).trans hk8 (fun _ _ h => h)); clear hk8)
                  go_ret
                  exact ⟨rfl, HK8.out⟩
        · have HN1 := Lib.hid h
          have HK2 : Hid (Keep (fun _ => False) wr w2) := Lib.hid (by rw [H2.out]; exact HK1.out.alloc _)
          have HK2W := Lib.hid (HTW.out.keep.trans HK2.out (fun _ _ h => h))
          have hcw : ∀ j, j < zs.length → w2.cell? ⟨w1.heap.size, 1 + j, none⟩ = some (.string (lotS j (zs.getD j d0))) := fun j hj => by
            have := HCELL.out w1 (1 + j) (by rw [HNN.out]; omega)
            rw [Nat.zero_add, HWJ.out j hj] at this
            rw [H2.out]; exact this
          have hz2 : w1.heap.size < w2.heap.size := by rw [H2.out, World.size_alloc]; omega
          have HCW := Lib.hid hcw
          clear hcw hwi hwl h H2
          go_loopw [14, 59] (L2Rel w2 zs) (fun _ v _ => zs.length - (intOf v).toNat)
          case atStart => exact ⟨0, Nat.zero_le _, rfl, rfl, Keep.refl _ _⟩
          case round =>
            obtain ⟨j2, hj2, rfl, rfl, hk⟩ := hrel
            by_cases hlt2 : j2 < zs.length
            · skip
              have hc0 := (hk.cell (p := ⟨w1.heap.size, 1 + j2, none⟩) hz2 (fun h => h)).trans (HCW.out j2 hlt2)
              obtain ⟨x, hx⟩ : ∃ x, zs.getD j2 d0 = x := ⟨_, rfl⟩
              have hmem : x ∈ zs := hx ▸ getD_mem hlt2
              have hlz := HLK.out x hmem
              have hlsz := HSZ.out x hmem j2 (by omega)
              have hpc := parts_cc (i := j2) hlz.1
              have hnx := labB_take hlt2
              rw [hx] at hc0 hnx
              obtain ⟨sj, hsj⟩ : ∃ sj, lotS j2 x = sj := ⟨_, rfl⟩
              rw [hsj] at hc0 hpc hlsz
              have hcz : (sj ++ ⟨#[58, 58]⟩).size = sj.size + 2 := by rw [ByteArray.size_append]; rfl
              have hs1 : (9223372036854775807 < sj.size + 2) = False := eq_false (by omega)
              obtain ⟨sp, hsp⟩ : ∃ sp, x.spice = sp := ⟨_, rfl⟩
              have hz8 : sp.size ≤ 8 := by rw [← hsp]; exact hlz.2
              have hs2 : (9223372036854775807 < sp.size + 1) = False := eq_false (by omega)
              obtain ⟨acc, hacc⟩ : ∃ acc, labB (zs.take j2) = acc := ⟨_, rfl⟩
              have haz : acc.size ≤ 180 := by
                rw [← hacc, labB_size]
                have := labL_len (l := zs.take j2) (fun x hx => HLK.out x (List.mem_of_mem_take hx))
                rw [List.length_take] at this
                omega
              have hs3 : (9223372036854775807 < acc.size + (sp.size + 1)) = False := eq_false (by omega)
              rw [hacc, hsp] at hnx
              rw [hacc]
              have hpo : partsOf j2 x ++ [bs [], bs []] = [itoaB ((j2 : Int) + 1), sp, itoaB x.grams, bayS x, isS x, bs [], bs []] := by rw [← hsp]; rfl
              rw [hpo] at hpc
              have hsplit := (splitC_any (s := sj ++ ⟨#[58, 58]⟩) 58 ((HG.out.keep HK2W.out).keep hk) (by rw [hcz]; omega))
              rw [hpc] at hsplit
              obtain ⟨p0, hp0⟩ : ∃ p, itoaB ((j2 : Int) + 1) = p := ⟨_, rfl⟩
              obtain ⟨p2, hp2⟩ : ∃ p, itoaB x.grams = p := ⟨_, rfl⟩
              obtain ⟨p3, hp3⟩ : ∃ p, bayS x = p := ⟨_, rfl⟩
              obtain ⟨p4, hp4⟩ : ∃ p, isS x = p := ⟨_, rfl⟩
              rw [hp0, hp2, hp3, hp4] at hsplit
              obtain ⟨w3, hw3⟩ : ∃ w3, w3 = wr.alloc (.cells #[.string p0, .string sp, .string p2, .string p3, .string p4, .string (bs []), .string (bs [])] 9) := ⟨_, rfl⟩
              have hb3 := Blk.new wr #[.string p0, .string sp, .string p2, .string p3, .string p4, .string (bs []), .string (bs [])] 9
              rw [← hw3] at hb3
              have b1 := hb3.cell 1
              simp at b1
              have HSP := Lib.hid (show Calls Tryz.prog 8 #[.string (sj ++ ⟨#[58, 58]⟩), .string ⟨#[58]⟩] wr (fun e w' => e = .returned (.slice (some ⟨wr.heap.size, 0, none⟩) 7 7) ∧ w' = w3) from hsplit.mono fun e w' ⟨he, h2⟩ => ⟨he, by rw [hw3, h2]; rfl⟩)
              have HK3 : Hid (Keep (fun _ => False) w2 w3) := Lib.hid (by rw [hw3]; exact hk.alloc _)
              have HNX := Lib.hid hnx
              have hji : ((j2 : Int) < (zs.length : Int)) = True := eq_true (by omega)
              clear hx hmem hlz hlsz hpc hnx hsj hcz hsp hz8 hacc haz hpo hsplit hp0 hp2 hp3 hp4 hw3 hb3 hk
              go_wp2_with (go_at_call 8; refine HSP.out.mono ?_; rintro e w4 ⟨rfl, rfl⟩)
              go_roundw
              case rel => exact ⟨j2 + 1, by omega, by rw [HNX.out]; rfl, by go_num, HK3.out⟩
              case measure => simp [intOf]; omega
            · obtain rfl : j2 = zs.length := by omega
              rw [List.take_length]
              obtain ⟨acc, hacc⟩ : ∃ acc, labB zs = acc := ⟨_, rfl⟩
              have hval := labB_valid HLK.out hlen
              have hlab := labL_len HLK.out
              have hmem := locB_mem zs p
              have hnl := locB_len zs p
              have hadata : acc.data.toList = labL zs := by rw [← hacc]; simp [labB]
              have hasz : acc.size = (labL zs).length := by rw [← hacc]; exact labB_size zs
              rw [hacc] at hval ⊢
              have HAD := Lib.hid hadata
              have HAS := Lib.hid hasz
              have HVAL := Lib.hid hval
              have HLAB := Lib.hid (show (labL zs).length ≤ 180 by omega)
              have HKR := Lib.hid hk
              have HKA := Lib.hid (HK2.out.trans hk (fun _ _ h => h))
              have HKW := Lib.hid (HK2W.out.trans hk (fun _ _ h => h))
              have hji : ((zs.length : Int) < (zs.length : Int)) = False := by simp
              clear hacc hval hlab hadata hasz hk hlen
              cases hli : isLineB (fndQ p) with
              | false =>
                have HAB := Lib.hid (fun W kW => HASKB.out W kW hli)
                have HLN := Lib.hid (fun W gW => HLINE.out W gW)
                rw [hli] at HLN
                clear hli
                go_wp2_with (first
                  | (go_at_call 9; refine Calls.mono (HLN.out _ (HG.out.keep HKW.out)) ?_; rintro e w3 ⟨rfl, hk3⟩; have HK3 := Lib.hid hk3; clear hk3)
                  | (go_at_call 7; refine Calls.mono (HAB.out _ (HKA.out.trans HK3.out (fun _ _ h => h))) ?_; rintro e w4 ⟨rfl, hk4⟩; have HK4 := Lib.hid (HKW.out.trans (HK3.out.trans hk4 (fun _ _ h => h)) (fun _ _ h => h)); clear hk4)
                  | (go_at_call 5; refine Calls.mono (takes_any (HG.out.keep HK4.out)) ?_; rintro e w5 ⟨rfl, hk5⟩; have HK5 := Lib.hid (HK4.out.trans hk5 (fun _ _ h => h)); clear hk5))
                go_ret
                exact ⟨rfl, HK5.out⟩
              | true =>
                have HAB := Lib.hid (fun W kW => HASKF.out W kW hli)
                have HLN := Lib.hid (fun W gW => HLINE.out W gW)
                rw [hli] at HLN
                have HPV := Lib.hid (fnd_valid hli).1
                clear hli
                have HF := Lib.hid (show fndF zs p = findN (locB zs p) (locB zs p).length from rfl)
                obtain ⟨fr, hfr⟩ : ∃ fr, fndF zs p = fr := ⟨_, rfl⟩
                rw [hfr] at HAB HF
                clear hfr
                go_wp2_with (first
                  | (go_at_call 9; refine Calls.mono (HLN.out _ (HG.out.keep HKW.out)) ?_; rintro e w3 ⟨rfl, hk3⟩; have HK3 := Lib.hid hk3; clear hk3)
                  | (go_at_call 7; refine Calls.mono (HAB.out _ (HKA.out.trans HK3.out (fun _ _ h => h))) ?_; rintro e w4 ⟨rfl, hk4⟩; have HK4 := Lib.hid (HKW.out.trans (HK3.out.trans hk4 (fun _ _ h => h)) (fun _ _ h => h)); clear hk4)
                  | (go_at_call 10; refine (new_any (w := w4) (s := acc) (by rw [HAS.out]; have := HLAB.out; omega)).mono ?_; rintro e w5 ⟨hk5, hp5⟩; rcases hp5 with ⟨hv5, _⟩ | ⟨_, xb, rfl, hx5⟩; · exact absurd (HVAL.out.symm.trans hv5) (by decide)
                     rw [HAS.out, HAD.out] at hx5; have HK5 := Lib.hid (HK4.out.trans hk5 (fun _ _ h => h)); have HX := Lib.hid hx5; clear hk5 hx5)
                  | (go_at_call 11; refine (locate_any HX.out (by have := HLAB.out; omega) HPV.out).mono ?_; rintro e w6 ⟨v6, rfl, ho6, hk6⟩; obtain ⟨lo6, lc6, rfl, _⟩ := ownsRow_shape ho6; have HO6 := Lib.hid ho6; have HK6 := Lib.hid (HK5.out.trans hk6 (fun _ _ h => h)); clear ho6 hk6))
                have HO := Lib.hid (show w6.ownsRow w5.heap.size 3 1 (.slice lo6 (locB zs p).length lc6) (locB zs p).length (icells (locB zs p)) from HO6.out)
                have hLI : locI (labL zs) (Lib.bitLen ((labL zs).length + 1)) p.data.toList = locB zs p := rfl
                rw [hLI]
                clear hLI
                obtain ⟨ns, hns⟩ : ∃ ns, locB zs p = ns := ⟨_, rfl⟩
                rw [hns] at hmem hnl HO HF ⊢
                have h180 : (labL zs).length ≤ 180 := by have := HLAB.out; omega
                have hfs := findN_size (l := ns) (fun x hx => by obtain ⟨m, h1, h2⟩ := hmem x hx; exact ⟨m, h1, by omega⟩)
                have hnl2 : ns.length ≤ 181 := by omega
                have HFS := Lib.hid hfs
                have HME := Lib.hid (fun x (hx : x ∈ ns) => (show ∃ m : Nat, x = (m : Int) ∧ m ≤ 180 by obtain ⟨m, h1, h2⟩ := hmem x hx; exact ⟨m, h1, by omega⟩))
                clear hns hmem hfs hnl h180 HO6
                go_loopw [24, 119] (F2Rel w6 ns) (fun _ v _ => ns.length - (intOf v).toNat)
                case atStart => exact ⟨0, Nat.zero_le _, rfl, rfl, Keep.refl _ _⟩
                case round =>
                  obtain ⟨k, hk, rfl, rfl, hkw⟩ := hrel
                  have HKW2 := Lib.hid hkw; clear hkw
                  by_cases hltk : k < ns.length
                  · have hrd := (ownsRow_rd HO.out (icells_one _)).keep HKW2.out (fun _ _ h => h)
                    have hjk : ((k : Int) < (ns.length : Int)) = True := by simp; omega
                    obtain ⟨x, hx⟩ : ∃ x, ns.getD k 0 = x := ⟨_, rfl⟩
                    have e0 : ns.getD k 0 = ns[k] := by simp [List.getD, hltk]
                    obtain ⟨u, hu, hu2⟩ := HME.out ns[k] (List.getElem_mem _)
                    have hxm : x = (u : Int) := by rw [← hx, e0, hu]
                    obtain ⟨b, o, hao, hcell⟩ : ∃ b o, lo6 = some ⟨b, o, none⟩ ∧ wr.cell? ⟨b, o + k, none⟩ = some (.int .i64 x) := by
                      rcases hrd.2.2 with ⟨h, h'⟩ | ⟨b, o, c, h, _, _, hc⟩
                      · omega
                      · cases h
                        exact ⟨b, o, rfl, by rw [hc k _ (icells_get ns k hltk), hx]⟩
                    subst hao
                    have hnx : findN ns (k + 1) = findN ns k ++ (bs [32] ++ itoaB x) := by rw [← hx]; rfl
                    have hz := HFS.out k (by omega)
                    have hiz := itoaB_size x (by omega) (by omega)
                    obtain ⟨ac2, hac2⟩ : ∃ ac2, findN ns k = ac2 := ⟨_, rfl⟩
                    rw [hac2] at hz hnx ⊢
                    rw [hxm] at hcell hnx hiz
                    have HIT := Lib.hid (fun W => decimalT_any (w := W) (n := u) (by omega))
                    obtain ⟨it, hit⟩ : ∃ it, itoaB (u : Int) = it := ⟨_, rfl⟩
                    rw [hit] at hiz hnx HIT
                    have HNX := Lib.hid hnx
                    have hs1 : (9223372036854775807 < 1 + it.size) = False := eq_false (by omega)
                    have hs2 : (9223372036854775807 < ac2.size + (1 + it.size)) = False := eq_false (by omega)
                    clear hrd e0 hx hu hxm hac2 hit hnx
                    go_wp2_with (go_at_call 12; refine (HIT.out _).mono ?_; rintro e w7 ⟨rfl, rfl⟩)
                    go_roundw
                    case rel => exact ⟨k + 1, by omega, by rw [HNX.out]; rfl, by go_num, HKW2.out⟩
                    case measure => simp [intOf]; omega
                  · have hke : k = ns.length := by omega
                    subst hke
                    have heq : (fr.toList == (findN ns ns.length).toList) = true := by rw [HF.out]; exact beq_self_eq_true _
                    obtain ⟨fw, hfw⟩ : ∃ fw, findN ns ns.length = fw := ⟨_, rfl⟩
                    rw [hfw] at heq ⊢
                    clear hfw
                    have hjk : ((ns.length : Int) < (ns.length : Int)) = False := by simp
                    go_wp2_with (go_at_call 5; refine Calls.mono (takes_any (HG.out.keep (HK6.out.trans HKW2.out (fun _ _ h => h)))) ?_; rintro e w8 ⟨rfl, hk8⟩; have HK8 := Lib.hid ((HK6.out.trans HKW2.out (fun _ _ h => h)).trans hk8 (fun _ _ h => h)); clear hk8)
                    go_ret
                    exact ⟨rfl, HK8.out⟩
end Go.Proofs.YteommegadhipkaaGreatDoor
