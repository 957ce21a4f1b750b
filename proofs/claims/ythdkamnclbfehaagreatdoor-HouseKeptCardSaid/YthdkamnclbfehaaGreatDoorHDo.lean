/- house.House.Do. -/
import Derived.Test.YthdkamnclbfehaaGreatDoorHouseB
namespace Go.Proofs.YthdkamnclbfehaaGreatDoor
set_option linter.unusedSimpArgs false
set_option linter.unusedVariables false
set_option linter.unnecessarySimpa false
open Go.RowKit

theorem hnone_any {base : Nat} {w : World} {H : HV} {D : Dsk} {S : St} {ls : List ByteArray} {lost : Bool} (h : HouseAt base w H D S ls lost) :
    Calls Tryz.prog 52 #[.pointer (some ⟨H.h, 0, none⟩)] w fun e w' => e = .returned (.bool false) ∧ w = w' := by
  have c1 := h.blk.cell 1
  simp at c1
  clear h
  go_enter Tryz.func52, Tryz.ntmps52
  go_wp2
  go_ret
  exact ⟨rfl, rfl⟩

set_option maxHeartbeats 1500000 in
set_option maxRecDepth 100000 in
theorem hdo_any {base : Nat} {w : World} {H : HV} {D : Dsk} {S : St} {ls : List ByteArray} {lost : Bool} {s : ByteArray} {F : Nat → St → FA → Res} (hG : Glob w) (hb : base ≤ w.heap.size) (h : HouseAt base w H D S ls lost) (hs : S.small) (hls : ls.length ≤ 1000000000)
    (hsz : s.size ≤ 9223372036854775807) (hrun : RunOK F S s) : Calls Tryz.prog 20 #[.pointer (some ⟨H.h, 0, none⟩), .string s] w (HDoPost base w H (hdoF F D S ls lost s)) := by
  obtain ⟨hb', hd, v, V, vl⟩ := H
  obtain ⟨lo, lc, hvl, _⟩ := ownsRow_shape h.own
  simp only at hvl
  subst hvl
  have c0 := h.blk.cell 0
  have c1 := h.blk.cell 1
  have c2 := h.blk.cell 2
  have c3 := h.blk.cell 3
  simp at c0 c1 c2 c3
  have H := Lib.hid h; clear h
  have HG := Lib.hid hG; clear hG
  have HS := Lib.hid hs; clear hs
  have HRUN := Lib.hid hrun; clear hrun
  cases lost with
  | true =>
    have HF := Lib.hid (show hdoF F D S ls true s = ⟨7, bs [], D, S, ls, true⟩ by unfold hdoF; rw [if_pos rfl])
    go_enter Tryz.func20, Tryz.ntmps20
    go_wp2_with (first
      | (go_at_call 52; refine (hnone_any H.out).mono ?_; rintro e w' ⟨rfl, rfl⟩))
    go_ret2
    rw [HF.out]
    exact ⟨_, rfl, H.out, HChg.refl _ _⟩
  | false =>
    obtain ⟨R, hR⟩ : ∃ R, doF F S s = R := ⟨_, rfl⟩
    have hF0 : hdoF F D S ls false s = if R.err = 0 then
      if (appendF D (s.data.toList ++ [10])).1 = 0 then
        if (syncF (appendF D (s.data.toList ++ [10])).2).1 = 0 then ⟨0, R.out, (syncF (appendF D (s.data.toList ++ [10])).2).2, R.st, ls ++ [s], false⟩
        else ⟨(syncF (appendF D (s.data.toList ++ [10])).2).1, bs [], (syncF (appendF D (s.data.toList ++ [10])).2).2, S, ls, true⟩
      else ⟨(appendF D (s.data.toList ++ [10])).1, bs [], (appendF D (s.data.toList ++ [10])).2, S, ls, (appendF D (s.data.toList ++ [10])).1 == 10⟩
      else ⟨R.err, bs [], D, S, ls, false⟩ := by unfold hdoF; rw [if_neg (by simp), hR]
    have hsz2 : R.err = 0 → s.size ≤ 200 := fun e => doF_size (F := F) (S := S) (by rw [hR]; exact e)
    have HRR := Lib.hid hR; clear hR
    obtain ⟨re, rs, ro⟩ := R
    by_cases hz : re = 0
    · subst hz
      have hs200 : s.size ≤ 200 := hsz2 rfl
      clear hsz2
      rw [if_pos rfl] at hF0
      have hsum : (9223372036854775807 < s.size + 1) = False := eq_false (by omega)
      have hcv := fun W => Lib.run_convert_string_bytes (P := Tryz.prog) W 9 61 5 (s ++ ⟨#[10]⟩) Tryz.underlying9 Tryz.underlying61 Tryz.underlying5
      have hts : (s ++ (⟨#[10]⟩ : ByteArray)).size = s.size + 1 := by rw [ByteArray.size_append]; rfl
      have HCC : Hid (∀ w3, Rd (Lib.bytesWorld w3 5 (s ++ ⟨#[10]⟩)) 1 (.slice (some ⟨w3.heap.size, 0, none⟩) (s.size + 1) (grownCap w3 (s.size + 1) 0 5)) (s.data.toList ++ [10]).length (bcells (s.data.toList ++ [10]))) := Lib.hid fun w3 => by
        have := convCell w3 (s ++ ⟨#[10]⟩) (by rw [hts]; omega)
        rw [hts, show (s ++ (⟨#[10]⟩ : ByteArray)).data.toList = s.data.toList ++ [10] by simp] at this
        exact this
      have HKC : Hid (∀ w3, Keep (fun _ => False) w3 (Lib.bytesWorld w3 5 (s ++ (⟨#[10]⟩ : ByteArray)))) := Lib.hid fun w3 => convKeep w3 5 _
      clear hts
      obtain ⟨A, hA⟩ : ∃ A, appendF D (s.data.toList ++ [10]) = A := ⟨_, rfl⟩
      rw [hA] at hF0
      have HAP := Lib.hid hA; clear hA
      obtain ⟨ae, D1⟩ := A
      by_cases ha : ae = 0
      · subst ha
        rw [if_pos rfl] at hF0
        dsimp only at hF0
        obtain ⟨Y, hY⟩ : ∃ Y, syncF D1 = Y := ⟨_, rfl⟩
        rw [hY] at hF0
        have HY := Lib.hid hY; clear hY
        obtain ⟨ye, D2⟩ := Y
        by_cases hy : ye = 0
        · subst hy
          rw [if_pos rfl] at hF0
          have HF := Lib.hid hF0; clear hF0
          go_enter Tryz.func20, Tryz.ntmps20
          go_wp2_with (first
            | (go_at_call 52; refine (hnone_any H.out).mono ?_; rintro e w' ⟨rfl, rfl⟩)
            | (go_at_call 53; have hh := do_any (F := F) HG.out H.out.st HS.out (by omega) HRUN.out; rw [HRR.out] at hh; refine Calls.mono hh ?_; clear hh; rintro e w3 ⟨V', rfl, hst3, hvb3, hVV, hfp3, hk3⟩; have c0 := (H.out.blk.keep hk3 (fun h => h)).cell 0; have c1 := (H.out.blk.keep hk3 (fun h => h)).cell 1; have c2 := (H.out.blk.keep hk3 (fun h => h)).cell 2; simp at c0 c1 c2; have HST3 := Lib.hid hst3; have HFP := Lib.hid hfp3; have HK3 := Lib.hid hk3; clear hst3 hvb3 hVV hfp3 hk3)
            | (go_at_call 31; have hX := (H.out.idle HK3.out).idle (HKC.out w3); have hh := append_any hX.disk (HCC.out w3) (fun e => by have e2 : w3.heap.size = hd := Option.some.inj e; have := H.out.disk.blk.lt; have := HK3.out.size; simp only at *; omega) (by have h5 := (HKC.out w3).size; have := HK3.out.size; omega); unfold AppendPost at hh; rw [HAP.out] at hh; dsimp only at hh; refine Calls.mono hh ?_; clear hh; rintro e w5 ⟨rfl, ⟨v1, hd1, hf1⟩, hk5⟩; obtain ⟨h5, hc5⟩ := hX.onDisk hk5 hd1 hf1; have c0 := h5.blk.cell 0; have c1 := h5.blk.cell 1; have c2 := h5.blk.cell 2; have c3 := h5.blk.cell 3; have f1 := h5.blk.free 1; have f2 := h5.blk.free 2; have f3 := h5.blk.free 3; simp at c0 c1 c2 c3; have H5 := Lib.hid h5; have HC5 := Lib.hid hc5; clear hX hd1 hf1 hk5 h5 hc5)
            | (go_at_call 48; have hh := sync_any H5.out.disk; rw [HY.out] at hh; dsimp only at hh; refine Calls.mono hh ?_; clear hh; rintro e w6 ⟨rfl, ⟨v2, hd2, hf2⟩, hk6⟩; obtain ⟨h6, hc6⟩ := H5.out.onDisk hk6 hd2 hf2; have c0 := h6.blk.cell 0; have c1 := h6.blk.cell 1; have c2 := h6.blk.cell 2; have c3 := h6.blk.cell 3; have f1 := h6.blk.free 1; have f2 := h6.blk.free 2; have f3 := h6.blk.free 3; simp at c0 c1 c2 c3; have H6 := Lib.hid h6; have HC6 := Lib.hid hc6; clear hd2 hf2 hk6 h6 hc6; obtain ⟨h7, hc7⟩ := hdo_fin H.out HK3.out (HKC.out w3) HST3.out HFP.out HC5.out HC6.out H6.out; have ho8 := ownsRow_keep h7.own ((Keep.refl (fun _ => False) _).alloc (.cells #[.string s] 9)) (fun _ _ h => h); have hs8 := Rd.new (w6.setCell ⟨hb', 1, none⟩ (.pointer (some ⟨V'.b, 0, none⟩))) 1 1 [.string s] 9 rfl (by simp [Value.oneCell']) (by unfold maxLen; omega); rw [World.size_setCell] at hs8; have HS8 := Lib.hid (hs8.src (P := Tryz.prog) Tryz.underlying44); have HO8 := Lib.hid ho8; have H7 := Lib.hid h7; have HC7 := Lib.hid hc7; clear h7 hc7 ho8 hs8)
            | (at_builtin; refine wpList_app (w := (w6.setCell ⟨hb', 1, none⟩ (.pointer (some ⟨V'.b, 0, none⟩))).alloc (.cells #[.string s] 9)) rfl (.tmp 67) (.tmp 69) 44 44 rfl 9 (.string ⟨#[]⟩) 1 16 Tryz.underlying44 info9 rfl HO8.out rfl HS8.out rfl ?hb1 ?hb2 ?hb3 ?hgo))
          case hb1 => unfold maxLen; omega
          case hb2 => omega
          case hb3 => exact Nat.le_trans hb (Nat.le_trans HC7.out.keep.size (by simp))
          case hgo =>
          intro v' w9 happ
          obtain ⟨ao9, cap9, rfl, _⟩ := ownsRow_shape happ.own
          have h8 := H7.out.idle ((Keep.refl (fun _ => False) _).alloc (.cells #[.string s] 9))
          obtain ⟨h9, hc9⟩ := h8.setLines (vl' := .slice ao9 (ls.length + 1) cap9) (ls' := ls ++ [s]) happ.keep (by have := happ.own; simpa [strCells] using this) happ.fresh
          have hb9 := h8.blk.keep happ.keep h8.lh
          have c2 := hb9.cell 2
          have f2 := hb9.free 2
          simp at c2
          have H9 := Lib.hid h9
          have HC9 := Lib.hid hc9
          clear h8 h9 hc9 hb9 happ
          go_wp2
          go_ret2
          rw [HF.out]
          exact ⟨_, rfl, H9.out, (HC7.out.trans (HChg.idle _ ((Keep.refl (fun _ => False) _).alloc (.cells #[.string s] 9)))).trans HC9.out⟩
        · rw [if_neg hy] at hF0
          have HF := Lib.hid hF0; clear hF0
          have hy2 : (ye != 0) = true := by simpa using hy
          go_enter Tryz.func20, Tryz.ntmps20
          go_wp2_with (first
            | (go_at_call 52; refine (hnone_any H.out).mono ?_; rintro e w' ⟨rfl, rfl⟩)
            | (go_at_call 53; have hh := do_any (F := F) HG.out H.out.st HS.out (by omega) HRUN.out; rw [HRR.out] at hh; refine Calls.mono hh ?_; clear hh; rintro e w3 ⟨V', rfl, hst3, hvb3, hVV, hfp3, hk3⟩; have c0 := (H.out.blk.keep hk3 (fun h => h)).cell 0; have c1 := (H.out.blk.keep hk3 (fun h => h)).cell 1; have c2 := (H.out.blk.keep hk3 (fun h => h)).cell 2; simp at c0 c1 c2; have HST3 := Lib.hid hst3; have HFP := Lib.hid hfp3; have HK3 := Lib.hid hk3; clear hst3 hvb3 hVV hfp3 hk3)
            | (go_at_call 31; have hX := (H.out.idle HK3.out).idle (HKC.out w3); have hh := append_any hX.disk (HCC.out w3) (fun e => by have e2 : w3.heap.size = hd := Option.some.inj e; have := H.out.disk.blk.lt; have := HK3.out.size; simp only at *; omega) (by have h5 := (HKC.out w3).size; have := HK3.out.size; omega); unfold AppendPost at hh; rw [HAP.out] at hh; dsimp only at hh; refine Calls.mono hh ?_; clear hh; rintro e w5 ⟨rfl, ⟨v1, hd1, hf1⟩, hk5⟩; obtain ⟨h5, hc5⟩ := hX.onDisk hk5 hd1 hf1; have c0 := h5.blk.cell 0; have c1 := h5.blk.cell 1; have c2 := h5.blk.cell 2; have c3 := h5.blk.cell 3; have f1 := h5.blk.free 1; have f2 := h5.blk.free 2; have f3 := h5.blk.free 3; simp at c0 c1 c2 c3; have H5 := Lib.hid h5; have HC5 := Lib.hid hc5; clear hX hd1 hf1 hk5 h5 hc5)
            | (go_at_call 48; have hh := sync_any H5.out.disk; rw [HY.out] at hh; dsimp only at hh; refine Calls.mono hh ?_; clear hh; rintro e w6 ⟨rfl, ⟨v2, hd2, hf2⟩, hk6⟩; obtain ⟨h6, hc6⟩ := H5.out.onDisk hk6 hd2 hf2; have c0 := h6.blk.cell 0; have c1 := h6.blk.cell 1; have c2 := h6.blk.cell 2; have c3 := h6.blk.cell 3; have f1 := h6.blk.free 1; have f2 := h6.blk.free 2; have f3 := h6.blk.free 3; simp at c0 c1 c2 c3; have H6 := Lib.hid h6; have HC6 := Lib.hid hc6; clear hd2 hf2 hk6 h6 hc6))
          go_ret2
          rw [HF.out]
          exact ⟨_, rfl, (H6.out.setLost true).1, ((HChg.idle _ (HK3.out.trans (HKC.out w3) (fun _ _ h => h)) |>.trans HC5.out).trans HC6.out).trans (H6.out.setLost true).2⟩
      · rw [if_neg ha] at hF0
        have HF := Lib.hid hF0; clear hF0
        have ha2 : (ae != 0) = true := by simpa using ha
        go_enter Tryz.func20, Tryz.ntmps20
        go_wp2_with (first
          | (go_at_call 52; refine (hnone_any H.out).mono ?_; rintro e w' ⟨rfl, rfl⟩)
          | (go_at_call 53; have hh := do_any (F := F) HG.out H.out.st HS.out (by omega) HRUN.out; rw [HRR.out] at hh; refine Calls.mono hh ?_; clear hh; rintro e w3 ⟨V', rfl, hst3, hvb3, hVV, hfp3, hk3⟩; have c0 := (H.out.blk.keep hk3 (fun h => h)).cell 0; have c1 := (H.out.blk.keep hk3 (fun h => h)).cell 1; have c2 := (H.out.blk.keep hk3 (fun h => h)).cell 2; simp at c0 c1 c2; have HST3 := Lib.hid hst3; have HFP := Lib.hid hfp3; have HK3 := Lib.hid hk3; clear hst3 hvb3 hVV hfp3 hk3)
          | (go_at_call 31; have hX := (H.out.idle HK3.out).idle (HKC.out w3); have hh := append_any hX.disk (HCC.out w3) (fun e => by have e2 : w3.heap.size = hd := Option.some.inj e; have := H.out.disk.blk.lt; have := HK3.out.size; simp only at *; omega) (by have h5 := (HKC.out w3).size; have := HK3.out.size; omega); unfold AppendPost at hh; rw [HAP.out] at hh; dsimp only at hh; refine Calls.mono hh ?_; clear hh; rintro e w5 ⟨rfl, ⟨v1, hd1, hf1⟩, hk5⟩; obtain ⟨h5, hc5⟩ := hX.onDisk hk5 hd1 hf1; have c0 := h5.blk.cell 0; have c1 := h5.blk.cell 1; have c2 := h5.blk.cell 2; have c3 := h5.blk.cell 3; have f1 := h5.blk.free 1; have f2 := h5.blk.free 2; have f3 := h5.blk.free 3; simp at c0 c1 c2 c3; have H5 := Lib.hid h5; have HC5 := Lib.hid hc5; clear hX hd1 hf1 hk5 h5 hc5))
        go_ret2
        rw [HF.out]
        exact ⟨_, rfl, (H5.out.setLost (ae == 10)).1, (HChg.idle _ (HK3.out.trans (HKC.out w3) (fun _ _ h => h)) |>.trans HC5.out).trans (H5.out.setLost (ae == 10)).2⟩
    · rw [if_neg hz] at hF0
      have HF := Lib.hid hF0; clear hF0 hsz2
      have hz2 : (re != 0) = true := by simpa using hz
      go_enter Tryz.func20, Tryz.ntmps20
      go_wp2_with (first
        | (go_at_call 52; refine (hnone_any H.out).mono ?_; rintro e w' ⟨rfl, rfl⟩)
        | (go_at_call 53; have hh := do_any (F := F) HG.out H.out.st HS.out (by omega) HRUN.out; rw [HRR.out] at hh; refine Calls.mono hh ?_; clear hh; rintro e w3 ⟨V', rfl, hst3, hvb3, hVV, hfp3, hk3⟩; have c0 := (H.out.blk.keep hk3 (fun h => h)).cell 0; have c1 := (H.out.blk.keep hk3 (fun h => h)).cell 1; have c2 := (H.out.blk.keep hk3 (fun h => h)).cell 2; simp at c0 c1 c2; have HST3 := Lib.hid hst3; have HFP := Lib.hid hfp3; have HK3 := Lib.hid hk3; clear hst3 hvb3 hVV hfp3 hk3))
      go_ret2
      rw [HF.out]
      exact ⟨_, rfl, H.out.idle HK3.out, HChg.idle _ HK3.out⟩
end Go.Proofs.YthdkamnclbfehaaGreatDoor
