/- index.New. -/
import Derived.Test.YteommegadhipkaaGreatDoorFM37
import Derived.Test.YteommegadhipkaaGreatDoorFM48
import Derived.Test.YteommegadhipkaaGreatDoorFM35
import Derived.StillTailTactics

/- index.New. -/
namespace Go.Proofs.YteommegadhipkaaGreatDoor
set_option linter.unusedSimpArgs false
set_option linter.unusedVariables false
set_option linter.unnecessarySimpa false
open Go.RowKit

/-- A row of ints by places. -/
def rowZ (N : Nat) (F : Nat → Int) : List Value := (List.range N).map fun c => Value.int .i64 (F c)
theorem rowZ_get (N : Nat) (F : Nat → Int) {i : Nat} (h : i < N) : (rowZ N F).toArray[i]? = some (.int .i64 (F i)) := by simp [rowZ, h]
theorem rowZ_set (N : Nat) (F : Nat → Int) (i : Nat) (v : Int) : (rowZ N F).toArray.setIfInBounds i (.int .i64 v) = (rowZ N (fun c => if c = i then v else F c)).toArray := by
  apply Array.toList_inj.1
  simp only [Array.toList_setIfInBounds, List.toList_toArray]
  apply List.ext_getElem
  · simp [rowZ]
  · intro j h1 h2
    have hj : j < N := by simpa [rowZ] using h2
    rw [List.getElem_set]
    by_cases e : i = j
    · subst e; simp [rowZ]
    · have e' : ¬ j = i := fun h => e h.symm
      simp [rowZ, e, e']
theorem rowZ_congr {N : Nat} {F G : Nat → Int} (h : ∀ c, c < N → F c = G c) : rowZ N F = rowZ N G := by
  unfold rowZ
  apply List.map_congr_left
  intro c hc
  rw [h c (List.mem_range.1 hc)]
/-- How many bytes come right ahead of a number. -/
def rawF (l : List UInt8) (c : Nat) : Nat := l.countP fun x => decide (x.toNat + 1 = c)
theorem rawF_snoc (l : List UInt8) (x : UInt8) (c : Nat) : rawF (l ++ [x]) c = rawF l c + if c = x.toNat + 1 then 1 else 0 := by
  unfold rawF
  rw [List.countP_append]
  congr 1
  by_cases h : c = x.toNat + 1
  · simp [h]
  · have h' : ¬ x.toNat + 1 = c := fun e => h e.symm
    simp [h, h']
theorem rawF_le (l : List UInt8) (c : Nat) : rawF l c ≤ l.length := List.countP_le_length
theorem startF_succ (l : List UInt8) (c : Nat) : startF l (c + 1) = startF l c + rawF l (c + 1) := by
  unfold startF rawF
  induction l with
  | nil => rfl
  | cons x l ih =>
    simp only [List.countP_cons]
    by_cases h1 : x.toNat < c
    · have h2 : x.toNat < c + 1 := by omega
      have h3 : ¬ x.toNat + 1 = c + 1 := by omega
      simp only [h1, h2, h3, decide_true, decide_false, if_true, Bool.false_eq_true, if_false]
      omega
    · by_cases h4 : x.toNat = c
      · have h2 : x.toNat < c + 1 := by omega
        have h3 : x.toNat + 1 = c + 1 := by omega
        simp only [h1, h2, h3, decide_true, decide_false, if_true, Bool.false_eq_true, if_false]
        omega
      · have h2 : ¬ x.toNat < c + 1 := by omega
        have h3 : ¬ x.toNat + 1 = c + 1 := by omega
        simp only [h1, h2, h3, decide_false, Bool.false_eq_true, if_false]
        omega
theorem startF_zero (l : List UInt8) : startF l 0 = 1 := by unfold startF; simp
theorem startF_le (l : List UInt8) (c : Nat) : startF l c ≤ l.length + 1 := by
  unfold startF
  have := List.countP_le_length (p := fun x : UInt8 => decide (x.toNat < c)) (l := l)
  omega
def N1Rel (W1 : World) (sb : Nat) (l : List UInt8) (v27 : Value) (wr : World) : Prop :=
  ∃ k : Nat, k ≤ l.length ∧ v27 = .int .i64 k ∧ Keep (fun i => i = sb) W1 wr ∧ Blk wr sb (rowZ 257 (fun x => ((rawF (l.take k) x : Nat) : Int))).toArray 3
def N2Rel (W1 : World) (sb : Nat) (l : List UInt8) (v48 : Value) (wr : World) : Prop :=
  ∃ k : Nat, k ≤ 256 ∧ v48 = .int .i64 k ∧ Keep (fun i => i = sb) W1 wr ∧ Blk wr sb (rowZ 257 (fun x => if x ≤ k then ((startF l x : Nat) : Int) else ((rawF l x : Nat) : Int))).toArray 3
def IxNewPost (w : World) (s : ByteArray) (e : Ending) (w' : World) : Prop :=
  Keep (fun _ => False) w w' ∧ ((validT s = false ∧ e = .returned (.tuple #[.pointer none, .int .i64 2])) ∨
    (validT s = true ∧ ∃ b, e = .returned (.tuple #[.pointer (some ⟨b, 0, none⟩), .int .i64 0]) ∧ XAt w' b s.data.toList (Lib.bitLen (s.size + 1))))
set_option maxHeartbeats 8000000 in
set_option maxRecDepth 100000 in
theorem new_any {w : World} {s : ByteArray} (hs : s.size < 9223372036854775807) : Calls Tryz.prog 10 #[.string s] w (IxNewPost w s) := by
  have HVAL := Lib.hid (validI_any (w := w) hs)
  cases hv : validT s with
  | false =>
    rw [hv] at HVAL
    have HV := Lib.hid hv; clear hv
    go_enter Tryz.func10, Tryz.ntmps10
    go_wp2_with (go_at_call 22; refine HVAL.out.mono ?_; rintro e w1 ⟨rfl, hk1⟩; have HK1 := Lib.hid hk1; clear hk1)
    go_ret2
    exact ⟨HK1.out, .inl ⟨HV.out, rfl⟩⟩
  | true =>
    rw [hv] at HVAL
    have hz : s.data.toList.length = s.size := by simp
    have hsz : s.size ≤ 200 := by unfold validT at hv; simp only [Bool.and_eq_true, decide_eq_true_eq] at hv; exact hv.1
    obtain ⟨l, hl⟩ : ∃ l, s.data.toList = l := ⟨_, rfl⟩
    rw [hl] at hz
    obtain ⟨n, hn⟩ : ∃ n, Lib.bitLen (s.size + 1) = n := ⟨_, rfl⟩
    have HV := Lib.hid hv; have HZ := Lib.hid hz; have HL := Lib.hid hl; have HN := Lib.hid hn
    have hmk : ∀ W, (Instr.makeSlice 22 (.int .i64 257) (.int .i64 257)).run Tryz.prog W = .ok (.slice (some ⟨W.heap.size, 0, none⟩) 257 257) (W.alloc (.cells (rowZ 257 fun _ => 0).toArray 3)) := fun W => by
      have h := run_make_row' (P := Tryz.prog) 22 3 (.int .i64 0) 8 Tryz.underlying22 (by kernel_rfl) rfl .i64 .i64 257 (by omega) (by omega) W
      have e : madeCells #[.int .i64 0] 257 = (rowZ 257 fun _ => 0).toArray := by
        apply Array.toList_inj.1
        rw [toList_madeCells_one]
        show List.replicate 257 (Value.int .i64 0) = (List.range 257).map fun _ => Value.int .i64 0
        rw [List.map_const', List.length_range]
      rw [e] at h
      exact h
    clear hv hz hl hn
    go_enter Tryz.func10, Tryz.ntmps10
    go_wp2_with (first
      | (go_at_call 22; refine HVAL.out.mono ?_; rintro e w1 ⟨rfl, hk1⟩; have HK1 := Lib.hid hk1; clear hk1)
      | (go_at_call 23; refine (suffixes_any (w := w1) hsz).mono ?_; rintro e w2 ⟨v2, rfl, ho2, hk2⟩; rw [HN.out, HL.out] at ho2; have HO2 := Lib.hid ho2; have HK2 := Lib.hid hk2; clear ho2 hk2))
    obtain ⟨vo, vc, hv2, _⟩ := ownsRow_shape HO2.out
    subst hv2
    have hsl : ∀ i ∈ sufL l n, i ≤ s.size := fun i hi => by rw [← HZ.out]; exact sufL_le l n i hi
    have hrd2 := ownsRow_rd HO2.out (icells_one _)
    have hlen : (sufL l n).length = s.size + 1 := by rw [sufL_length, HZ.out]
    have HRD := Lib.hid (show Rd w2 1 (.slice vo (s.size + 1) vc) (sufL l n).length (icells ((sufL l n).map Int.ofNat)) by rw [hlen]; exact hrd2)
    obtain ⟨tr, htr⟩ : ∃ tr : ByteArray, (⟨(trF l n).toArray⟩ : ByteArray) = tr := ⟨_, rfl⟩
    have htl : tr.data.toList = trF l n := by rw [← htr]
    have htz : tr.size = s.size + 1 := by rw [← htr]; show (trF l n).toArray.size = _; simp [trF_length, HZ.out]
    have HTR : Hid (∀ W, Keep (fun _ => False) w2 W → Calls Tryz.prog 25 #[.string s, .slice vo (s.size + 1) vc] W (IdxPost W (.string tr))) := Lib.hid (fun W kW => by
      have h := transform_any (w := W) (s := s) (v := .slice vo (s.size + 1) vc) (l := sufL l n) (HRD.out.keep kW (fun _ _ h => h)) hsl hsz (by omega)
      rw [HL.out] at h
      have e : (⟨((sufL l n).map (befB l)).toArray⟩ : ByteArray) = tr := htr
      rw [e] at h
      exact h)
    have HTT : Hid (∀ W, Calls Tryz.prog 24 #[.string tr] W (TreePost W (trF l n))) := Lib.hid (fun W => by
      have h := tree_any (w := W) (s := tr) (by omega) (by omega)
      rw [htl] at h
      exact h)
    have HKR : Hid (Keep (fun _ => False) w2 w2) := Lib.hid (Keep.refl _ _)
    clear hrd2 hlen htr htl htz hsl
    go_region_held3 (fun _ => True) (trivial)
      (first
        | (go_at_call 25; refine (HTR.out _ (by repeat (first | exact HKR.out | apply Keep.drew | apply Keep.alloc))).mono ?_; rintro e w3 ⟨rfl, hk3⟩; have HK3 := Lib.hid hk3; have HKR3 := Lib.hid (show Keep (fun _ => False) w2 w3 from Keep.trans (by repeat (first | exact HKR.out | apply Keep.drew | apply Keep.alloc)) hk3 (fun _ _ h => h)); have HKR := Lib.hid (show Keep (fun _ => False) w2 w3 from Keep.trans (by repeat (first | exact HKR.out | apply Keep.drew | apply Keep.alloc)) hk3 (fun _ _ h => h)); clear hk3; dsimp only)
        | (go_at_call 24; refine (HTT.out _).mono ?_; rintro e w4 ⟨bt, rfl, ht4, hk4⟩; have HT4 := Lib.hid ht4; have HK4 := Lib.hid hk4; have HKR := Lib.hid (show Keep (fun _ => False) w2 w4 from Keep.trans (by repeat (first | exact HKR.out | apply Keep.drew | apply Keep.alloc)) hk4 (fun _ _ h => h)); clear ht4 hk4; dsimp only))
    · obtain ⟨wf, hwf⟩ : ∃ wf, wf = (w4.alloc (.cells (rowZ 257 fun _ => 0).toArray 3)).alloc (.cells #[.pointer (some ⟨bt, 0, none⟩), .int .i64 (s.size : Int), .slice (some ⟨w4.heap.size, 0, none⟩) 257 257, .slice vo (s.size + 1) vc] 62) := ⟨_, rfl⟩
      rw [← hwf]
      obtain ⟨bx, hbx⟩ : ∃ x, w4.heap.size + 1 = x := ⟨_, rfl⟩
      rw [hbx]
      obtain ⟨sb, hsb⟩ : ∃ x, w4.heap.size = x := ⟨_, rfl⟩
      rw [hsb]
      have hkf : Keep (fun _ => False) w2 wf := by rw [hwf]; exact (HKR.out.alloc _).alloc _
      have hbx' : Blk wf bx #[.pointer (some ⟨bt, 0, none⟩), .int .i64 (s.size : Int), .slice (some ⟨sb, 0, none⟩) 257 257, .slice vo (s.size + 1) vc] 62 := by
        rw [hwf, ← hbx, ← hsb]
        have h := Blk.new (w4.alloc (.cells (rowZ 257 fun _ => 0).toArray 3)) #[.pointer (some ⟨bt, 0, none⟩), .int .i64 (s.size : Int), .slice (some ⟨w4.heap.size, 0, none⟩) 257 257, .slice vo (s.size + 1) vc] 62
        rw [World.size_alloc] at h
        exact h
      have hsb' : Blk wf sb (rowZ 257 fun _ => 0).toArray 3 := by rw [hwf, ← hsb]; exact (Blk.new w4 _ _).alloc _
      have htw : WTAt (fun k => k ≠ sb ∧ k ≠ bx) wf (treeF (trF l n)) bt := by
        rw [hwf]
        exact wt_keep (((Keep.refl (fun _ => False) w4).alloc _).alloc _) (fun _ _ h => h) _ _ (wt_mono (fun i hi => ⟨by have := hi.2; omega, by have := hi.2; omega⟩) _ _ HT4.out)
      have hne : sb ≠ bx ∧ w2.heap.size ≤ sb ∧ w2.heap.size ≤ bx := by have := HKR.out.size; exact ⟨by omega, by omega, by omega⟩
      have HKF := Lib.hid hkf; have HBX := Lib.hid hbx'; have HSB := Lib.hid hsb'; have HTW := Lib.hid htw; have HNE := Lib.hid hne
      have hwl : sb < wf.heap.size ∧ bx < wf.heap.size := ⟨hsb'.lt, hbx'.lt⟩
      have HWL := Lib.hid hwl
      clear hkf hbx' hsb' htw hne hwf hbx hsb hwl
      obtain ⟨W1, hW1⟩ : ∃ W, W = Lib.bytesWorld wf 5 s := ⟨_, rfl⟩
      have hk1 : Keep (fun _ => False) wf W1 := by rw [hW1]; exact convKeep wf 5 s
      have hbt : Rd W1 1 (.slice (some ⟨wf.heap.size, 0, none⟩) s.size (grownCap wf s.size 0 5)) l.length (bcells l) := by
        have h := convCell wf s (by omega)
        rw [← hW1, HL.out] at h
        exact h
      have HK1' := Lib.hid hk1; have HBT := Lib.hid hbt
      have HBX1 := Lib.hid (HBX.out.keep hk1 (fun h => h)); have HSB1 := Lib.hid (HSB.out.keep hk1 (fun h => h))
      clear hk1 hbt
      have hcv := fun W => Lib.run_convert_string_bytes (P := Tryz.prog) W 9 54 5 s Tryz.underlying9 Tryz.underlying54 Tryz.underlying5
      go_wp2_with fail
      rw [← hW1]
      clear hW1 hcv
      go_loopw [27] (N1Rel W1 sb l) (fun v _ => s.size - (intOf v).toNat)
      case atStart => exact ⟨0, Nat.zero_le _, rfl, Keep.refl _ _, HSB1.out⟩
      case round =>
        obtain ⟨k, hk, rfl, hkeep, hsbk⟩ := hrel
        have HKK := Lib.hid hkeep; have HSK := Lib.hid hsbk
        have hbxk := HBX1.out.keep hkeep (fun e => HNE.out.1 e.symm)
        have cx := hbxk.cell 2
        simp at cx
        have HZ' := HZ.out
        by_cases hlt : k < s.size
        · obtain ⟨c, hc⟩ : ∃ c, l[k]'(by rw [HZ.out]; exact hlt) = c := ⟨_, rfl⟩
          have hrd := HBT.out.keep hkeep (fun b e (h : b = sb) => by have := Option.some.inj (show some wf.heap.size = some b from e); have := HWL.out.1; omega)
          have hcell : wr.cell? ⟨wf.heap.size, k, none⟩ = some (.int .u8 c.toNat) := by
            rcases hrd.2.2 with ⟨h, _⟩ | ⟨b, o, c', h, _, _, hx⟩
            · cases h
            · obtain ⟨rfl, rfl⟩ : wf.heap.size = b ∧ 0 = o := by
                injection h with e1
                injection e1 with e1
                injection e1 with e1 e2
                exact ⟨e1, e2⟩
              have := hx k _ (bcells_get l k (by rw [HZ.out]; exact hlt))
              rw [Nat.zero_add] at this
              rw [this, List.getD_eq_getElem?_getD, List.getElem?_eq_getElem (by rw [HZ.out]; exact hlt), hc]
              rfl
          have hc256 := c.toNat_lt
          have hcz := hsbk.cell (c.toNat + 1)
          rw [rowZ_get _ _ (by omega)] at hcz
          have hfz := hsbk.free (c.toNat + 1)
          have hrl := rawF_le (l.take k) (c.toNat + 1)
          have htk : (l.take k).length = k := by rw [List.length_take, Nat.min_eq_left (by rw [HZ.out]; omega)]
          obtain ⟨R, hR⟩ : ∃ R, rawF (l.take k) (c.toNat + 1) = R := ⟨_, rfl⟩
          rw [hR] at hcz hrl
          rw [htk] at hrl
          have HTK := Lib.hid (show l.take (k + 1) = l.take k ++ [c] by rw [List.take_succ_eq_append_getElem (by rw [HZ.out]; exact hlt), hc])
          have HRR := Lib.hid hR
          have s1 := IntWalk.i64_in ((c.toNat : Int) + 1) ⟨by omega, by omega⟩
          have s2 := IntWalk.i64_in ((R : Int) + 1) ⟨by omega, by omega⟩
          have s3 : IntKind.i64.wrap (c.toNat : Int) = (c.toNat : Int) := IntWalk.i64_in _ ⟨by omega, by omega⟩
          have s4 : (0 : Int) ≤ (c.toNat : Int) + 1 := by omega
          have s5 : (c.toNat : Int) + 1 < 257 := by omega
          have s6 : ((c.toNat : Int) + 1).toNat = c.toNat + 1 := by omega
          clear hkeep hsbk hbxk hrd hc hR htk
          go_wp2
          go_roundw
          case rel =>
            have h := HSK.out.set (c.toNat + 1) (.int .i64 ((R : Int) + 1))
            rw [rowZ_set] at h
            have e : rowZ 257 (fun x => if x = c.toNat + 1 then (R : Int) + 1 else ((rawF (l.take k) x : Nat) : Int)) = rowZ 257 (fun x => ((rawF (l.take (k + 1)) x : Nat) : Int)) := rowZ_congr (fun x hx => by
              rw [HTK.out, rawF_snoc]
              by_cases e : x = c.toNat + 1
              · subst e; rw [if_pos rfl, if_pos rfl, HRR.out]; push_cast; rfl
              · rw [if_neg e, if_neg e, Nat.add_zero])
            rw [e] at h
            exact ⟨k + 1, by rw [HZ.out]; omega, by go_num, HKK.out.setCell _ _ (fun _ => rfl), h⟩
          case measure => simp [intOf]; omega
        · have hke : k = l.length := by omega
          subst hke
          rw [List.take_length] at hsbk
          have f0 := hsbk.free 0
          have c0 := hsbk.cell 0
          rw [rowZ_get _ _ (by omega)] at c0
          have HSK2 := Lib.hid hsbk
          have HBXK := Lib.hid hbxk
          clear hkeep hsbk hbxk hlt HSK
          go_wp2_with fail
          obtain ⟨W2, hW2⟩ : ∃ W, W = wr.setCell ⟨sb, 0, none⟩ (.int .i64 1) := ⟨_, rfl⟩
          rw [← hW2]
          have hk2 : Keep (fun i => i = sb) W1 W2 := by rw [hW2]; exact HKK.out.setCell _ _ (fun _ => rfl)
          have hs2 : Blk W2 sb (rowZ 257 (fun x => if x ≤ 0 then ((startF l x : Nat) : Int) else ((rawF l x : Nat) : Int))).toArray 3 := by
            have h := HSK2.out.set 0 (.int .i64 1)
            rw [rowZ_set, ← hW2] at h
            have e : rowZ 257 (fun x => if x = 0 then (1 : Int) else ((rawF l x : Nat) : Int)) = rowZ 257 (fun x => if x ≤ 0 then ((startF l x : Nat) : Int) else ((rawF l x : Nat) : Int)) := rowZ_congr (fun x hx => by
              by_cases e : x = 0
              · subst e; simp [startF_zero]
              · rw [if_neg e, if_neg (by omega)])
            rw [e] at h
            exact h
          have HK2' := Lib.hid hk2; have HS2 := Lib.hid hs2
          clear hk2 hs2 hW2 c0 f0 cx HZ' hk
          go_loopw [48] (N2Rel W1 sb l) (fun v _ => 256 - (intOf v).toNat)
          case atStart => exact ⟨0, Nat.zero_le _, rfl, HK2'.out, HS2.out⟩
          case round =>
            obtain ⟨k, hk, rfl, hkeep, hsbk⟩ := hrel
            have HKK := Lib.hid hkeep; have HSK := Lib.hid hsbk
            have hbxk := HBX1.out.keep hkeep (fun e => HNE.out.1 e.symm)
            have cx := hbxk.cell 2
            simp at cx
            by_cases hlt : k < 256
            · have hlt2 : (k : Int) < 256 := by omega
              have ca := hsbk.cell (k + 1)
              rw [rowZ_get _ _ (by omega), if_neg (by omega)] at ca
              have cb := hsbk.cell k
              rw [rowZ_get _ _ (by omega), if_pos (Nat.le_refl _)] at cb
              have fa := hsbk.free (k + 1)
              have hra := rawF_le l (k + 1)
              have hrb := startF_le l k
              have hsu := startF_succ l k
              have hle := startF_le l (k + 1)
              rw [HZ.out] at hra hrb hle
              obtain ⟨R, hR⟩ : ∃ R, rawF l (k + 1) = R := ⟨_, rfl⟩
              obtain ⟨S, hS⟩ : ∃ S, startF l k = S := ⟨_, rfl⟩
              rw [hR] at ca hra hsu
              rw [hS] at cb hrb hsu
              have HSU := Lib.hid hsu
              have s1 := IntWalk.i64_in ((k : Int) + 1) ⟨by omega, by omega⟩
              have s2 := IntWalk.i64_in ((R : Int) + (S : Int)) ⟨by omega, by omega⟩
              have s4 : (0 : Int) ≤ (k : Int) + 1 := by omega
              have s5 : (k : Int) + 1 < 257 := by omega
              have s6 : ((k : Int) + 1).toNat = k + 1 := by omega
              have s7 : (k : Int) < 257 := by omega
              clear hkeep hsbk hbxk hR hS hsu
              go_upto_region 14 with fail
              go_still_tail 17, (by kernel_rfl)
              change wpList _ _ _ _ _ wr.drew
              go_wp2
              go_roundw
              case rel =>
                have h := HSK.out.drew.set (k + 1) (.int .i64 ((R : Int) + (S : Int)))
                rw [rowZ_set] at h
                have e : rowZ 257 (fun x => if x = k + 1 then (R : Int) + (S : Int) else if x ≤ k then ((startF l x : Nat) : Int) else ((rawF l x : Nat) : Int)) = rowZ 257 (fun x => if x ≤ k + 1 then ((startF l x : Nat) : Int) else ((rawF l x : Nat) : Int)) := rowZ_congr (fun x hx => by
                  by_cases e : x = k + 1
                  · subst e; rw [if_pos rfl, if_pos (Nat.le_refl _), HSU.out]; push_cast; omega
                  · rw [if_neg e]
                    by_cases e2 : x ≤ k
                    · rw [if_pos e2, if_pos (by omega)]
                    · rw [if_neg e2, if_neg (by omega)])
                rw [e] at h
                exact ⟨k + 1, by omega, by go_num, HKK.out.drew.setCell _ _ (fun _ => rfl), h⟩
              case measure => simp [intOf]; omega
            · have hke : k = 256 := by omega
              subst hke
              clear hlt
              go_wp2
              go_ret2
              have hkW : Keep (fun i => i = sb) wf wr := (HK1'.out.mono (fun _ _ h => h.elim)).trans HKK.out (fun _ _ h => h)
              have hk2w : Keep (fun _ => False) w2 wr := HKF.out.trans hkW (fun i hi e => by have := HNE.out.2.1; omega)
              have hk12 : Keep (fun _ => False) w wr := (HK1.out.trans HK2.out (fun _ _ h => h)).trans hk2w (fun _ _ h => h)
              have hst : Rd wr 1 (.slice (some ⟨sb, 0, none⟩) 257 257) 257 (icells (startsL l)) := by
                refine ⟨by simp [icells_length, startsL], icells_one _, .inr ⟨sb, 0, 257, rfl, Nat.le_refl _, by unfold maxLen; omega, fun j u hu => ?_⟩⟩
                have hj : j < 257 := by have := (List.getElem?_eq_some_iff.1 hu).1; simpa [icells_length, startsL] using this
                rw [icells_get _ _ (by simpa [startsL] using hj)] at hu
                cases hu
                rw [Nat.zero_add, HSK.out.cell, rowZ_get _ _ hj, if_pos (by omega)]
                simp [startsL, List.getD, hj]
              have hbf := HBX.out.keep hkW (fun e => HNE.out.1 e.symm)
              have hrdp := HRD.out.keep hk2w (fun _ _ h => h)
              rw [sufL_length, HZ.out] at hrdp
              refine ⟨hk12, .inr ⟨HV.out, bx, rfl, ?_⟩⟩
              rw [HL.out, HN.out]
              refine ⟨bt, _, _, by rw [HZ.out]; exact hbf, wt_mono (fun _ _ => trivial) _ _ (wt_keep hkW (fun i hi e => hi.1 e) _ _ HTW.out), hst, by rw [HZ.out]; exact hrdp⟩
    · obtain ⟨wf, hwf⟩ : ∃ wf, wf = w4.alloc (.cells #[.pointer (some ⟨bt, 0, none⟩), .int .i64 (s.size : Int), .slice (some ⟨w3.heap.size, 0, none⟩) 257 257, .slice vo (s.size + 1) vc] 62) := ⟨_, rfl⟩
      rw [← hwf]
      obtain ⟨bx, hbx⟩ : ∃ x, w4.heap.size = x := ⟨_, rfl⟩
      rw [hbx]
      obtain ⟨sb, hsb⟩ : ∃ x, w3.heap.size = x := ⟨_, rfl⟩
      rw [hsb]
      have hz34 := HK4.out.size
      rw [World.size_alloc] at hz34
      have hkf : Keep (fun _ => False) w2 wf := by rw [hwf]; exact HKR.out.alloc _
      have hbx' : Blk wf bx #[.pointer (some ⟨bt, 0, none⟩), .int .i64 (s.size : Int), .slice (some ⟨sb, 0, none⟩) 257 257, .slice vo (s.size + 1) vc] 62 := by
        rw [hwf, ← hbx, ← hsb]
        exact Blk.new w4 _ _
      have hsb' : Blk wf sb (rowZ 257 fun _ => 0).toArray 3 := by rw [hwf, ← hsb]; exact ((Blk.new w3 _ _).keep HK4.out (fun h => h)).alloc _
      have htw : WTAt (fun k => k ≠ sb ∧ k ≠ bx) wf (treeF (trF l n)) bt := by
        rw [hwf]
        exact wt_keep ((Keep.refl (fun _ => False) w4).alloc _) (fun _ _ h => h) _ _ (wt_mono (fun i hi => ⟨by have h' := hi.1; rw [World.size_alloc] at h'; omega, by have := hi.2; omega⟩) _ _ HT4.out)
      have hne : sb ≠ bx ∧ w2.heap.size ≤ sb ∧ w2.heap.size ≤ bx := by have := HKR.out.size; have := HKR3.out.size; exact ⟨by omega, by omega, by omega⟩
      have HKF := Lib.hid hkf; have HBX := Lib.hid hbx'; have HSB := Lib.hid hsb'; have HTW := Lib.hid htw; have HNE := Lib.hid hne
      have hwl : sb < wf.heap.size ∧ bx < wf.heap.size := ⟨hsb'.lt, hbx'.lt⟩
      have HWL := Lib.hid hwl
      clear hkf hbx' hsb' htw hne hwf hbx hsb hwl
      obtain ⟨W1, hW1⟩ : ∃ W, W = Lib.bytesWorld wf 5 s := ⟨_, rfl⟩
      have hk1 : Keep (fun _ => False) wf W1 := by rw [hW1]; exact convKeep wf 5 s
      have hbt : Rd W1 1 (.slice (some ⟨wf.heap.size, 0, none⟩) s.size (grownCap wf s.size 0 5)) l.length (bcells l) := by
        have h := convCell wf s (by omega)
        rw [← hW1, HL.out] at h
        exact h
      have HK1' := Lib.hid hk1; have HBT := Lib.hid hbt
      have HBX1 := Lib.hid (HBX.out.keep hk1 (fun h => h)); have HSB1 := Lib.hid (HSB.out.keep hk1 (fun h => h))
      clear hk1 hbt
      have hcv := fun W => Lib.run_convert_string_bytes (P := Tryz.prog) W 9 54 5 s Tryz.underlying9 Tryz.underlying54 Tryz.underlying5
      go_wp2_with fail
      rw [← hW1]
      clear hW1 hcv
      go_loopw [27] (N1Rel W1 sb l) (fun v _ => s.size - (intOf v).toNat)
      case atStart => exact ⟨0, Nat.zero_le _, rfl, Keep.refl _ _, HSB1.out⟩
      case round =>
        obtain ⟨k, hk, rfl, hkeep, hsbk⟩ := hrel
        have HKK := Lib.hid hkeep; have HSK := Lib.hid hsbk
        have hbxk := HBX1.out.keep hkeep (fun e => HNE.out.1 e.symm)
        have cx := hbxk.cell 2
        simp at cx
        have HZ' := HZ.out
        by_cases hlt : k < s.size
        · obtain ⟨c, hc⟩ : ∃ c, l[k]'(by rw [HZ.out]; exact hlt) = c := ⟨_, rfl⟩
          have hrd := HBT.out.keep hkeep (fun b e (h : b = sb) => by have := Option.some.inj (show some wf.heap.size = some b from e); have := HWL.out.1; omega)
          have hcell : wr.cell? ⟨wf.heap.size, k, none⟩ = some (.int .u8 c.toNat) := by
            rcases hrd.2.2 with ⟨h, _⟩ | ⟨b, o, c', h, _, _, hx⟩
            · cases h
            · obtain ⟨rfl, rfl⟩ : wf.heap.size = b ∧ 0 = o := by
                injection h with e1
                injection e1 with e1
                injection e1 with e1 e2
                exact ⟨e1, e2⟩
              have := hx k _ (bcells_get l k (by rw [HZ.out]; exact hlt))
              rw [Nat.zero_add] at this
              rw [this, List.getD_eq_getElem?_getD, List.getElem?_eq_getElem (by rw [HZ.out]; exact hlt), hc]
              rfl
          have hc256 := c.toNat_lt
          have hcz := hsbk.cell (c.toNat + 1)
          rw [rowZ_get _ _ (by omega)] at hcz
          have hfz := hsbk.free (c.toNat + 1)
          have hrl := rawF_le (l.take k) (c.toNat + 1)
          have htk : (l.take k).length = k := by rw [List.length_take, Nat.min_eq_left (by rw [HZ.out]; omega)]
          obtain ⟨R, hR⟩ : ∃ R, rawF (l.take k) (c.toNat + 1) = R := ⟨_, rfl⟩
          rw [hR] at hcz hrl
          rw [htk] at hrl
          have HTK := Lib.hid (show l.take (k + 1) = l.take k ++ [c] by rw [List.take_succ_eq_append_getElem (by rw [HZ.out]; exact hlt), hc])
          have HRR := Lib.hid hR
          have s1 := IntWalk.i64_in ((c.toNat : Int) + 1) ⟨by omega, by omega⟩
          have s2 := IntWalk.i64_in ((R : Int) + 1) ⟨by omega, by omega⟩
          have s3 : IntKind.i64.wrap (c.toNat : Int) = (c.toNat : Int) := IntWalk.i64_in _ ⟨by omega, by omega⟩
          have s4 : (0 : Int) ≤ (c.toNat : Int) + 1 := by omega
          have s5 : (c.toNat : Int) + 1 < 257 := by omega
          have s6 : ((c.toNat : Int) + 1).toNat = c.toNat + 1 := by omega
          clear hkeep hsbk hbxk hrd hc hR htk
          go_wp2
          go_roundw
          case rel =>
            have h := HSK.out.set (c.toNat + 1) (.int .i64 ((R : Int) + 1))
            rw [rowZ_set] at h
            have e : rowZ 257 (fun x => if x = c.toNat + 1 then (R : Int) + 1 else ((rawF (l.take k) x : Nat) : Int)) = rowZ 257 (fun x => ((rawF (l.take (k + 1)) x : Nat) : Int)) := rowZ_congr (fun x hx => by
              rw [HTK.out, rawF_snoc]
              by_cases e : x = c.toNat + 1
              · subst e; rw [if_pos rfl, if_pos rfl, HRR.out]; push_cast; rfl
              · rw [if_neg e, if_neg e, Nat.add_zero])
            rw [e] at h
            exact ⟨k + 1, by rw [HZ.out]; omega, by go_num, HKK.out.setCell _ _ (fun _ => rfl), h⟩
          case measure => simp [intOf]; omega
        · have hke : k = l.length := by omega
          subst hke
          rw [List.take_length] at hsbk
          have f0 := hsbk.free 0
          have c0 := hsbk.cell 0
          rw [rowZ_get _ _ (by omega)] at c0
          have HSK2 := Lib.hid hsbk
          have HBXK := Lib.hid hbxk
          clear hkeep hsbk hbxk hlt HSK
          go_wp2_with fail
          obtain ⟨W2, hW2⟩ : ∃ W, W = wr.setCell ⟨sb, 0, none⟩ (.int .i64 1) := ⟨_, rfl⟩
          rw [← hW2]
          have hk2 : Keep (fun i => i = sb) W1 W2 := by rw [hW2]; exact HKK.out.setCell _ _ (fun _ => rfl)
          have hs2 : Blk W2 sb (rowZ 257 (fun x => if x ≤ 0 then ((startF l x : Nat) : Int) else ((rawF l x : Nat) : Int))).toArray 3 := by
            have h := HSK2.out.set 0 (.int .i64 1)
            rw [rowZ_set, ← hW2] at h
            have e : rowZ 257 (fun x => if x = 0 then (1 : Int) else ((rawF l x : Nat) : Int)) = rowZ 257 (fun x => if x ≤ 0 then ((startF l x : Nat) : Int) else ((rawF l x : Nat) : Int)) := rowZ_congr (fun x hx => by
              by_cases e : x = 0
              · subst e; simp [startF_zero]
              · rw [if_neg e, if_neg (by omega)])
            rw [e] at h
            exact h
          have HK2' := Lib.hid hk2; have HS2 := Lib.hid hs2
          clear hk2 hs2 hW2 c0 f0 cx HZ' hk
          go_loopw [48] (N2Rel W1 sb l) (fun v _ => 256 - (intOf v).toNat)
          case atStart => exact ⟨0, Nat.zero_le _, rfl, HK2'.out, HS2.out⟩
          case round =>
            obtain ⟨k, hk, rfl, hkeep, hsbk⟩ := hrel
            have HKK := Lib.hid hkeep; have HSK := Lib.hid hsbk
            have hbxk := HBX1.out.keep hkeep (fun e => HNE.out.1 e.symm)
            have cx := hbxk.cell 2
            simp at cx
            by_cases hlt : k < 256
            · have hlt2 : (k : Int) < 256 := by omega
              have ca := hsbk.cell (k + 1)
              rw [rowZ_get _ _ (by omega), if_neg (by omega)] at ca
              have cb := hsbk.cell k
              rw [rowZ_get _ _ (by omega), if_pos (Nat.le_refl _)] at cb
              have fa := hsbk.free (k + 1)
              have hra := rawF_le l (k + 1)
              have hrb := startF_le l k
              have hsu := startF_succ l k
              have hle := startF_le l (k + 1)
              rw [HZ.out] at hra hrb hle
              obtain ⟨R, hR⟩ : ∃ R, rawF l (k + 1) = R := ⟨_, rfl⟩
              obtain ⟨S, hS⟩ : ∃ S, startF l k = S := ⟨_, rfl⟩
              rw [hR] at ca hra hsu
              rw [hS] at cb hrb hsu
              have HSU := Lib.hid hsu
              have s1 := IntWalk.i64_in ((k : Int) + 1) ⟨by omega, by omega⟩
              have s2 := IntWalk.i64_in ((R : Int) + (S : Int)) ⟨by omega, by omega⟩
              have s4 : (0 : Int) ≤ (k : Int) + 1 := by omega
              have s5 : (k : Int) + 1 < 257 := by omega
              have s6 : ((k : Int) + 1).toNat = k + 1 := by omega
              have s7 : (k : Int) < 257 := by omega
              clear hkeep hsbk hbxk hR hS hsu
              go_upto_region 14 with fail
              go_still_tail 17, (by kernel_rfl)
              change wpList _ _ _ _ _ wr.drew
              go_wp2
              go_roundw
              case rel =>
                have h := HSK.out.drew.set (k + 1) (.int .i64 ((R : Int) + (S : Int)))
                rw [rowZ_set] at h
                have e : rowZ 257 (fun x => if x = k + 1 then (R : Int) + (S : Int) else if x ≤ k then ((startF l x : Nat) : Int) else ((rawF l x : Nat) : Int)) = rowZ 257 (fun x => if x ≤ k + 1 then ((startF l x : Nat) : Int) else ((rawF l x : Nat) : Int)) := rowZ_congr (fun x hx => by
                  by_cases e : x = k + 1
                  · subst e; rw [if_pos rfl, if_pos (Nat.le_refl _), HSU.out]; push_cast; omega
                  · rw [if_neg e]
                    by_cases e2 : x ≤ k
                    · rw [if_pos e2, if_pos (by omega)]
                    · rw [if_neg e2, if_neg (by omega)])
                rw [e] at h
                exact ⟨k + 1, by omega, by go_num, HKK.out.drew.setCell _ _ (fun _ => rfl), h⟩
              case measure => simp [intOf]; omega
            · have hke : k = 256 := by omega
              subst hke
              clear hlt
              go_wp2
              go_ret2
              have hkW : Keep (fun i => i = sb) wf wr := (HK1'.out.mono (fun _ _ h => h.elim)).trans HKK.out (fun _ _ h => h)
              have hk2w : Keep (fun _ => False) w2 wr := HKF.out.trans hkW (fun i hi e => by have := HNE.out.2.1; omega)
              have hk12 : Keep (fun _ => False) w wr := (HK1.out.trans HK2.out (fun _ _ h => h)).trans hk2w (fun _ _ h => h)
              have hst : Rd wr 1 (.slice (some ⟨sb, 0, none⟩) 257 257) 257 (icells (startsL l)) := by
                refine ⟨by simp [icells_length, startsL], icells_one _, .inr ⟨sb, 0, 257, rfl, Nat.le_refl _, by unfold maxLen; omega, fun j u hu => ?_⟩⟩
                have hj : j < 257 := by have := (List.getElem?_eq_some_iff.1 hu).1; simpa [icells_length, startsL] using this
                rw [icells_get _ _ (by simpa [startsL] using hj)] at hu
                cases hu
                rw [Nat.zero_add, HSK.out.cell, rowZ_get _ _ hj, if_pos (by omega)]
                simp [startsL, List.getD, hj]
              have hbf := HBX.out.keep hkW (fun e => HNE.out.1 e.symm)
              have hrdp := HRD.out.keep hk2w (fun _ _ h => h)
              rw [sufL_length, HZ.out] at hrdp
              refine ⟨hk12, .inr ⟨HV.out, bx, rfl, ?_⟩⟩
              rw [HL.out, HN.out]
              refine ⟨bt, _, _, by rw [HZ.out]; exact hbf, wt_mono (fun _ _ => trivial) _ _ (wt_keep hkW (fun i hi e => hi.1 e) _ _ HTW.out), hst, by rw [HZ.out]; exact hrdp⟩
    · obtain ⟨wf, hwf⟩ : ∃ wf, wf = w4.alloc (.cells #[.pointer (some ⟨bt, 0, none⟩), .int .i64 (s.size : Int), .slice (some ⟨w2.heap.size, 0, none⟩) 257 257, .slice vo (s.size + 1) vc] 62) := ⟨_, rfl⟩
      rw [← hwf]
      obtain ⟨bx, hbx⟩ : ∃ x, w4.heap.size = x := ⟨_, rfl⟩
      rw [hbx]
      obtain ⟨sb, hsb⟩ : ∃ x, w2.heap.size = x := ⟨_, rfl⟩
      rw [hsb]
      have hz34 := HK4.out.size
      have hz23 := HK3.out.size
      have hz23' : w2.heap.size + 1 ≤ w3.heap.size := by simpa using hz23
      have hkf : Keep (fun _ => False) w2 wf := by rw [hwf]; exact HKR.out.alloc _
      have hbx' : Blk wf bx #[.pointer (some ⟨bt, 0, none⟩), .int .i64 (s.size : Int), .slice (some ⟨sb, 0, none⟩) 257 257, .slice vo (s.size + 1) vc] 62 := by
        rw [hwf, ← hbx, ← hsb]
        exact Blk.new w4 _ _
      have hsb' : Blk wf sb (rowZ 257 fun _ => 0).toArray 3 := by rw [hwf, ← hsb]; exact ((((Blk.new w2 _ _).drew).keep HK3.out (fun h => h)).keep HK4.out (fun h => h)).alloc _
      have htw : WTAt (fun k => k ≠ sb ∧ k ≠ bx) wf (treeF (trF l n)) bt := by
        rw [hwf]
        exact wt_keep ((Keep.refl (fun _ => False) w4).alloc _) (fun _ _ h => h) _ _ (wt_mono (fun i hi => ⟨by have h' := hi.1; omega, by have := hi.2; omega⟩) _ _ HT4.out)
      have hne : sb ≠ bx ∧ w2.heap.size ≤ sb ∧ w2.heap.size ≤ bx := by have := HKR.out.size; exact ⟨by omega, by omega, by omega⟩
      have HKF := Lib.hid hkf; have HBX := Lib.hid hbx'; have HSB := Lib.hid hsb'; have HTW := Lib.hid htw; have HNE := Lib.hid hne
      have hwl : sb < wf.heap.size ∧ bx < wf.heap.size := ⟨hsb'.lt, hbx'.lt⟩
      have HWL := Lib.hid hwl
      clear hkf hbx' hsb' htw hne hwf hbx hsb hwl
      obtain ⟨W1, hW1⟩ : ∃ W, W = Lib.bytesWorld wf 5 s := ⟨_, rfl⟩
      have hk1 : Keep (fun _ => False) wf W1 := by rw [hW1]; exact convKeep wf 5 s
      have hbt : Rd W1 1 (.slice (some ⟨wf.heap.size, 0, none⟩) s.size (grownCap wf s.size 0 5)) l.length (bcells l) := by
        have h := convCell wf s (by omega)
        rw [← hW1, HL.out] at h
        exact h
      have HK1' := Lib.hid hk1; have HBT := Lib.hid hbt
      have HBX1 := Lib.hid (HBX.out.keep hk1 (fun h => h)); have HSB1 := Lib.hid (HSB.out.keep hk1 (fun h => h))
      clear hk1 hbt
      have hcv := fun W => Lib.run_convert_string_bytes (P := Tryz.prog) W 9 54 5 s Tryz.underlying9 Tryz.underlying54 Tryz.underlying5
      go_wp2_with fail
      rw [← hW1]
      clear hW1 hcv
      go_loopw [27] (N1Rel W1 sb l) (fun v _ => s.size - (intOf v).toNat)
      case atStart => exact ⟨0, Nat.zero_le _, rfl, Keep.refl _ _, HSB1.out⟩
      case round =>
        obtain ⟨k, hk, rfl, hkeep, hsbk⟩ := hrel
        have HKK := Lib.hid hkeep; have HSK := Lib.hid hsbk
        have hbxk := HBX1.out.keep hkeep (fun e => HNE.out.1 e.symm)
        have cx := hbxk.cell 2
        simp at cx
        have HZ' := HZ.out
        by_cases hlt : k < s.size
        · obtain ⟨c, hc⟩ : ∃ c, l[k]'(by rw [HZ.out]; exact hlt) = c := ⟨_, rfl⟩
          have hrd := HBT.out.keep hkeep (fun b e (h : b = sb) => by have := Option.some.inj (show some wf.heap.size = some b from e); have := HWL.out.1; omega)
          have hcell : wr.cell? ⟨wf.heap.size, k, none⟩ = some (.int .u8 c.toNat) := by
            rcases hrd.2.2 with ⟨h, _⟩ | ⟨b, o, c', h, _, _, hx⟩
            · cases h
            · obtain ⟨rfl, rfl⟩ : wf.heap.size = b ∧ 0 = o := by
                injection h with e1
                injection e1 with e1
                injection e1 with e1 e2
                exact ⟨e1, e2⟩
              have := hx k _ (bcells_get l k (by rw [HZ.out]; exact hlt))
              rw [Nat.zero_add] at this
              rw [this, List.getD_eq_getElem?_getD, List.getElem?_eq_getElem (by rw [HZ.out]; exact hlt), hc]
              rfl
          have hc256 := c.toNat_lt
          have hcz := hsbk.cell (c.toNat + 1)
          rw [rowZ_get _ _ (by omega)] at hcz
          have hfz := hsbk.free (c.toNat + 1)
          have hrl := rawF_le (l.take k) (c.toNat + 1)
          have htk : (l.take k).length = k := by rw [List.length_take, Nat.min_eq_left (by rw [HZ.out]; omega)]
          obtain ⟨R, hR⟩ : ∃ R, rawF (l.take k) (c.toNat + 1) = R := ⟨_, rfl⟩
          rw [hR] at hcz hrl
          rw [htk] at hrl
          have HTK := Lib.hid (show l.take (k + 1) = l.take k ++ [c] by rw [List.take_succ_eq_append_getElem (by rw [HZ.out]; exact hlt), hc])
          have HRR := Lib.hid hR
          have s1 := IntWalk.i64_in ((c.toNat : Int) + 1) ⟨by omega, by omega⟩
          have s2 := IntWalk.i64_in ((R : Int) + 1) ⟨by omega, by omega⟩
          have s3 : IntKind.i64.wrap (c.toNat : Int) = (c.toNat : Int) := IntWalk.i64_in _ ⟨by omega, by omega⟩
          have s4 : (0 : Int) ≤ (c.toNat : Int) + 1 := by omega
          have s5 : (c.toNat : Int) + 1 < 257 := by omega
          have s6 : ((c.toNat : Int) + 1).toNat = c.toNat + 1 := by omega
          clear hkeep hsbk hbxk hrd hc hR htk
          go_wp2
          go_roundw
          case rel =>
            have h := HSK.out.set (c.toNat + 1) (.int .i64 ((R : Int) + 1))
            rw [rowZ_set] at h
            have e : rowZ 257 (fun x => if x = c.toNat + 1 then (R : Int) + 1 else ((rawF (l.take k) x : Nat) : Int)) = rowZ 257 (fun x => ((rawF (l.take (k + 1)) x : Nat) : Int)) := rowZ_congr (fun x hx => by
              rw [HTK.out, rawF_snoc]
              by_cases e : x = c.toNat + 1
              · subst e; rw [if_pos rfl, if_pos rfl, HRR.out]; push_cast; rfl
              · rw [if_neg e, if_neg e, Nat.add_zero])
            rw [e] at h
            exact ⟨k + 1, by rw [HZ.out]; omega, by go_num, HKK.out.setCell _ _ (fun _ => rfl), h⟩
          case measure => simp [intOf]; omega
        · have hke : k = l.length := by omega
          subst hke
          rw [List.take_length] at hsbk
          have f0 := hsbk.free 0
          have c0 := hsbk.cell 0
          rw [rowZ_get _ _ (by omega)] at c0
          have HSK2 := Lib.hid hsbk
          have HBXK := Lib.hid hbxk
          clear hkeep hsbk hbxk hlt HSK
          go_wp2_with fail
          obtain ⟨W2, hW2⟩ : ∃ W, W = wr.setCell ⟨sb, 0, none⟩ (.int .i64 1) := ⟨_, rfl⟩
          rw [← hW2]
          have hk2 : Keep (fun i => i = sb) W1 W2 := by rw [hW2]; exact HKK.out.setCell _ _ (fun _ => rfl)
          have hs2 : Blk W2 sb (rowZ 257 (fun x => if x ≤ 0 then ((startF l x : Nat) : Int) else ((rawF l x : Nat) : Int))).toArray 3 := by
            have h := HSK2.out.set 0 (.int .i64 1)
            rw [rowZ_set, ← hW2] at h
            have e : rowZ 257 (fun x => if x = 0 then (1 : Int) else ((rawF l x : Nat) : Int)) = rowZ 257 (fun x => if x ≤ 0 then ((startF l x : Nat) : Int) else ((rawF l x : Nat) : Int)) := rowZ_congr (fun x hx => by
              by_cases e : x = 0
              · subst e; simp [startF_zero]
              · rw [if_neg e, if_neg (by omega)])
            rw [e] at h
            exact h
          have HK2' := Lib.hid hk2; have HS2 := Lib.hid hs2
          clear hk2 hs2 hW2 c0 f0 cx HZ' hk
          go_loopw [48] (N2Rel W1 sb l) (fun v _ => 256 - (intOf v).toNat)
          case atStart => exact ⟨0, Nat.zero_le _, rfl, HK2'.out, HS2.out⟩
          case round =>
            obtain ⟨k, hk, rfl, hkeep, hsbk⟩ := hrel
            have HKK := Lib.hid hkeep; have HSK := Lib.hid hsbk
            have hbxk := HBX1.out.keep hkeep (fun e => HNE.out.1 e.symm)
            have cx := hbxk.cell 2
            simp at cx
            by_cases hlt : k < 256
            · have hlt2 : (k : Int) < 256 := by omega
              have ca := hsbk.cell (k + 1)
              rw [rowZ_get _ _ (by omega), if_neg (by omega)] at ca
              have cb := hsbk.cell k
              rw [rowZ_get _ _ (by omega), if_pos (Nat.le_refl _)] at cb
              have fa := hsbk.free (k + 1)
              have hra := rawF_le l (k + 1)
              have hrb := startF_le l k
              have hsu := startF_succ l k
              have hle := startF_le l (k + 1)
              rw [HZ.out] at hra hrb hle
              obtain ⟨R, hR⟩ : ∃ R, rawF l (k + 1) = R := ⟨_, rfl⟩
              obtain ⟨S, hS⟩ : ∃ S, startF l k = S := ⟨_, rfl⟩
              rw [hR] at ca hra hsu
              rw [hS] at cb hrb hsu
              have HSU := Lib.hid hsu
              have s1 := IntWalk.i64_in ((k : Int) + 1) ⟨by omega, by omega⟩
              have s2 := IntWalk.i64_in ((R : Int) + (S : Int)) ⟨by omega, by omega⟩
              have s4 : (0 : Int) ≤ (k : Int) + 1 := by omega
              have s5 : (k : Int) + 1 < 257 := by omega
              have s6 : ((k : Int) + 1).toNat = k + 1 := by omega
              have s7 : (k : Int) < 257 := by omega
              clear hkeep hsbk hbxk hR hS hsu
              go_upto_region 14 with fail
              go_still_tail 17, (by kernel_rfl)
              change wpList _ _ _ _ _ wr.drew
              go_wp2
              go_roundw
              case rel =>
                have h := HSK.out.drew.set (k + 1) (.int .i64 ((R : Int) + (S : Int)))
                rw [rowZ_set] at h
                have e : rowZ 257 (fun x => if x = k + 1 then (R : Int) + (S : Int) else if x ≤ k then ((startF l x : Nat) : Int) else ((rawF l x : Nat) : Int)) = rowZ 257 (fun x => if x ≤ k + 1 then ((startF l x : Nat) : Int) else ((rawF l x : Nat) : Int)) := rowZ_congr (fun x hx => by
                  by_cases e : x = k + 1
                  · subst e; rw [if_pos rfl, if_pos (Nat.le_refl _), HSU.out]; push_cast; omega
                  · rw [if_neg e]
                    by_cases e2 : x ≤ k
                    · rw [if_pos e2, if_pos (by omega)]
                    · rw [if_neg e2, if_neg (by omega)])
                rw [e] at h
                exact ⟨k + 1, by omega, by go_num, HKK.out.drew.setCell _ _ (fun _ => rfl), h⟩
              case measure => simp [intOf]; omega
            · have hke : k = 256 := by omega
              subst hke
              clear hlt
              go_wp2
              go_ret2
              have hkW : Keep (fun i => i = sb) wf wr := (HK1'.out.mono (fun _ _ h => h.elim)).trans HKK.out (fun _ _ h => h)
              have hk2w : Keep (fun _ => False) w2 wr := HKF.out.trans hkW (fun i hi e => by have := HNE.out.2.1; omega)
              have hk12 : Keep (fun _ => False) w wr := (HK1.out.trans HK2.out (fun _ _ h => h)).trans hk2w (fun _ _ h => h)
              have hst : Rd wr 1 (.slice (some ⟨sb, 0, none⟩) 257 257) 257 (icells (startsL l)) := by
                refine ⟨by simp [icells_length, startsL], icells_one _, .inr ⟨sb, 0, 257, rfl, Nat.le_refl _, by unfold maxLen; omega, fun j u hu => ?_⟩⟩
                have hj : j < 257 := by have := (List.getElem?_eq_some_iff.1 hu).1; simpa [icells_length, startsL] using this
                rw [icells_get _ _ (by simpa [startsL] using hj)] at hu
                cases hu
                rw [Nat.zero_add, HSK.out.cell, rowZ_get _ _ hj, if_pos (by omega)]
                simp [startsL, List.getD, hj]
              have hbf := HBX.out.keep hkW (fun e => HNE.out.1 e.symm)
              have hrdp := HRD.out.keep hk2w (fun _ _ h => h)
              rw [sufL_length, HZ.out] at hrdp
              refine ⟨hk12, .inr ⟨HV.out, bx, rfl, ?_⟩⟩
              rw [HL.out, HN.out]
              refine ⟨bt, _, _, by rw [HZ.out]; exact hbf, wt_mono (fun _ _ => trivial) _ _ (wt_keep hkW (fun i hi e => hi.1 e) _ _ HTW.out), hst, by rw [HZ.out]; exact hrdp⟩
end Go.Proofs.YteommegadhipkaaGreatDoor
