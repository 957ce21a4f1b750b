/- index: an index in memory; one step backward; the places of a pattern. -/
import Derived.Test.YteommegadhipkaaGreatDoorFM33
import Derived.Test.YteommegadhipkaaGreatDoorFM35
import Derived.Test.YteommegadhipkaaGreatDoorFM36
import Derived.BigQuiet
import Derived.Sort.AtCall

/- index: an index in memory; one step backward; the places of a pattern. -/
namespace Go.Proofs.YteommegadhipkaaGreatDoor
set_option linter.unusedSimpArgs false
set_option linter.unusedVariables false
set_option linter.unnecessarySimpa false
open Go.RowKit

def startsL (l : List UInt8) : List Int := (List.range 257).map fun c => (startF l c : Int)
/-- An index of the label l in memory. -/
def XAt (w : World) (b : Nat) (l : List UInt8) (n : Nat) : Prop :=
  ∃ bt sv pv, Blk w b #[.pointer (some ⟨bt, 0, none⟩), .int .i64 l.length, sv, pv] 62 ∧ WTAt (fun _ => True) w (treeF (trF l n)) bt ∧ Rd w 1 sv 257 (icells (startsL l)) ∧
    Rd w 1 pv (l.length + 1) (icells ((sufL l n).map Int.ofNat))
theorem XAt.keep {w w' : World} {b : Nat} {l : List UInt8} {n : Nat} (h : XAt w b l n) (k : Keep (fun _ => False) w w') : XAt w' b l n := by
  obtain ⟨bt, sv, pv, h1, h2, h3, h4⟩ := h
  exact ⟨bt, sv, pv, h1.keep k (fun h => h), wt_keep k (fun _ _ h => h) _ _ h2, h3.keep k (fun _ _ h => h), h4.keep k (fun _ _ h => h)⟩
theorem XAt.rank {w : World} {bt : Nat} {l : List UInt8} {n : Nat} (h : WTAt (fun _ => True) w (treeF (trF l n)) bt) (hl : l.length ≤ 200) {c : UInt8} {i : Nat} (hi : i ≤ l.length + 1) :
    Calls Tryz.prog 92 #[.pointer (some ⟨bt, 0, none⟩), .int .u8 c.toNat, .int .i64 i] w fun e w' => e = .returned (.int .i64 (((trF l n).take i).count c : Nat)) ∧ w' = w := by
  have hlen := trF_length l n
  have hal : (alB (trF l n)).length ≤ 256 := by
    have := Lib.compact_length_le (srtI (trF l n))
    rw [alB_length]
    rw [srtI_length] at this
    have h2 : (alI (trF l n)).length ≤ (trF l n).length := this
    omega
  have hr := rank_any (c := c) (i := i) (s := trF l n) (al := alB (trF l n)) h (by omega) (by omega) hal
  have e := treeF_rank (trF l n) c (i := i) (by omega)
  unfold treeF at e
  rw [e] at hr
  exact hr
set_option maxHeartbeats 2000000 in
set_option maxRecDepth 100000 in
theorem before_any {w : World} {b : Nat} {l : List UInt8} {n : Nat} (h : XAt w b l n) (hl : l.length ≤ 200) {c : UInt8} {i : Nat} (hi : i ≤ l.length + 1) :
    Calls Tryz.prog 58 #[.pointer (some ⟨b, 0, none⟩), .int .u8 c.toNat, .int .i64 i] w fun e w' => e = .returned (.int .i64 (befF l n c i : Nat)) ∧ ∃ q, w' = w.drewN q := by
  obtain ⟨bt, sv, pv, h1, h2, h3, h4⟩ := h
  obtain ⟨sg, so, sc, rfl, hsc⟩ : ∃ g o cp, sv = .slice (some ⟨g, o, none⟩) 257 cp ∧ w.cell? ⟨g, o + c.toNat, none⟩ = some (.int .i64 (startF l c.toNat : Nat)) := by
    rcases h3.2.2 with ⟨_, h⟩ | ⟨g, o, cp, h, _, _, hx⟩
    · omega
    · refine ⟨g, o, cp, h, ?_⟩
      have hc := c.toNat_lt
      rw [hx c.toNat _ (icells_get _ _ (by simp [startsL]; omega))]
      simp [startsL, List.getD, show c.toNat < 257 by omega]
  have c0 := h1.cell 0; have c2 := h1.cell 2
  simp at c0 c2
  have hc256 := c.toNat_lt
  have HR := Lib.hid (fun m => XAt.rank (wt_keep ((Keep.refl (fun _ => False) w).drewN m) (fun _ _ h => h) _ _ h2) hl (c := c) hi)
  obtain ⟨R, hR⟩ : ∃ R, ((trF l n).take i).count c = R := ⟨_, rfl⟩
  obtain ⟨S, hS⟩ : ∃ S, startF l c.toNat = S := ⟨_, rfl⟩
  have hRl : R ≤ 201 := by
    rw [← hR]
    have h1 := List.count_le_length (a := c) (l := (trF l n).take i)
    have h2 : ((trF l n).take i).length ≤ (trF l n).length := List.length_take_le' _ _
    rw [trF_length] at h2
    omega
  have hSl : S ≤ 201 := by
    rw [← hS]; unfold startF
    have := List.countP_le_length (p := fun x : UInt8 => decide (x.toNat < c.toNat)) (l := l)
    omega
  have HB := Lib.hid (show befF l n c i = S + R by unfold befF; rw [hS, hR])
  rw [hR] at HR
  rw [hS] at hsc
  have s1 := IntWalk.i64_in ((S : Int) + (R : Int)) ⟨by omega, by omega⟩
  clear h1 h2 h3 h4 hR hS
  go_enter Tryz.func58, Tryz.ntmps58
  go_wp2
  go_quiet (first | (go_at_call 92; refine Calls.quiet_of_same (HR.out _)))
  go_wp2
  go_ret
  exact ⟨by rw [HB.out]; push_cast; rfl, nq, rfl⟩
def FdRel (w : World) (l : List UInt8) (n : Nat) (p : List UInt8) (v4 v5 v6 : Value) (wr : World) : Prop :=
  ∃ (k f t : Nat), k ≤ p.length ∧ v6 = .int .i64 ((k : Int) - 1) ∧ v4 = .int .i64 f ∧ v5 = .int .i64 t ∧ findF l n (p.drop k) = (f, t) ∧ f ≤ l.length + 1 ∧ t ≤ l.length + 1 ∧ ∃ q, wr = w.drewN q
set_option maxHeartbeats 4000000 in
set_option maxRecDepth 100000 in
theorem findX_any {w : World} {b : Nat} {l : List UInt8} {n : Nat} {s : ByteArray} (h : XAt w b l n) (hl : l.length ≤ 200) (hp : ∀ c ∈ s.data.toList, c ≠ 10) (hs : s.size ≤ 200) :
    Calls Tryz.prog 27 #[.pointer (some ⟨b, 0, none⟩), .string s] w fun e w' =>
      e = .returned (.tuple #[.int .i64 ((findF l n s.data.toList).1 : Nat), .int .i64 (max (findF l n s.data.toList).1 (findF l n s.data.toList).2 : Nat)]) ∧ ∃ q, w' = w.drewN q := by
  have hz : s.data.toList.length = s.size := by simp
  have HX := Lib.hid h
  obtain ⟨bt, sv, pv, h1, _⟩ := h
  have c1 := h1.cell 1
  simp at c1
  have s0 := IntWalk.i64_in ((l.length : Int) + 1) ⟨by omega, by omega⟩
  have s1 := IntWalk.i64_in ((s.size : Int) - 1) ⟨by omega, by omega⟩
  have HP := Lib.hid hp; have HZ := Lib.hid hz
  clear h1 hp hz
  go_enter Tryz.func27, Tryz.ntmps27
  go_wp2
  go_quiet (fail)
  go_wp2
  go_loopw [4, 5, 6] (FdRel w l n s.data.toList) (fun _ _ v6 _ => (intOf v6 + 1).toNat)
  case atStart =>
    refine ⟨s.size, 0, l.length + 1, by rw [HZ.out]; exact Nat.le_refl _, rfl, rfl, by go_num, ?_, by omega, Nat.le_refl _, nq, rfl⟩
    rw [List.drop_of_length_le (by rw [HZ.out]; exact Nat.le_refl _)]
    rfl
  case round =>
    obtain ⟨k, f, t, hk, rfl, rfl, rfl, hft, hf, ht, q, rfl⟩ := hrel
    have HF := Lib.hid hft; clear hft
    have hks : k ≤ s.size := by rw [← HZ.out]; exact hk
    by_cases h0 : k = 0
    · subst h0
      have HF2 := Lib.hid (show findF l n s.data.toList = (f, t) by have := HF.out; rw [List.drop_zero] at this; exact this)
      go_wp2
      go_ret2
      refine ⟨?_, _, rfl⟩
      rw [HF2.out]
      show Ending.returned (.tuple #[.int .i64 (f : Int), .int .i64 (max (f : Int) (t : Int))]) = _
      rw [show max (f : Int) (t : Int) = ((max f t : Nat) : Int) by omega]
    · have hk1 : (1 : Int) ≤ k := by omega
      obtain ⟨c, hc⟩ : ∃ c, s.data.toList.getD (k - 1) 0 = c := ⟨_, rfl⟩
      have hlt : k - 1 < s.data.toList.length := by rw [HZ.out]; omega
      have hge : s.data.toList[k - 1] = c := by rw [← hc, List.getD_eq_getElem?_getD, List.getElem?_eq_getElem hlt]; rfl
      have hdr : s.data.toList.drop (k - 1) = c :: s.data.toList.drop k := by
        rw [List.drop_eq_getElem_cons hlt, hge, show k - 1 + 1 = k by omega]
      have hc10 : c ≠ 10 := HP.out c (by rw [← hge]; exact List.getElem_mem hlt)
      have hidx : ∀ W, (Instr.index 9 (.string s) (.int .i64 ((k : Int) - 1))).run Tryz.prog W = .ok (.int .u8 c.toNat) W := fun W => by
        rw [run_index_string W 9 s .i64 _ Tryz.underlying9, dif_pos (by omega)]
        have e : ((k : Int) - 1).toNat = k - 1 := by omega
        simp only [e]
        rw [← hge]
        rfl
      have HN := Lib.hid (show findF l n (s.data.toList.drop (k - 1)) = (befF l n c f, befF l n c t) by rw [hdr]; show (befF l n c (findF l n _).1, befF l n c (findF l n _).2) = _; rw [HF.out])
      have HXQ := Lib.hid (HX.out.keep ((Keep.refl (fun _ => False) w).drewN q))
      obtain ⟨wq, hwq⟩ : ∃ wq, w.drewN q = wq := ⟨_, rfl⟩
      rw [hwq] at HXQ
      have HB1 := Lib.hid (fun m => before_any (HXQ.out.keep ((Keep.refl (fun _ => False) wq).drewN m)) hl (c := c) hf)
      have HB2 := Lib.hid (fun m => before_any (HXQ.out.keep ((Keep.refl (fun _ => False) wq).drewN m)) hl (c := c) ht)
      have HWQ := Lib.hid hwq
      have hb1 := befF_le l n c f hc10
      have hb2 := befF_le l n c t hc10
      obtain ⟨f', hf'⟩ : ∃ f', befF l n c f = f' := ⟨_, rfl⟩
      obtain ⟨t', ht'⟩ : ∃ t', befF l n c t = t' := ⟨_, rfl⟩
      rw [hf'] at HN HB1 hb1
      rw [ht'] at HN HB2 hb2
      have s2 := IntWalk.i64_in ((k : Int) - 1 - 1) ⟨by omega, by omega⟩
      rw [hwq]
      clear hc hlt hge hdr hf' ht' h0 hwq c1
      go_wp2
      go_quiet (first | (go_at_call_has 58 (Value.int IntKind.i64 (f : Int)); refine Calls.quiet_of (HB1.out _)) | (go_at_call_has 58 (Value.int IntKind.i64 (t : Int)); refine Calls.quiet_of (HB2.out _)))
      go_wp2
      go_roundw
      case rel => exact ⟨k - 1, f', t', by rw [HZ.out]; omega, by go_num, rfl, rfl, HN.out, hb1, hb2, q + nq, by rw [← HWQ.out, World.drewN_drewN]⟩
      case measure => simp [intOf]; omega
end Go.Proofs.YteommegadhipkaaGreatDoor

/- index.Locate. -/
namespace Go.Proofs.YteommegadhipkaaGreatDoor
set_option linter.unusedSimpArgs false
set_option linter.unusedVariables false
set_option linter.unnecessarySimpa false
open Go.RowKit

theorem cloneI_any {w : World} {v : Value} {l : List Int} (hv : Rd w 1 v l.length (icells l)) (hl : l.length ≤ 1000) :
    Calls Tryz.prog 28 #[v] w fun e w' => ∃ v', e = .returned v' ∧ w'.ownsRow w.heap.size 3 1 v' l.length (icells l) ∧ Keep (fun _ => False) w w' := by
  rcases hv.2.2 with ⟨rfl, h0⟩ | ⟨b, o, c, rfl, _, _, hx⟩
  · have : l = [] := List.eq_nil_of_length_eq_zero h0
    subst this
    refine (Tryz.slices_Clone_int_nil 0 0 w).mono ?_
    rintro e w' ⟨rfl, rfl⟩
    exact ⟨_, rfl, World.ownsRow_nil _ _ _ _, Keep.refl _ _⟩
  · refine (Tryz.slices_Clone_int b o l.length c l w (Nat.le_refl _) (by omega) (fun j hj => hx j _ (icells_get l j hj))).mono ?_
    rintro e w' ⟨v', rfl, ho, _, hb⟩
    rw [List.take_length] at ho
    exact ⟨v', rfl, ho, Keep.ofBelow hb _⟩
theorem rd_part {w : World} {g o n cap a h : Nat} {xs : List Int} (hv : Rd w 1 (.slice (some ⟨g, o, none⟩) n cap) n (icells xs)) (hn : xs.length = n) (ha : a ≤ h) (hh : h ≤ n) :
    Rd w 1 (sliced (some ⟨g, o, none⟩) a h cap 1) ((xs.take h).drop a).length (icells ((xs.take h).drop a)) := by
  rcases hv.2.2 with ⟨h0, _⟩ | ⟨b, o', c, h0, hc, hm, hx⟩
  · cases h0
  · cases h0
    have hl : ((xs.take h).drop a).length = h - a := by rw [List.length_drop, List.length_take, Nat.min_eq_left (by omega)]
    have he : sliced (some ⟨g, o, none⟩) a h cap 1 = .slice (some ⟨g, if cap = a then o else o + a, none⟩) (h - a) (cap - a) := by
      unfold sliced
      split
      · rfl
      · simp [add_lit]
    rw [he]
    refine ⟨by simp [icells_length], icells_one _, .inr ⟨g, _, cap - a, by rw [hl], by rw [hl]; omega, by omega, fun j u hu => ?_⟩⟩
    have hj : j < h - a := by have := (List.getElem?_eq_some_iff.1 hu).1; rw [icells_length, hl] at this; exact this
    rw [if_neg (by omega), Nat.add_assoc]
    refine hx _ u ?_
    have e2 : icells ((xs.take h).drop a) = ((icells xs).take h).drop a := by simp [icells, List.map_drop, List.map_take]
    rw [e2, List.getElem?_drop, List.getElem?_take] at hu
    split at hu
    · exact hu
    · cases hu
theorem noneX_any {w : World} {b : Nat} {l : List UInt8} {n : Nat} (h : XAt w b l n) : Calls Tryz.prog 26 #[.pointer (some ⟨b, 0, none⟩)] w fun e w' => e = .returned (.bool false) ∧ w = w' := by
  obtain ⟨bt, sv, pv, h1, _⟩ := h
  have c0 := h1.cell 0
  simp at c0
  clear h1
  go_enter Tryz.func26, Tryz.ntmps26
  go_wp2
  go_ret
  exact ⟨rfl, rfl⟩
/-- Where a pattern is found. -/
def locI (l : List UInt8) (n : Nat) (p : List UInt8) : List Int := sortI ((locR l n p).map Int.ofNat)
def LocPost (w : World) (l : List UInt8) (n : Nat) (p : List UInt8) (e : Ending) (w' : World) : Prop :=
  ∃ v, e = .returned (.tuple #[v, .int .i64 0]) ∧ w'.ownsRow w.heap.size 3 1 v (locI l n p).length (icells (locI l n p)) ∧ Keep (fun _ => False) w w'
theorem valid_ten {s : ByteArray} (h : validT s = true) : s.size ≤ 200 ∧ ∀ c ∈ s.data.toList, c ≠ 10 := by
  unfold validT at h
  simp only [Bool.and_eq_true, decide_eq_true_eq, Bool.not_eq_true'] at h
  refine ⟨h.1, fun c hc e => ?_⟩
  have := h.2
  rw [List.any_eq_false] at this
  exact this c hc (by rw [e]; decide)
theorem locR_len (l : List UInt8) (n : Nat) (p : List UInt8) : (locR l n p).length ≤ l.length + 1 := by
  unfold locR
  have h1 : (((sufL l n).take (max (findF l n p).1 (findF l n p).2)).drop (findF l n p).1).length ≤ ((sufL l n).take (max (findF l n p).1 (findF l n p).2)).length := by simp
  have h2 : ((sufL l n).take (max (findF l n p).1 (findF l n p).2)).length ≤ (sufL l n).length := List.length_take_le' _ _
  rw [sufL_length] at h2
  omega
set_option maxHeartbeats 4000000 in
set_option maxRecDepth 100000 in
theorem locate_any {w : World} {b : Nat} {l : List UInt8} {n : Nat} {s : ByteArray} (h : XAt w b l n) (hl : l.length ≤ 200) (hv : validT s = true) :
    Calls Tryz.prog 11 #[.pointer (some ⟨b, 0, none⟩), .string s] w (LocPost w l n s.data.toList) := by
  obtain ⟨hsz, hten⟩ := valid_ten hv
  have HX := Lib.hid h
  have HVAL := Lib.hid (validI_any (w := w) (s := s) (by omega))
  rw [hv] at HVAL
  have hfl := findF_le l n s.data.toList hten
  obtain ⟨f, hf⟩ : ∃ f, (findF l n s.data.toList).1 = f := ⟨_, rfl⟩
  obtain ⟨t', ht⟩ : ∃ t, (findF l n s.data.toList).2 = t := ⟨_, rfl⟩
  rw [hf, ht] at hfl
  obtain ⟨m, hm⟩ : ∃ m, max f t' = m := ⟨_, rfl⟩
  have hfm : f ≤ m := by omega
  have hml : m ≤ l.length + 1 := by omega
  have HFD := Lib.hid (fun W (kW : Keep (fun _ => False) w W) => findX_any (h.keep kW) hl hten hsz)
  rw [hf, ht, hm] at HFD
  have HLOC := Lib.hid (show locR l n s.data.toList = ((sufL l n).take m).drop f by unfold locR; rw [hf, ht, hm])
  have hll := locR_len l n s.data.toList
  have HLL := Lib.hid hll
  obtain ⟨bt, sv, pv, h1, _, _, h4⟩ := h
  obtain ⟨pg, po, pc, rfl⟩ : ∃ g o c, pv = .slice (some ⟨g, o, none⟩) (l.length + 1) c := by
    rcases h4.2.2 with ⟨_, h⟩ | ⟨g, o, c, h, _, _, _⟩
    · omega
    · exact ⟨g, o, c, h⟩
  have hpc : l.length + 1 ≤ pc := by
    rcases h4.2.2 with ⟨h, _⟩ | ⟨g, o, c, h, hc, _, _⟩
    · cases h
    · cases h; exact hc
  have h4' : Rd w 1 (.slice (some ⟨pg, po, none⟩) (l.length + 1) pc) (l.length + 1) (icells ((sufL l n).map Int.ofNat)) := h4
  have hpart := rd_part h4' (by rw [List.length_map, sufL_length]) hfm hml
  have hme : (((sufL l n).map Int.ofNat).take m).drop f = (locR l n s.data.toList).map Int.ofNat := by rw [HLOC.out, List.map_drop, List.map_take]
  rw [hme] at hpart
  obtain ⟨sl, hsl⟩ : ∃ sl, sliced (some ⟨pg, po, none⟩) f m pc 1 = sl := ⟨_, rfl⟩
  rw [hsl] at hpart
  have hrun : ∀ W, (Instr.slice 22 (.slice (some ⟨pg, po, none⟩) (l.length + 1) pc) (some (.int .i64 (f : Int))) (some (.int .i64 (m : Int))) none).run Tryz.prog W = .ok sl W := fun W => by
    rw [run_slice_lh W 22 (some ⟨pg, po, none⟩) (l.length + 1) pc (by kernel_rfl) .i64 .i64 (f : Int) (m : Int) (by omega) (by omega) (by omega)]
    have h1 : (sizeOf (Tryz.prog.elem 22)).run Tryz.prog W = .ok 1 W := by kernel_rfl
    rw [h1]
    simp only [Result.andThen_ok, Int.toNat_natCast, hsl]
  have HB1 := Lib.hid h1
  have HP := Lib.hid hpart
  clear h1 h4 h4' hpart hme hsl hf ht hm hten hv hfl hll
  go_enter Tryz.func11, Tryz.ntmps11
  go_wp2_with (first
    | (go_at_call 26; refine (noneX_any HX.out).mono ?_; rintro e w1 ⟨rfl, rfl⟩)
    | (go_at_call 22; refine HVAL.out.mono ?_; rintro e w2 ⟨rfl, hk2⟩; have HK2 := Lib.hid hk2; clear hk2)
    | (go_at_call 27; refine (HFD.out w2 HK2.out).mono ?_; rintro e w3 ⟨rfl, q, hw3⟩; have hk3 : Keep (fun _ => False) w w3 := by rw [hw3]; exact HK2.out.drewN q
       have c3 := (HB1.out.keep hk3 (fun h => h)).cell 3; simp at c3; have HK3 := Lib.hid hk3; clear hk3 hw3)
    | (go_at_call 28; refine (cloneI_any (HP.out.keep HK3.out (fun _ _ h => h)) (by rw [List.length_map]; have := HLL.out; omega)).mono ?_; rintro e w4 ⟨v4, rfl, ho4, hk4⟩; have HO4 := Lib.hid ho4; have HK4 := Lib.hid hk4; clear ho4 hk4)
    | (go_at_call 29; refine (sort_own HO4.out (by rw [List.length_map]; have := HLL.out; omega)).mono ?_; rintro e w5 ⟨rfl, ho5, hk5⟩; have HO5 := Lib.hid ho5; have HK5 := Lib.hid hk5; clear ho5 hk5))
  go_ret2
  refine ⟨v4, rfl, ?_, ?_⟩
  · have h := HO5.out
    have e : (locI l n s.data.toList).length = ((locR l n s.data.toList).map Int.ofNat).length := sortI_length _
    rw [e]
    exact ownsRow_base h HK3.out.size
  · exact (HK3.out.trans HK4.out (fun _ _ h => h)).trans HK5.out (fun i hi e => by have := (HO4.out.lt i e).1; have := HK3.out.size; omega)
end Go.Proofs.YteommegadhipkaaGreatDoor
