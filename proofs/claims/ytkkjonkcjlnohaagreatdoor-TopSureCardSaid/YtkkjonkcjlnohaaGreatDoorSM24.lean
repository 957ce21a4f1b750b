/- match.compare at facts. -/
import Derived.Test.YtkkjonkcjlnohaaGreatDoorSM5
import Derived.Sort.Grow
import Derived.Sort.LotA
import Derived.Deep.RegionHeld3
import Derived.StillTailTactics
import Derived.Outline
import Derived.Lib.SliceRun

/- match.compare at facts. -/
namespace Go.Proofs.YtkkjonkcjlnohaaGreatDoor
set_option linter.unusedSimpArgs false
set_option linter.unusedVariables false
set_option linter.unnecessarySimpa false
open Go.RowKit

/-- Draws and new blocks, and nothing else. -/
def Grows (w w' : World) : Prop := ∃ (q : Nat) (os : Array Obj), w' = Go.Sort.grow (w.drewN q) os
theorem Grows.refl (w : World) : Grows w w := ⟨0, #[], by rw [Go.Sort.grow_empty]; rfl⟩
theorem Grows.alloc {w a : World} (h : Grows w a) (o : Obj) : Grows w (a.alloc o) := by
  obtain ⟨q, os, rfl⟩ := h
  exact ⟨q, os ++ #[o], by rw [Go.Sort.alloc_eq_grow, Go.Sort.grow_grow]⟩
theorem Grows.drewN {w a : World} (h : Grows w a) (n : Nat) : Grows w (a.drewN n) := by
  obtain ⟨q, os, rfl⟩ := h
  refine ⟨q + n, os, ?_⟩
  simp [World.drewN, Go.Sort.grow, Nat.add_assoc]
theorem Grows.drew {w a : World} (h : Grows w a) : Grows w a.drew := h.drewN 1
theorem Grows.keep {w a : World} (h : Grows w a) : Keep (fun _ => False) w a := by
  obtain ⟨q, os, rfl⟩ := h
  refine ⟨rfl, rfl, rfl, by simp [Go.Sort.grow, World.drewN], fun k hk _ => ?_⟩
  show ((w.drewN q).heap ++ os)[k]? = w.heap[k]?
  rw [Array.getElem?_append_left (by exact hk)]
  rfl
theorem Grows.trans {a b c : World} (h : Grows a b) (k : Grows b c) : Grows a c := by
  obtain ⟨q, os, rfl⟩ := h
  obtain ⟨p, qs, rfl⟩ := k
  exact ⟨q + p, os ++ qs, by simp [World.drewN, Go.Sort.grow, Nat.add_assoc, Array.append_assoc]⟩
def GrowPost (w : World) (r : Value) (e : Ending) (w' : World) : Prop := e = .returned r ∧ Grows w w'
set_option maxHeartbeats 1000000 in
set_option maxRecDepth 100000 in
theorem compare_any {w : World} {u v : Value} {l m : List Int} (hu : Rd w 1 u l.length (icells l)) (hv : Rd w 1 v m.length (icells m)) (hlm : l.length = m.length) (hl : l.length < 9223372036854775807) :
    Calls Tryz.prog 265 #[.agg #[.int .i64 0, u], .agg #[.int .i64 0, v]] w (GrowPost w (.int .i64 (cmpE l m))) := by
  obtain ⟨ao, cap, hue, _⟩ := hu.shape
  obtain ⟨bo, cap2, hve, _⟩ := hv.shape
  subst hue hve
  have HS : Hid (∀ W : World, Keep (fun _ => False) w W → Calls Tryz.prog 168 #[.slice ao l.length cap, .slice bo m.length cap2] W (fun e w' => e = .returned (.int .i64 (cmpE l m)) ∧ W = w')) := Lib.hid (fun W k => cmpS_any (hu.keep k (fun _ _ h => h)) (hv.keep k (fun _ _ h => h)) hlm hl)
  obtain ⟨nl, hnl⟩ : ∃ n, l.length = n := ⟨_, rfl⟩
  obtain ⟨nm, hnm⟩ : ∃ n, m.length = n := ⟨_, rfl⟩
  rw [hnl, hnm] at HS
  rw [hnl, hnm]
  obtain ⟨r, hr⟩ : ∃ r, cmpE l m = r := ⟨_, rfl⟩
  rw [hr] at HS ⊢
  clear hu hv hlm hl hnl hnm hr
  have HO : Hid (∀ W : World, Calls Tryz.prog 166 #[.slice (some ⟨W.heap.size, 0, none⟩) 2 2] (W.alloc (.cells #[.int .i64 0, .int .i64 r] 3)).drew (fun e w' => e = .returned (.int .i64 r) ∧ (W.alloc (.cells #[.int .i64 0, .int .i64 r] 3)).drew = w')) := Lib.hid (fun W => or_any ((Blk.new W _ 3).drew.cell 0) ((Blk.new W _ 3).drew.cell 1))
  have HC : Hid (∀ W : World, Calls Tryz.prog 167 #[.int .i64 0, .int .i64 0] W (fun e w' => e = .returned (.int .i64 0) ∧ W = w')) := Lib.hid (fun W => cmpI_any 0 0 W)
  go_enter Tryz.func265, Tryz.ntmps265
  go_wp2_with fail
  obtain ⟨w2, hw2⟩ : ∃ w2, w2 = (w.alloc (.cells #[.int .i64 0, .slice ao nl cap] 38)).alloc (.cells #[.int .i64 0, .slice bo nm cap2] 38) := ⟨_, rfl⟩
  have HG : Hid (Grows w w2) := Lib.hid (by rw [hw2]; exact ((Grows.refl w).alloc _).alloc _)
  have HB1 : Hid (Blk w2 w.heap.size #[.int .i64 0, .slice ao nl cap] 38) := Lib.hid (by rw [hw2]; exact (Blk.new w _ _).alloc _)
  have HB2 : Hid (Blk w2 (w.heap.size + 1) #[.int .i64 0, .slice bo nm cap2] 38) := Lib.hid (by rw [hw2]; have := Blk.new (w.alloc (.cells #[.int .i64 0, .slice ao nl cap] 38)) #[.int .i64 0, .slice bo nm cap2] 38; rwa [World.size_alloc] at this)
  have HDC : Hid (∀ W : World, Keep (fun _ => False) w2 W → W.cell? ⟨w.heap.size, 0, none⟩ = some (.int .i64 0) ∧ W.cell? ⟨w.heap.size, 1, none⟩ = some (.slice ao nl cap) ∧ W.cell? ⟨w.heap.size + 1, 0, none⟩ = some (.int .i64 0) ∧ W.cell? ⟨w.heap.size + 1, 1, none⟩ = some (.slice bo nm cap2)) :=
    Lib.hid (fun W k => ⟨(HB1.out.keep k (fun h => h)).cell 0, (HB1.out.keep k (fun h => h)).cell 1, (HB2.out.keep k (fun h => h)).cell 0, (HB2.out.keep k (fun h => h)).cell 1⟩)
  rw [← hw2]
  clear hw2
  go_region_held3 (fun W => W.cell? ⟨w.heap.size, 0, none⟩ = some (.int .i64 0) ∧ W.cell? ⟨w.heap.size, 1, none⟩ = some (.slice ao nl cap) ∧ W.cell? ⟨w.heap.size + 1, 0, none⟩ = some (.int .i64 0) ∧ W.cell? ⟨w.heap.size + 1, 1, none⟩ = some (.slice bo nm cap2))
    ((refine HDC.out _ ?_; repeat (first | exact (Keep.refl _ _) | apply Keep.drewN | apply Keep.drew | apply Keep.alloc)))
    ((first
      | (go_at_call 167; refine (HC.out _).mono ?_; rintro e w' ⟨rfl, rfl⟩)
      | (go_at_call 168; refine (HS.out _ (by refine HG.out.keep.trans (T := fun _ => False) ?_ (fun _ _ h => h); repeat (first | exact (Keep.refl _ _) | apply Keep.drewN | apply Keep.drew | apply Keep.alloc))).mono ?_; rintro e w' ⟨rfl, rfl⟩)
      | (go_at_call 166; refine (HO.out _).mono ?_; rintro e w' ⟨rfl, rfl⟩)))
  go_wp2_with fail
  go_ret
  exact ⟨rfl, (HG.out.alloc _).drew⟩
end Go.Proofs.YtkkjonkcjlnohaaGreatDoor

/- slices.Clone at facts; slices.CompactFunc at facts and at rows of which no two neighbours are equal: nothing changes. -/
namespace Go.Proofs.YtkkjonkcjlnohaaGreatDoor
set_option linter.unusedSimpArgs false
set_option linter.unusedVariables false
set_option linter.unnecessarySimpa false
open Go.RowKit

abbrev zFact : Value := .agg #[.int .i64 0, .slice none 0 0]
theorem info38 : (Tryz.prog.info? 38).map (fun i => (i.zero, i.size, i.bytes)) = some (some zFact, 2, 32) := by kernel_rfl
def CloneP (w : World) (t : TypeId) (size n : Nat) (xs : List Value) (e : Ending) (w' : World) : Prop :=
  ∃ v', e = .returned v' ∧ w'.ownsRow w.heap.size t size v' n xs ∧ Keep (fun _ => False) w w'
theorem cloneF_any {w : World} {v : Value} {n : Nat} {xs : List Value} (hv : Rd w 2 v n xs) (hn : n ≤ 1000000) : Calls Tryz.prog 264 #[v] w (CloneP w 38 2 n xs) := by
  obtain ⟨ao, cap, hve, _⟩ := hv.shape
  have hsrc := (hv.keep ((Keep.refl (fun _ => False) w).alloc (.cells #[] 38)) (fun _ _ h => h)).src (P := Tryz.prog) Tryz.underlying33
  have hxs : ao = none → n = 0 ∧ xs = [] := by
    intro h
    rcases hv.2.2 with ⟨h1, h2⟩ | ⟨b, o, c, h1, _⟩
    · exact ⟨h2, List.eq_nil_of_length_eq_zero (by rw [hv.1, h2, Nat.zero_mul])⟩
    · rw [hve, h] at h1; cases h1
  subst hve
  have HSRC := Lib.hid hsrc; clear hsrc
  have HNEW := Lib.hid (World.ownsRow_made (base := w.heap.size) (e := 38) (size := 2) w #[] 0 (Nat.le_refl _) (by unfold maxLen; omega) (by simp))
  clear hv
  have hnil := fun W => Lib.run_eql_slice_nil (P := Tryz.prog) W 33 38 ao n cap 0 0 Tryz.underlying33
  cases ao with
  | none =>
    obtain ⟨rfl, rfl⟩ := hxs rfl
    go_enter Tryz.func264, Tryz.ntmps264
    go_wp2
    go_ret
    exact ⟨_, rfl, World.ownsRow_nil _ _ _ _, Keep.refl _ _⟩
  | some a =>
    clear hxs
    go_enter Tryz.func264, Tryz.ntmps264
    go_wp2_with (at_builtin; refine wpList_app (w := w.alloc (.cells #[] 38)) rfl (.tmp 5) (.tmp 6) 33 33 rfl 38 zFact 2 32 Tryz.underlying33 info38 rfl HNEW.out rfl HSRC.out rfl ?hb1 ?hb2 ?hb3 ?hgo)
    case hb1 => unfold maxLen; omega
    case hb2 => omega
    case hb3 => simp
    case hgo =>
    intro v' w1 happ
    have HA := Lib.hid happ; clear happ
    go_wp2
    go_ret
    refine ⟨v', rfl, by simpa using HA.out.own, ?_⟩
    refine ((Keep.refl _ w).alloc _).trans HA.out.keep (fun k hk e => ?_)
    have e' : w.heap.size = k := Option.some.inj e
    omega

/-- The closure tells each element apart from the one ahead of it. -/
def ApartF (w : World) (F : Nat) (vs : List Value) : Prop :=
  ∀ W : World, Keep (fun _ => False) w W → ∀ j, j + 1 < vs.length → Calls Tryz.prog F #[.agg #[.int .i64 0, vat vs (j + 1)], .agg #[.int .i64 0, vat vs j]] W fun e w2 => e = .returned (.bool false) ∧ Keep (fun _ => False) W w2
set_option maxHeartbeats 1000000 in
set_option maxRecDepth 100000 in
theorem compactF_any {w : World} {v : Value} {vs : List Value} {F : Nat} (hv : Rd w 2 v vs.length (fcells vs)) (hF : Enters F) (hp : ApartF w F vs) (hl : vs.length < 1000000) :
    Calls Tryz.prog 266 #[v, .func (.func F) #[] #[]] w (IdxPost w v) := by
  obtain ⟨ao, cap, hve, hn, hm, hsp⟩ := hv.shape
  subst hve
  have HV := Lib.hid hv; clear hv
  have HP := Lib.hid hp; clear hp
  clear hsp
  have eF : ∀ (args : Array Value) (w : World), (callFunc F args).run Tryz.prog w = .ok (.enter F args) w := hF
  clear hF
  by_cases h2 : vs.length < 2
  · have h2i : ((vs.length : Int) < 2) = True := by simp; omega
    go_enter Tryz.func266, Tryz.ntmps266
    go_wp2
    go_ret
    exact ⟨rfl, Keep.refl _ _⟩
  · have h2i : ((vs.length : Int) < 2) = False := by simp; omega
    go_enter Tryz.func266, Tryz.ntmps266
    go_wp2
    go_loopw [5] (fun i wr => ∃ k : Nat, 1 ≤ k ∧ k ≤ vs.length ∧ i = .int .i64 k ∧ Keep (fun _ => False) w wr) (fun i _ => vs.length - (intOf i).toNat)
    case atStart => exact ⟨1, Nat.le_refl _, by omega, rfl, Keep.refl _ _⟩
    case round =>
      obtain ⟨k, hk1, hk, rfl, hkeep⟩ := hrel
      have HK := Lib.hid hkeep; clear hkeep
      by_cases hlt : k < vs.length
      · have hrd := HV.out.keep HK.out (fun _ _ h => h)
        obtain ⟨j, hj⟩ : ∃ j, k = j + 1 := ⟨k - 1, by omega⟩
        have hjk : (k : Int) - 1 = (j : Int) := by omega
        have hjl : j < vs.length := by omega
        obtain ⟨b, o, hao, ha, ha1, hb, hb1⟩ : ∃ b o, ao = some ⟨b, o, none⟩ ∧ wr.cell? ⟨b, o + k * 2, none⟩ = some (.int .i64 0) ∧ wr.cell? ⟨b, o + k * 2 + 1, none⟩ = some (vat vs k) ∧ wr.cell? ⟨b, o + j * 2, none⟩ = some (.int .i64 0) ∧ wr.cell? ⟨b, o + j * 2 + 1, none⟩ = some (vat vs j) := by
          obtain ⟨b, o, c, h, h1, h2⟩ := rd_fc hrd (show k < vs.length from hlt)
          obtain ⟨b', o', c', h', h3, h4⟩ := rd_fc hrd hjl
          rw [h] at h'
          cases h
          cases h'
          exact ⟨b, o, rfl, h1, h2, h3, h4⟩
        subst hao
        have hi1 : ((k : Int) < (vs.length : Int)) = True := by simp; omega
        have hwj := IntWalk.i64_in (j : Int) ⟨by omega, by omega⟩
        have hi0 : ((j : Int) < (vs.length : Int)) = True := by simp; omega
        have HC := HP.out wr.drew HK.out.drew j (by omega)
        rw [← hj] at HC
        replace HC := Lib.hid HC
        have HJ := Lib.hid hj
        obtain ⟨x, hx⟩ : ∃ x, vat vs k = x := ⟨_, rfl⟩
        obtain ⟨y, hy⟩ : ∃ x, vat vs j = x := ⟨_, rfl⟩
        rw [hx] at ha1 HC
        rw [hy] at hb1 HC
        clear hrd hx hy hj
        go_wp2
        go_still_tail 10, (by kernel_rfl)
        change wpList _ _ _ _ _ wr.drew
        go_wp2
        refine HC.out.mono ?_
        rintro e w2 ⟨rfl, hk2⟩
        have HK2 := Lib.hid (HK.out.drew.trans hk2 (fun _ _ h => h)); clear hk2
        go_wp2
        go_roundw
        case rel => exact ⟨k + 1, by omega, by omega, by go_num, HK2.out⟩
        case measure => simp [intOf]; omega
      · have hi1 : ((k : Int) < (vs.length : Int)) = False := by simp; omega
        go_wp2
        go_ret
        exact ⟨rfl, HK.out⟩

/-- The closure tells each element apart from the one ahead of it. -/
def ApartW (w : World) (F : Nat) (vs : List Value) : Prop :=
  ∀ W : World, Keep (fun _ => False) w W → ∀ j, j + 1 < vs.length → Calls Tryz.prog F #[vat vs (j + 1), vat vs j] W fun e w2 => e = .returned (.bool false) ∧ Keep (fun _ => False) W w2
set_option maxHeartbeats 1000000 in
set_option maxRecDepth 100000 in
theorem compactW_any {w : World} {v : Value} {vs : List Value} {F : Nat} (hv : Rd w 1 v vs.length vs) (hF : Enters F) (hp : ApartW w F vs) (hl : vs.length < 1000000) :
    Calls Tryz.prog 171 #[v, .func (.func F) #[] #[]] w (IdxPost w v) := by
  obtain ⟨ao, cap, hve, hn, hm, hsp⟩ := hv.shape
  subst hve
  have HV := Lib.hid hv; clear hv
  have HP := Lib.hid hp; clear hp
  clear hsp
  have eF : ∀ (args : Array Value) (w : World), (callFunc F args).run Tryz.prog w = .ok (.enter F args) w := hF
  clear hF
  by_cases h2 : vs.length < 2
  · have h2i : ((vs.length : Int) < 2) = True := by simp; omega
    go_enter Tryz.func171, Tryz.ntmps171
    go_wp2
    go_ret
    exact ⟨rfl, Keep.refl _ _⟩
  · have h2i : ((vs.length : Int) < 2) = False := by simp; omega
    go_enter Tryz.func171, Tryz.ntmps171
    go_wp2
    go_loopw [5] (fun i wr => ∃ k : Nat, 1 ≤ k ∧ k ≤ vs.length ∧ i = .int .i64 k ∧ Keep (fun _ => False) w wr) (fun i _ => vs.length - (intOf i).toNat)
    case atStart => exact ⟨1, Nat.le_refl _, by omega, rfl, Keep.refl _ _⟩
    case round =>
      obtain ⟨k, hk1, hk, rfl, hkeep⟩ := hrel
      have HK := Lib.hid hkeep; clear hkeep
      by_cases hlt : k < vs.length
      · have hrd := HV.out.keep HK.out (fun _ _ h => h)
        obtain ⟨j, hj⟩ : ∃ j, k = j + 1 := ⟨k - 1, by omega⟩
        have hjk : (k : Int) - 1 = (j : Int) := by omega
        have hjl : j < vs.length := by omega
        obtain ⟨b, o, hao, ha, hb⟩ : ∃ b o, ao = some ⟨b, o, none⟩ ∧ wr.cell? ⟨b, o + k, none⟩ = some (vat vs k) ∧ wr.cell? ⟨b, o + j, none⟩ = some (vat vs j) := by
          rcases hrd.2.2 with ⟨h, h'⟩ | ⟨b, o, c, h, _, _, hx⟩
          · omega
          · cases h
            exact ⟨b, o, rfl, hx _ _ (vat_get hlt), hx _ _ (vat_get hjl)⟩
        subst hao
        have hi1 : ((k : Int) < (vs.length : Int)) = True := by simp; omega
        have hwj := IntWalk.i64_in (j : Int) ⟨by omega, by omega⟩
        have hi0 : ((j : Int) < (vs.length : Int)) = True := by simp; omega
        have HC := HP.out wr.drew HK.out.drew j (by omega)
        rw [← hj] at HC
        replace HC := Lib.hid HC
        have HJ := Lib.hid hj
        obtain ⟨x, hx⟩ : ∃ x, vat vs k = x := ⟨_, rfl⟩
        obtain ⟨y, hy⟩ : ∃ x, vat vs j = x := ⟨_, rfl⟩
        rw [hx] at ha HC
        rw [hy] at hb HC
        clear hrd hx hy hj
        go_wp2
        go_still_tail 10, (by kernel_rfl)
        change wpList _ _ _ _ _ wr.drew
        go_wp2
        refine HC.out.mono ?_
        rintro e w2 ⟨rfl, hk2⟩
        have HK2 := Lib.hid (HK.out.drew.trans hk2 (fun _ _ h => h)); clear hk2
        go_wp2
        go_roundw
        case rel => exact ⟨k + 1, by omega, by omega, by go_num, HK2.out⟩
        case measure => simp [intOf]; omega
      · have hi1 : ((k : Int) < (vs.length : Int)) = False := by simp; omega
        go_wp2
        go_ret
        exact ⟨rfl, HK.out⟩
end Go.Proofs.YtkkjonkcjlnohaaGreatDoor
