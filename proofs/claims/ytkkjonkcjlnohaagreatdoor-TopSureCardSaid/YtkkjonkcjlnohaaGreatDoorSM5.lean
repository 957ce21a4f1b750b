/- slices.IndexFunc and slices.ContainsFunc at []int, over whatever predicate keeps the memory. -/
import Derived.Test.YtkkjonkcjlnohaaGreatDoorProg
import Derived.Test.YtkkjonkcjlnohaaGreatDoorSM2
import Derived.Outline
import Derived.Deep.QuietTactic
import Derived.BigQuiet

/- slices.IndexFunc and slices.ContainsFunc at []int, over whatever predicate keeps the memory. -/
namespace Go.Proofs.YtkkjonkcjlnohaaGreatDoor
set_option linter.unusedSimpArgs false
set_option linter.unusedVariables false
set_option linter.unnecessarySimpa false
open Go.RowKit

def icells (l : List Int) : List Value := l.map (Value.int .i64)
theorem icells_length (l : List Int) : (icells l).length = l.length := by simp [icells]
theorem icells_one (l : List Int) : ∀ u ∈ icells l, u.oneCell' = true := by
  intro u hu; obtain ⟨_, _, rfl⟩ := List.mem_map.1 hu; rfl
theorem icells_get (l : List Int) (j : Nat) (h : j < l.length) : (icells l)[j]? = some (.int .i64 (l.getD j 0)) := by
  simp [icells, List.getD, h]

/-- The first place at which p holds, from k on. -/
def findFrom (p : Int → Bool) (l : List Int) (k : Nat) : Int :=
  match l with
  | [] => -1
  | x :: r => if p x then k else findFrom p r (k + 1)
def findI (p : Int → Bool) (l : List Int) : Int := findFrom p l 0
theorem findFrom_cases (p : Int → Bool) : ∀ (l : List Int) (k : Nat), (findFrom p l k = -1 ∧ ∀ j, j < l.length → p (l.getD j 0) = false) ∨
    ∃ j, j < l.length ∧ findFrom p l k = ((k + j : Nat) : Int) ∧ p (l.getD j 0) = true ∧ ∀ i, i < j → p (l.getD i 0) = false
  | [], k => .inl ⟨rfl, fun j h => by simp at h⟩
  | x :: r, k => by
    unfold findFrom
    by_cases hx : p x = true
    · exact .inr ⟨0, by simp, by simp [hx], by simpa using hx, fun i hi => by omega⟩
    · have hx' : p x = false := by simpa using hx
      rcases findFrom_cases p r (k + 1) with ⟨h1, h2⟩ | ⟨j, h1, h2, h3, h4⟩
      · refine .inl ⟨by simp [hx', h1], fun j hj => ?_⟩
        cases j with
        | zero => simpa using hx'
        | succ j => simpa using h2 j (by simpa using hj)
      · refine .inr ⟨j + 1, by simpa using h1, by simp [hx', h2]; omega, by simpa using h3, fun i hi => ?_⟩
        cases i with
        | zero => simpa using hx'
        | succ i => simpa using h4 i (by omega)
theorem findI_at {p : Int → Bool} {l : List Int} {j : Nat} (hj : j < l.length) (h1 : p (l.getD j 0) = true) (h0 : ∀ i, i < j → p (l.getD i 0) = false) : findI p l = j := by
  rcases findFrom_cases p l 0 with ⟨_, h⟩ | ⟨i, hi, h, h3, h4⟩
  · rw [h j hj] at h1; cases h1
  · unfold findI
    rw [h]
    have : i = j := by
      rcases Nat.lt_trichotomy i j with hl | he | hg
      · rw [h0 i hl] at h3; cases h3
      · exact he
      · rw [h4 j hg] at h1; cases h1
    simp [this]
theorem findI_none {p : Int → Bool} {l : List Int} (h0 : ∀ i, i < l.length → p (l.getD i 0) = false) : findI p l = -1 := by
  rcases findFrom_cases p l 0 with ⟨h, _⟩ | ⟨i, hi, h, h3, _⟩
  · exact h
  · rw [h0 i hi] at h3; cases h3
theorem findI_ge {p : Int → Bool} {l : List Int} : (0 ≤ findI p l) = (l.any p = true) := by
  rcases findFrom_cases p l 0 with ⟨h, h0⟩ | ⟨i, hi, h, h3, _⟩
  · unfold findI; rw [h]
    simp
    intro x hx
    obtain ⟨j, hj, rfl⟩ := List.getElem_of_mem hx
    have := h0 j hj
    simpa [List.getD, hj] using this
  · unfold findI; rw [h]
    simp only [Nat.zero_add, eq_iff_iff]
    constructor
    · intro _
      rw [List.any_eq_true]
      exact ⟨l.getD i 0, by simp [List.getD, hi], h3⟩
    · intro _; omega

/-- A predicate value: called at any later world it answers p and keeps all that is there. -/
def PredOk (w : World) (F : Nat) (capt : Array Value) (l : List Int) (p : Int → Bool) : Prop :=
  ∀ w1, Keep (fun _ => False) w w1 → ∀ x ∈ l, Calls Tryz.prog F (#[.int .i64 x] ++ capt) w1 fun e w2 => e = .returned (.bool (p x)) ∧ Keep (fun _ => False) w1 w2

/-- A call of function F enters it. -/
def Enters (F : Nat) : Prop := ∀ (args : Array Value) (w : World), (callFunc F args).run Tryz.prog w = .ok (.enter F args) w

def IdxPost (w : World) (r : Value) (e : Ending) (w' : World) : Prop := e = .returned r ∧ Keep (fun _ => False) w w'

set_option maxHeartbeats 800000 in
set_option maxRecDepth 100000 in
theorem indexFunc_any {w : World} {v : Value} {l : List Int} {F : Nat} {capt : Array Value} {p : Int → Bool} (hv : Rd w 1 v l.length (icells l)) (hF : Enters F) (hp : PredOk w F capt l p) (hl : l.length < 9223372036854775807) :
    Calls Tryz.prog 219 #[v, .func (.func F) #[] capt] w (IdxPost w (.int .i64 (findI p l))) := by
  obtain ⟨ao, cap, hve, hn, hm, hsp⟩ := hv.shape
  subst hve
  have HV := Lib.hid hv; clear hv
  have HP := Lib.hid hp; clear hp
  clear hsp
  have eF : ∀ (args : Array Value) (w : World), (callFunc F args).run Tryz.prog w = .ok (.enter F args) w := hF
  clear hF
  go_enter Tryz.func219, Tryz.ntmps219
  go_wp2
  go_loopw [8] (fun i wr => ∃ k : Nat, k ≤ l.length ∧ i = .int .i64 k ∧ Keep (fun _ => False) w wr ∧ ∀ j, j < k → p (l.getD j 0) = false) (fun i _ => l.length - (intOf i).toNat)
  case atStart => exact ⟨0, Nat.zero_le _, rfl, Keep.refl _ _, fun j h => by omega⟩
  case round =>
    obtain ⟨k, hk, rfl, hkeep, h0⟩ := hrel
    have HK := Lib.hid hkeep; clear hkeep
    have H0 := Lib.hid h0; clear h0
    by_cases hlt : k < l.length
    · have hrd := HV.out.keep HK.out (fun _ _ h => h)
      obtain ⟨b, o, hao, hcell⟩ : ∃ b o, ao = some ⟨b, o, none⟩ ∧ wr.cell? ⟨b, o + k, none⟩ = some (.int .i64 (l.getD k 0)) := by
        rcases hrd.2.2 with ⟨h, h'⟩ | ⟨b, o, c, h, _, _, hx⟩
        · omega
        · cases h
          exact ⟨b, o, rfl, hx k _ (icells_get l k hlt)⟩
      subst hao
      have HR := Lib.hid hrd; clear hrd
      have hmem : l[k] ∈ l := by simp
      have HC := Lib.hid (HP.out wr HK.out _ hmem); clear hmem
      have HG := Lib.hid (show l.getD k 0 = l[k] by simp [List.getD, hlt])
      cases hpx : p (l.getD k 0)
      · have HX := Lib.hid hpx; clear hpx
        go_wp2
        refine HC.out.mono ?_
        rintro e w2 ⟨he, hk2⟩
        rw [← HG.out, HX.out] at he
        subst he
        have HK2 := Lib.hid (HK.out.trans hk2 (fun _ _ h => h)); clear hk2
        go_wp2
        go_roundw
        case rel =>
          refine ⟨k + 1, by omega, by go_num, HK2.out, fun j hj => ?_⟩
          by_cases hjk : j = k
          · subst hjk; exact HX.out
          · exact H0.out j (by omega)
        case measure => simp [intOf]; omega
      · have HX := Lib.hid hpx; clear hpx
        go_wp2
        refine HC.out.mono ?_
        rintro e w2 ⟨he, hk2⟩
        rw [← HG.out, HX.out] at he
        subst he
        have HK2 := Lib.hid (HK.out.trans hk2 (fun _ _ h => h)); clear hk2
        go_wp2
        go_ret
        exact ⟨by rw [findI_at hlt HX.out H0.out]; rfl, HK2.out⟩
    · go_wp2
      go_ret
      exact ⟨by rw [findI_none (fun i hi => H0.out i (by omega))]; rfl, HK.out⟩

theorem containsFunc_any {w : World} {v : Value} {l : List Int} {F : Nat} {capt : Array Value} {p : Int → Bool} (hv : Rd w 1 v l.length (icells l)) (hF : Enters F) (hp : PredOk w F capt l p) (hl : l.length < 9223372036854775807) :
    Calls Tryz.prog 143 #[v, .func (.func F) #[] capt] w (IdxPost w (.bool (l.any p))) := by
  have h := Lib.hid (indexFunc_any hv hF hp hl)
  have hb : decide (0 ≤ findI p l) = l.any p := by
    have := findI_ge (p := p) (l := l)
    cases hany : l.any p
    · rw [hany] at this; simp at this; simp; omega
    · rw [hany] at this; simpa using this
  have HB := Lib.hid hb
  clear hv hF hp hb
  go_enter Tryz.func143, Tryz.ntmps143
  go_wp2_with (go_at_call 219; refine h.out.mono ?_; rintro e w1 ⟨rfl, hk⟩; have HK := Lib.hid hk; clear hk)
  go_ret
  exact ⟨by rw [← HB.out]; rfl, HK.out⟩
end Go.Proofs.YtkkjonkcjlnohaaGreatDoor

/- The disk of the program: what each method does to it, for every disk that NewDisk made. -/
namespace Go.Proofs.YtkkjonkcjlnohaaGreatDoor
set_option linter.unusedSimpArgs false
set_option linter.unusedVariables false
set_option linter.unnecessarySimpa false
open Go.RowKit

structure Dsk where
  off : Bool
  left : Int
  size : Nat
  safe : Nat
  bytes : List UInt8

structure Dsk.ok (D : Dsk) : Prop where
  left0 : -1 ≤ D.left
  left1 : D.left ≤ 9223372036854775807
  size0 : 1 ≤ D.size
  size1 : D.size ≤ 1000000
  safe : D.safe ≤ D.bytes.length
  fits : D.bytes.length ≤ D.size

def bcells (l : List UInt8) : List Value := l.map fun b => .int .u8 b.toNat
theorem bcells_length (l : List UInt8) : (bcells l).length = l.length := by simp [bcells]
theorem bcells_one (l : List UInt8) : ∀ u ∈ bcells l, u.oneCell' = true := by
  intro u hu; obtain ⟨_, _, rfl⟩ := List.mem_map.1 hu; rfl
theorem bcells_append (a b : List UInt8) : bcells (a ++ b) = bcells a ++ bcells b := by simp [bcells]
theorem bcells_take (a : List UInt8) (k : Nat) : bcells (a.take k) = (bcells a).take k := by simp [bcells, List.map_take]

def onF (D : Dsk) : Bool × Dsk :=
  if D.left = 0 then (false, { D with off := true })
  else if D.off then (false, D) else (true, { D with left := if D.left < 0 then -1 else D.left - 1 })
def appendF (D : Dsk) (l : List UInt8) : Int × Dsk :=
  if D.size < D.bytes.length + l.length then (9, D)
  else if (onF D).1 then (0, { (onF D).2 with bytes := D.bytes ++ l }) else (10, (onF D).2)
def syncF (D : Dsk) : Int × Dsk :=
  if (onF D).1 then (0, { (onF D).2 with safe := D.bytes.length }) else (10, (onF D).2)
def cutF (D : Dsk) (n : Int) : Int × Dsk :=
  if n < 0 ∨ (D.bytes.length : Int) < n then (2, D)
  else if (onF D).1 then (0, { (onF D).2 with bytes := D.bytes.take n.toNat, safe := n.toNat }) else (10, (onF D).2)
/-- The program's disk lies at block bd; v is its slice of bytes. -/
structure DiskAt (base : Nat) (w : World) (bd : Nat) (D : Dsk) (v : Value) : Prop where
  blk : Blk w bd #[.bool D.off, .int .i64 D.left, .int .i64 D.size, .int .i64 D.safe, v] 82
  own : w.ownsRow base 5 1 v D.bytes.length (bcells D.bytes)
  ge : base ≤ bd
  ne : v.ownBlock ≠ some bd
  ok : D.ok

theorem onF_bytes (D : Dsk) : (onF D).2.bytes = D.bytes ∧ (onF D).2.size = D.size ∧ (onF D).2.safe = D.safe := by
  unfold onF; split <;> (try split) <;> exact ⟨rfl, rfl, rfl⟩
theorem onF_ok {D : Dsk} (h : D.ok) : (onF D).2.ok := by
  obtain ⟨a, b, c, d, e, f⟩ := h
  unfold onF
  split
  · exact ⟨a, b, c, d, e, f⟩
  · split
    · exact ⟨a, b, c, d, e, f⟩
    · exact ⟨by simp; split <;> omega, by simp; split <;> omega, c, d, e, f⟩

def OnPost (base : Nat) (w : World) (bd : Nat) (D : Dsk) (v : Value) (e : Ending) (w' : World) : Prop :=
  e = .returned (.bool (onF D).1) ∧ DiskAt base w' bd (onF D).2 v ∧ Keep (fun k => k = bd) w w'

set_option maxHeartbeats 400000 in
theorem on_any {base bd : Nat} {D : Dsk} {v : Value} {w : World} (h : DiskAt base w bd D v) :
    Calls Tryz.prog 42 #[.pointer (some ⟨bd, 0, none⟩)] w (OnPost base w bd D v) := by
  obtain ⟨off, left, size, safe, bytes⟩ := D
  have hok' := onF_ok h.ok
  obtain ⟨hb, ho, hge, hne, hok⟩ := h
  have h0 := hb.cell 0
  have h1 := hb.cell 1
  have f0 := hb.free 0
  have f1 := hb.free 1
  have l0 := hok.left0
  have l1 := hok.left1
  simp at h0 h1 l0 l1
  have HB := Lib.hid hb; clear hb
  have HO := Lib.hid ho; clear ho
  have HN := Lib.hid hne; clear hne
  have HK := Lib.hid hok'; clear hok'
  clear hok
  by_cases hl : left = 0
  · subst hl
    go_enter Tryz.func42, Tryz.ntmps42
    go_wp2
    go_ret
    exact ⟨rfl, ⟨by simpa [onF] using HB.out.set 0 (.bool true), ownsRow_setCell HO.out _ _ HN.out, hge, HN.out, HK.out⟩, (Keep.refl _ _).setCell _ _ (fun _ => rfl)⟩
  have hl' : (left == 0) = false := by simpa using hl
  cases off
  · by_cases hm : left < 0
    · obtain rfl : left = -1 := by omega
      clear hl hm hl'
      go_enter Tryz.func42, Tryz.ntmps42
      go_wp2
      go_ret
      exact ⟨rfl, ⟨by simpa [onF] using HB.out.set 1 (.int .i64 (-1)), ownsRow_setCell HO.out _ _ HN.out, hge, HN.out, HK.out⟩, (Keep.refl _ _).setCell _ _ (fun _ => rfl)⟩
    · have hF : onF ⟨false, left, size, safe, bytes⟩ = (true, ⟨false, left - 1, size, safe, bytes⟩) := by simp [onF, hl, hm]
      have HF := Lib.hid hF; clear hF
      have hm1 : 1 ≤ left := by omega
      clear hl hm
      go_enter Tryz.func42, Tryz.ntmps42
      go_wp2
      go_ret
      refine ⟨by rw [HF.out]; rfl, ⟨?_, ?_, hge, HN.out, HK.out⟩, (Keep.refl _ _).setCell _ _ (fun _ => rfl)⟩
      · rw [HF.out]; simpa using HB.out.set 1 (.int .i64 (left - 1))
      · rw [HF.out]; exact ownsRow_setCell HO.out _ _ HN.out
  · have hF : onF ⟨true, left, size, safe, bytes⟩ = (false, ⟨true, left, size, safe, bytes⟩) := by simp [onF, hl]
    have HF := Lib.hid hF; clear hF
    clear hl
    go_enter Tryz.func42, Tryz.ntmps42
    go_wp2
    go_ret
    refine ⟨by rw [HF.out]; rfl, ⟨?_, ?_, hge, HN.out, HK.out⟩, Keep.refl _ _⟩
    · rw [HF.out]; exact HB.out
    · rw [HF.out]; exact HO.out

theorem DiskAt.drewN {base bd : Nat} {D : Dsk} {v : Value} {w : World} (h : DiskAt base w bd D v) (n : Nat) : DiskAt base (w.drewN n) bd D v :=
  ⟨h.blk, h.own, h.ge, h.ne, h.ok⟩
theorem DiskAt.keep {base bd : Nat} {D : Dsk} {v : Value} {w w' : World} {S : Nat → Prop} (h : DiskAt base w bd D v) (k : Keep S w w') (h1 : ¬ S bd) (h2 : ∀ g, v.ownBlock = some g → ¬ S g) : DiskAt base w' bd D v :=
  ⟨h.blk.keep k h1, ownsRow_keep h.own k h2, h.ge, h.ne, h.ok⟩

theorem none_any {base bd : Nat} {D : Dsk} {v : Value} {w : World} (h : DiskAt base w bd D v) :
    Calls Tryz.prog 34 #[.pointer (some ⟨bd, 0, none⟩)] w fun e w' => e = .returned (.bool false) ∧ w = w' := by
  obtain ⟨hb, ho, hge, hne, hok⟩ := h
  have h2 := hb.cell 2
  have l0 := hok.size0
  simp at h2
  have hs : ((D.size : Int) == 0) = false := by simp; omega
  clear hb ho hne hok
  go_enter Tryz.func34, Tryz.ntmps34
  go_wp2
  go_ret
  exact ⟨rfl, rfl⟩

theorem info5 : (Tryz.prog.info? 5).map (fun i => (i.zero, i.size, i.bytes)) = some (some (.int .u8 0), 1, 1) := by kernel_rfl

def AppendPost (base : Nat) (w : World) (bd : Nat) (D : Dsk) (v : Value) (l : List UInt8) (e : Ending) (w' : World) : Prop :=
  e = .returned (.int .i64 (appendF D l).1) ∧ (∃ v', DiskAt base w' bd (appendF D l).2 v' ∧ (v'.ownBlock = v.ownBlock ∨ ∃ g, v'.ownBlock = some g ∧ w.heap.size ≤ g)) ∧
    Keep (fun k => k = bd ∨ v.ownBlock = some k) w w'

set_option maxHeartbeats 800000 in
theorem append_any {base bd : Nat} {D : Dsk} {v x : Value} {w : World} {l : List UInt8} (h : DiskAt base w bd D v) (hx : Rd w 1 x l.length (bcells l)) (hxd : x.ownBlock ≠ some bd) (hbase : base ≤ w.heap.size) :
    Calls Tryz.prog 23 #[.pointer (some ⟨bd, 0, none⟩), x] w (AppendPost base w bd D v l) := by
  have hd := h
  have l4 := h.ok.size1
  have l5 := h.ok.fits
  have hb := h.blk
  have h2 := hb.cell 2
  have h4 := hb.cell 4
  simp at h2 h4
  obtain ⟨xo, xc, hxe, hxn, hxm, _⟩ := hx.shape
  subst hxe
  obtain ⟨vo, vc, hve, _⟩ := ownsRow_shape h.own
  subst hve
  unfold maxLen at hxm
  have HD := Lib.hid hd; clear hd
  have HX := Lib.hid hx; clear hx
  have HXD := Lib.hid hxd; clear hxd
  have HH := Lib.hid h; clear h hb
  by_cases hfull : D.size < D.bytes.length + l.length
  · have hF : appendF D l = (9, D) := by simp [appendF, hfull]
    have HF := Lib.hid hF; clear hF
    go_enter Tryz.func23, Tryz.ntmps23
    go_wp2_with (go_at_call 34; refine (none_any HD.out).mono ?_; rintro e w' ⟨rfl, rfl⟩)
    go_quiet (fail)
    go_wp2
    go_ret
    exact ⟨by rw [HF.out]; rfl, ⟨_, by rw [HF.out]; exact HD.out.drewN _, .inl rfl⟩, (Keep.refl _ _).drewN _⟩
  · have hroom : (D.bytes.length : Int) + l.length ≤ D.size := by omega
    by_cases hon : (onF D).1 = true
    · have hF : appendF D l = (0, { (onF D).2 with bytes := D.bytes ++ l }) := by simp [appendF, hfull, hon]
      have HF := Lib.hid hF; clear hF
      have HON := Lib.hid hon; clear hon hfull
      go_enter Tryz.func23, Tryz.ntmps23
      go_wp2_with (go_at_call 34; refine (none_any HD.out).mono ?_; rintro e w' ⟨rfl, rfl⟩)
      go_quiet (fail)
      go_wp2_with (first | (go_at_call 42; refine (on_any (HD.out.drewN _)).mono ?_; rintro e w1 ⟨he, hd1, hk1⟩; rw [HON.out] at he; subst he; have c4 := hd1.blk.cell 4; simp at c4; have HD1 := Lib.hid hd1; clear hd1; have hw1 : w.heap.size ≤ w1.heap.size := hk1.size; have HK1 := Lib.hid hk1; clear hk1; have HOWN := Lib.hid (show w1.ownsRow base 5 1 (.slice vo D.bytes.length vc) D.bytes.length (bcells D.bytes) by have := HD1.out.own; rwa [(onF_bytes D).1] at this); have HSRC := Lib.hid ((HX.out.keep (S := fun k => k = bd) (((Keep.refl _ w).drewN nq).trans HK1.out (fun _ _ h => h)) (fun b hb e => HXD.out (by rw [hb, e]))).src (P := Tryz.prog) Tryz.underlying65)) | (at_builtin; refine wpList_app (w := w1) rfl (.tmp 32) (.tmp 33) 65 65 rfl 5 (.int .u8 0) 1 1 Tryz.underlying65 info5 rfl HOWN.out rfl HSRC.out rfl ?hb1 ?hb2 ?hb3 ?hgo))
      case hb1 => unfold maxLen; omega
      case hb2 => omega
      case hb3 => omega
      case hgo =>
      intro v' w2 happ
      obtain ⟨ao, cap, hv', _⟩ := ownsRow_shape happ.own
      have hne2 : ¬ ((Value.slice vo D.bytes.length vc).ownBlock = some bd) := HD1.out.ne
      have k2 := happ.keep
      have c4' := (k2.cell (p := ⟨bd, 4, none⟩) HD1.out.blk.lt hne2).trans c4
      have f4' := (k2.frozen (p := ⟨bd, 4, none⟩) HD1.out.blk.lt hne2).trans (HD1.out.blk.free 4)
      subst hv'
      have HA := Lib.hid happ; clear happ k2 hne2
      go_wp2
      go_ret
      have hne' : (Value.slice ao (D.bytes.length + l.length) cap).ownBlock ≠ some bd := by
        rcases HA.out.fresh with h | ⟨g, h, hg⟩
        · rw [h]; exact HD1.out.ne
        · rw [h]; intro e; cases e; have := HD1.out.blk.lt; omega
      refine ⟨by rw [HF.out]; rfl, ⟨_, ⟨?_, ?_, HD.out.ge, hne', ?_⟩, ?_⟩, ?_⟩
      · rw [HF.out]
        have := (HD1.out.blk.keep HA.out.keep HD1.out.ne).set 4 (.slice ao (D.bytes.length + l.length) cap)
        simpa using this
      · rw [HF.out]
        have := ownsRow_setCell HA.out.own ⟨bd, 4, none⟩ (.slice ao (D.bytes.length + l.length) cap) hne'
        simpa [bcells_append] using this
      · rw [HF.out]
        obtain ⟨q1, q2, q3, q4, q5, q6⟩ := HD1.out.ok
        obtain ⟨r1, r2, r3⟩ := onF_bytes D
        refine ⟨q1, q2, q3, q4, ?_, ?_⟩
        · rw [r1] at q5; simp; omega
        · simp; rw [r2]; omega
      · rcases HA.out.fresh with h | ⟨g, h, hg⟩
        · exact .inl h
        · exact .inr ⟨g, h, by omega⟩
      · refine Keep.setCell ?_ _ _ (fun _ => .inl rfl)
        refine (((Keep.refl _ w).drewN nq).trans HK1.out (fun _ _ h => .inl h)).trans HA.out.keep (fun _ _ h => .inr h)
    · have hon' : (onF D).1 = false := by simpa using hon
      have hF : appendF D l = (10, (onF D).2) := by simp [appendF, hfull, hon']
      have HF := Lib.hid hF; clear hF
      have HON := Lib.hid hon'; clear hon hon' hfull
      go_enter Tryz.func23, Tryz.ntmps23
      go_wp2_with (go_at_call 34; refine (none_any HD.out).mono ?_; rintro e w' ⟨rfl, rfl⟩)
      go_quiet (fail)
      go_wp2_with (go_at_call 42; refine (on_any (HD.out.drewN _)).mono ?_; rintro e w1 ⟨he, hd1, hk1⟩; rw [HON.out] at he; subst he; have HD1 := Lib.hid hd1; clear hd1; have HK1 := Lib.hid hk1; clear hk1)
      go_ret
      exact ⟨by rw [HF.out]; rfl, ⟨_, by rw [HF.out]; exact HD1.out, .inl rfl⟩, ((Keep.refl _ w).drewN nq).trans HK1.out (fun _ _ h => .inl h)⟩
end Go.Proofs.YtkkjonkcjlnohaaGreatDoor

/- slices.IndexFunc and slices.ContainsFunc at []byte. -/
namespace Go.Proofs.YtkkjonkcjlnohaaGreatDoor
set_option linter.unusedSimpArgs false
set_option linter.unusedVariables false
set_option linter.unnecessarySimpa false
open Go.RowKit
theorem bcells_get (l : List UInt8) (j : Nat) (h : j < l.length) : (bcells l)[j]? = some (.int .u8 (l.getD j 0).toNat) := by
  simp [bcells, List.getD, h]

/-- The first place at which p holds, from k on. -/
def findFromB (p : UInt8 → Bool) (l : List UInt8) (k : Nat) : Int :=
  match l with
  | [] => -1
  | x :: r => if p x then k else findFromB p r (k + 1)
def findIB (p : UInt8 → Bool) (l : List UInt8) : Int := findFromB p l 0
theorem findFrom_casesB (p : UInt8 → Bool) : ∀ (l : List UInt8) (k : Nat), (findFromB p l k = -1 ∧ ∀ j, j < l.length → p (l.getD j 0) = false) ∨
    ∃ j, j < l.length ∧ findFromB p l k = ((k + j : Nat) : Int) ∧ p (l.getD j 0) = true ∧ ∀ i, i < j → p (l.getD i 0) = false
  | [], k => .inl ⟨rfl, fun j h => by simp at h⟩
  | x :: r, k => by
    unfold findFromB
    by_cases hx : p x = true
    · exact .inr ⟨0, by simp, by simp [hx], by simpa using hx, fun i hi => by omega⟩
    · have hx' : p x = false := by simpa using hx
      rcases findFrom_casesB p r (k + 1) with ⟨h1, h2⟩ | ⟨j, h1, h2, h3, h4⟩
      · refine .inl ⟨by simp [hx', h1], fun j hj => ?_⟩
        cases j with
        | zero => simpa using hx'
        | succ j => simpa using h2 j (by simpa using hj)
      · refine .inr ⟨j + 1, by simpa using h1, by simp [hx', h2]; omega, by simpa using h3, fun i hi => ?_⟩
        cases i with
        | zero => simpa using hx'
        | succ i => simpa using h4 i (by omega)
theorem findI_atB {p : UInt8 → Bool} {l : List UInt8} {j : Nat} (hj : j < l.length) (h1 : p (l.getD j 0) = true) (h0 : ∀ i, i < j → p (l.getD i 0) = false) : findIB p l = j := by
  rcases findFrom_casesB p l 0 with ⟨_, h⟩ | ⟨i, hi, h, h3, h4⟩
  · rw [h j hj] at h1; cases h1
  · unfold findIB
    rw [h]
    have : i = j := by
      rcases Nat.lt_trichotomy i j with hl | he | hg
      · rw [h0 i hl] at h3; cases h3
      · exact he
      · rw [h4 j hg] at h1; cases h1
    simp [this]
theorem findI_noneB {p : UInt8 → Bool} {l : List UInt8} (h0 : ∀ i, i < l.length → p (l.getD i 0) = false) : findIB p l = -1 := by
  rcases findFrom_casesB p l 0 with ⟨h, _⟩ | ⟨i, hi, h, h3, _⟩
  · exact h
  · rw [h0 i hi] at h3; cases h3
theorem findI_geB {p : UInt8 → Bool} {l : List UInt8} : (0 ≤ findIB p l) = (l.any p = true) := by
  rcases findFrom_casesB p l 0 with ⟨h, h0⟩ | ⟨i, hi, h, h3, _⟩
  · unfold findIB; rw [h]
    simp
    intro x hx
    obtain ⟨j, hj, rfl⟩ := List.getElem_of_mem hx
    have := h0 j hj
    simpa [List.getD, hj] using this
  · unfold findIB; rw [h]
    simp only [Nat.zero_add, eq_iff_iff]
    constructor
    · intro _
      rw [List.any_eq_true]
      exact ⟨l.getD i 0, by simp [List.getD, hi], h3⟩
    · intro _; omega

/-- A predicate value: called at any later world it answers p and keeps all that is there. -/
def PredOkB (w : World) (F : Nat) (capt : Array Value) (l : List UInt8) (p : UInt8 → Bool) : Prop :=
  ∀ w1, Keep (fun _ => False) w w1 → ∀ x ∈ l, Calls Tryz.prog F (#[.int .u8 x.toNat] ++ capt) w1 fun e w2 => e = .returned (.bool (p x)) ∧ Keep (fun _ => False) w1 w2

set_option maxHeartbeats 800000 in
set_option maxRecDepth 100000 in
theorem indexFunc_anyB {w : World} {v : Value} {l : List UInt8} {F : Nat} {capt : Array Value} {p : UInt8 → Bool} (hv : Rd w 1 v l.length (bcells l)) (hF : Enters F) (hp : PredOkB w F capt l p) (hl : l.length < 9223372036854775807) :
    Calls Tryz.prog 106 #[v, .func (.func F) #[] capt] w (IdxPost w (.int .i64 (findIB p l))) := by
  obtain ⟨ao, cap, hve, hn, hm, hsp⟩ := hv.shape
  subst hve
  have HV := Lib.hid hv; clear hv
  have HP := Lib.hid hp; clear hp
  clear hsp
  have eF : ∀ (args : Array Value) (w : World), (callFunc F args).run Tryz.prog w = .ok (.enter F args) w := hF
  clear hF
  go_enter Tryz.func106, Tryz.ntmps106
  go_wp2
  go_loopw [8] (fun i wr => ∃ k : Nat, k ≤ l.length ∧ i = .int .i64 k ∧ Keep (fun _ => False) w wr ∧ ∀ j, j < k → p (l.getD j 0) = false) (fun i _ => l.length - (intOf i).toNat)
  case atStart => exact ⟨0, Nat.zero_le _, rfl, Keep.refl _ _, fun j h => by omega⟩
  case round =>
    obtain ⟨k, hk, rfl, hkeep, h0⟩ := hrel
    have HK := Lib.hid hkeep; clear hkeep
    have H0 := Lib.hid h0; clear h0
    by_cases hlt : k < l.length
    · have hrd := HV.out.keep HK.out (fun _ _ h => h)
      obtain ⟨b, o, hao, hcell⟩ : ∃ b o, ao = some ⟨b, o, none⟩ ∧ wr.cell? ⟨b, o + k, none⟩ = some (.int .u8 (l.getD k 0).toNat) := by
        rcases hrd.2.2 with ⟨h, h'⟩ | ⟨b, o, c, h, _, _, hx⟩
        · omega
        · cases h
          exact ⟨b, o, rfl, hx k _ (bcells_get l k hlt)⟩
      subst hao
      have HR := Lib.hid hrd; clear hrd
      have hmem : l[k] ∈ l := by simp
      have HC := Lib.hid (HP.out wr HK.out _ hmem); clear hmem
      have HG := Lib.hid (show l.getD k 0 = l[k] by simp [List.getD, hlt])
      cases hpx : p (l.getD k 0)
      · have HX := Lib.hid hpx; clear hpx
        go_wp2
        refine HC.out.mono ?_
        rintro e w2 ⟨he, hk2⟩
        rw [← HG.out, HX.out] at he
        subst he
        have HK2 := Lib.hid (HK.out.trans hk2 (fun _ _ h => h)); clear hk2
        go_wp2
        go_roundw
        case rel =>
          refine ⟨k + 1, by omega, by go_num, HK2.out, fun j hj => ?_⟩
          by_cases hjk : j = k
          · subst hjk; exact HX.out
          · exact H0.out j (by omega)
        case measure => simp [intOf]; omega
      · have HX := Lib.hid hpx; clear hpx
        go_wp2
        refine HC.out.mono ?_
        rintro e w2 ⟨he, hk2⟩
        rw [← HG.out, HX.out] at he
        subst he
        have HK2 := Lib.hid (HK.out.trans hk2 (fun _ _ h => h)); clear hk2
        go_wp2
        go_ret
        exact ⟨by rw [findI_atB hlt HX.out H0.out]; rfl, HK2.out⟩
    · go_wp2
      go_ret
      exact ⟨by rw [findI_noneB (fun i hi => H0.out i (by omega))]; rfl, HK.out⟩

theorem containsFunc_anyB {w : World} {v : Value} {l : List UInt8} {F : Nat} {capt : Array Value} {p : UInt8 → Bool} (hv : Rd w 1 v l.length (bcells l)) (hF : Enters F) (hp : PredOkB w F capt l p) (hl : l.length < 9223372036854775807) :
    Calls Tryz.prog 69 #[v, .func (.func F) #[] capt] w (IdxPost w (.bool (l.any p))) := by
  have h := Lib.hid (indexFunc_anyB hv hF hp hl)
  have hb : decide (0 ≤ findIB p l) = l.any p := by
    have := findI_geB (p := p) (l := l)
    cases hany : l.any p
    · rw [hany] at this; simp at this; simp; omega
    · rw [hany] at this; simpa using this
  have HB := Lib.hid hb
  clear hv hF hp hb
  go_enter Tryz.func69, Tryz.ntmps69
  go_wp2_with (go_at_call 106; refine h.out.mono ?_; rintro e w1 ⟨rfl, hk⟩; have HK := Lib.hid hk; clear hk)
  go_ret
  exact ⟨by rw [← HB.out]; rfl, HK.out⟩
end Go.Proofs.YtkkjonkcjlnohaaGreatDoor

/- slices.IndexFunc and slices.ContainsFunc at facts, at atoms and at rows of ints, over whatever predicate keeps the memory. -/
namespace Go.Proofs.YtkkjonkcjlnohaaGreatDoor
set_option linter.unusedSimpArgs false
set_option linter.unusedVariables false
set_option linter.unnecessarySimpa false
open Go.RowKit

def zV : Value := .int .i64 0
def vat (vs : List Value) (k : Nat) : Value := vs.getD k zV
theorem vat_get {vs : List Value} {k : Nat} (h : k < vs.length) : vs[k]? = some (vat vs k) := by simp [vat, List.getD, h]
/-- The cells of facts of the relation 0, whose Args are vs; and of atoms. -/
def fcells (vs : List Value) : List Value := vs.flatMap fun v => [.int .i64 0, v]
theorem fcells_length (vs : List Value) : (fcells vs).length = vs.length * 2 := by
  induction vs with
  | nil => rfl
  | cons a l ih => show (Value.int .i64 0 :: a :: fcells l).length = _; simp only [List.length_cons, ih]; omega
theorem fcells_at : ∀ (vs : List Value) (k : Nat), k < vs.length → (fcells vs)[k * 2]? = some (.int .i64 0) ∧ (fcells vs)[k * 2 + 1]? = some (vat vs k)
  | [], k, h => by simp at h
  | a :: l, 0, h => ⟨rfl, rfl⟩
  | a :: l, k + 1, h => by
    have ih := fcells_at l k (by simpa using h)
    have e : fcells (a :: l) = .int .i64 0 :: a :: fcells l := rfl
    rw [e, show (k + 1) * 2 = k * 2 + 1 + 1 by omega]
    simpa [vat] using ih
theorem fcells_append (a b : List Value) : fcells (a ++ b) = fcells a ++ fcells b := by simp [fcells]
theorem fcells_one {vs : List Value} (h : ∀ v ∈ vs, v.oneCell' = true) : ∀ u ∈ fcells vs, u.oneCell' = true := by
  intro u hu
  obtain ⟨v, hv, hm⟩ := List.mem_flatMap.1 hu
  simp only [List.mem_cons, List.not_mem_nil, or_false] at hm
  rcases hm with rfl | rfl
  · rfl
  · exact h _ hv
theorem rd_fc {w : World} {v : Value} {n : Nat} {vs : List Value} (h : Rd w 2 v n (fcells vs)) {k : Nat} (hk : k < n) :
    ∃ b o cap, v = .slice (some ⟨b, o, none⟩) n cap ∧ w.cell? ⟨b, o + k * 2, none⟩ = some (.int .i64 0) ∧ w.cell? ⟨b, o + k * 2 + 1, none⟩ = some (vat vs k) := by
  have hl : vs.length = n := by have := h.1; rw [fcells_length] at this; omega
  rcases h.2.2 with ⟨_, h0⟩ | ⟨b, o, cap, hv, _, _, hx⟩
  · omega
  · obtain ⟨h1, h2⟩ := fcells_at vs k (by omega)
    exact ⟨b, o, cap, hv, hx _ _ h1, by have := hx _ _ h2; rwa [← Nat.add_assoc] at this⟩
def idxs (n : Nat) : List Int := (List.range n).map Int.ofNat
theorem idxs_len (n : Nat) : (idxs n).length = n := by simp [idxs]
theorem idxs_get (n k : Nat) (h : k < n) : (idxs n).getD k 0 = (k : Int) := by simp [idxs, List.getD, h]
/-- The first k below n at which q holds, or -1; whether there is one. -/
def fstQ (q : Nat → Bool) (n : Nat) : Int := findI (fun i => q i.toNat) (idxs n)
def anyQ (q : Nat → Bool) (n : Nat) : Bool := (List.range n).any q
theorem anyQ_false {q : Nat → Bool} {n : Nat} (h : ∀ k, k < n → q k = false) : anyQ q n = false := by
  unfold anyQ
  rw [List.any_eq_false]
  intro k hk
  rw [h k (List.mem_range.1 hk)]; decide
theorem anyQ_iff {q : Nat → Bool} {n : Nat} : anyQ q n = true ↔ ∃ k, k < n ∧ q k = true := by
  unfold anyQ
  rw [List.any_eq_true]
  constructor
  · rintro ⟨k, hk, h⟩; exact ⟨k, List.mem_range.1 hk, h⟩
  · rintro ⟨k, hk, h⟩; exact ⟨k, List.mem_range.2 hk, h⟩
theorem anyI_any (q : Nat → Bool) (n : Nat) : ((idxs n).any fun i => q i.toNat) = anyQ q n := by
  unfold anyQ idxs
  rw [List.any_map]
  rfl
theorem fstQ_ge (q : Nat → Bool) (n : Nat) : decide (0 ≤ fstQ q n) = anyQ q n := by
  have := findI_ge (p := fun i => q i.toNat) (l := idxs n)
  rw [anyI_any] at this
  unfold fstQ
  cases hany : anyQ q n
  · rw [hany] at this; simp at this; simp; omega
  · rw [hany] at this; simpa using this
theorem fstQ_at {q : Nat → Bool} {n k : Nat} (hk : k < n) (h1 : q k = true) (h0 : ∀ i, i < k → q i = false) : fstQ q n = k :=
  findI_at (by rw [idxs_len]; exact hk) (by rw [idxs_get _ _ hk]; exact h1) (fun i hi => by rw [idxs_get _ _ (by omega)]; exact h0 i hi)
theorem fstQ_none {q : Nat → Bool} {n : Nat} (h0 : ∀ i, i < n → q i = false) : fstQ q n = -1 :=
  findI_none (fun i hi => by rw [idxs_len] at hi; rw [idxs_get _ _ hi]; exact h0 i hi)
/-- A predicate of facts: at the k-th it answers q k. -/
def PredV (w : World) (F : Nat) (capt : Array Value) (vs : List Value) (q : Nat → Bool) : Prop :=
  ∀ w1, Keep (fun _ => False) w w1 → ∀ k, k < vs.length → Calls Tryz.prog F (#[.agg #[.int .i64 0, vat vs k]] ++ capt) w1 fun e w2 => e = .returned (.bool (q k)) ∧ Keep (fun _ => False) w1 w2
/-- A predicate of rows. -/
def PredW (w : World) (F : Nat) (capt : Array Value) (vs : List Value) (q : Nat → Bool) : Prop :=
  ∀ w1, Keep (fun _ => False) w w1 → ∀ k, k < vs.length → Calls Tryz.prog F (#[vat vs k] ++ capt) w1 fun e w2 => e = .returned (.bool (q k)) ∧ Keep (fun _ => False) w1 w2

set_option maxHeartbeats 800000 in
set_option maxRecDepth 100000 in
theorem idxF_any {w : World} {v : Value} {vs : List Value} {F : Nat} {capt : Array Value} {q : Nat → Bool} (hv : Rd w 2 v vs.length (fcells vs)) (hF : Enters F) (hp : PredV w F capt vs q) (hl : vs.length < 9223372036854775807) :
    Calls Tryz.prog 26 #[v, .func (.func F) #[] capt] w (IdxPost w (.int .i64 (fstQ q vs.length))) := by
  obtain ⟨ao, cap, hve, hn, hm, hsp⟩ := hv.shape
  subst hve
  have HV := Lib.hid hv; clear hv
  have HP := Lib.hid hp; clear hp
  clear hsp
  have eF : ∀ (args : Array Value) (w : World), (callFunc F args).run Tryz.prog w = .ok (.enter F args) w := hF
  clear hF
  go_enter Tryz.func26, Tryz.ntmps26
  go_wp2
  go_loopw [8] (fun i wr => ∃ k : Nat, k ≤ vs.length ∧ i = .int .i64 k ∧ Keep (fun _ => False) w wr ∧ ∀ j, j < k → q j = false) (fun i _ => vs.length - (intOf i).toNat)
  case atStart => exact ⟨0, Nat.zero_le _, rfl, Keep.refl _ _, fun j h => by omega⟩
  case round =>
    obtain ⟨k, hk, rfl, hkeep, h0⟩ := hrel
    have HK := Lib.hid hkeep; clear hkeep
    have H0 := Lib.hid h0; clear h0
    by_cases hlt : k < vs.length
    · have hrd := HV.out.keep HK.out (fun _ _ h => h)
      obtain ⟨b, o, hao, hcell, hcell1⟩ : ∃ b o, ao = some ⟨b, o, none⟩ ∧ wr.cell? ⟨b, o + k * 2, none⟩ = some (.int .i64 0) ∧ wr.cell? ⟨b, o + k * 2 + 1, none⟩ = some (vat vs k) := by
        obtain ⟨b, o, c, h, h1, h2⟩ := rd_fc hrd hlt
        cases h
        exact ⟨b, o, rfl, h1, h2⟩
      subst hao
      have HR := Lib.hid hrd; clear hrd
      have HC := Lib.hid (HP.out wr HK.out k hlt)
      obtain ⟨x, hx⟩ : ∃ x, vat vs k = x := ⟨_, rfl⟩
      rw [hx] at hcell1 HC
      clear hx
      cases hpx : q k
      · have HX := Lib.hid hpx; clear hpx
        go_wp2
        refine HC.out.mono ?_
        rintro e w2 ⟨he, hk2⟩
        rw [HX.out] at he
        subst he
        have HK2 := Lib.hid (HK.out.trans hk2 (fun _ _ h => h)); clear hk2
        go_wp2
        go_roundw
        case rel =>
          refine ⟨k + 1, by omega, by go_num, HK2.out, fun j hj => ?_⟩
          by_cases hjk : j = k
          · subst hjk; exact HX.out
          · exact H0.out j (by omega)
        case measure => simp [intOf]; omega
      · have HX := Lib.hid hpx; clear hpx
        go_wp2
        refine HC.out.mono ?_
        rintro e w2 ⟨he, hk2⟩
        rw [HX.out] at he
        subst he
        have HK2 := Lib.hid (HK.out.trans hk2 (fun _ _ h => h)); clear hk2
        go_wp2
        go_ret
        exact ⟨by rw [fstQ_at hlt HX.out H0.out]; rfl, HK2.out⟩
    · go_wp2
      go_ret
      exact ⟨by rw [fstQ_none (fun i hi => H0.out i (by omega))]; rfl, HK.out⟩

theorem contF_any {w : World} {v : Value} {vs : List Value} {F : Nat} {capt : Array Value} {q : Nat → Bool} (hv : Rd w 2 v vs.length (fcells vs)) (hF : Enters F) (hp : PredV w F capt vs q) (hl : vs.length < 9223372036854775807) :
    Calls Tryz.prog 9 #[v, .func (.func F) #[] capt] w (IdxPost w (.bool (anyQ q vs.length))) := by
  have h := Lib.hid (idxF_any hv hF hp hl)
  have HB := Lib.hid (fstQ_ge q vs.length)
  clear hv hF hp
  go_enter Tryz.func9, Tryz.ntmps9
  go_wp2_with (go_at_call 26; refine h.out.mono ?_; rintro e w1 ⟨rfl, hk⟩; have HK := Lib.hid hk; clear hk)
  go_ret
  exact ⟨by rw [← HB.out]; rfl, HK.out⟩

set_option maxHeartbeats 800000 in
set_option maxRecDepth 100000 in
theorem idxA_any {w : World} {v : Value} {vs : List Value} {F : Nat} {capt : Array Value} {q : Nat → Bool} (hv : Rd w 2 v vs.length (fcells vs)) (hF : Enters F) (hp : PredV w F capt vs q) (hl : vs.length < 9223372036854775807) :
    Calls Tryz.prog 261 #[v, .func (.func F) #[] capt] w (IdxPost w (.int .i64 (fstQ q vs.length))) := by
  obtain ⟨ao, cap, hve, hn, hm, hsp⟩ := hv.shape
  subst hve
  have HV := Lib.hid hv; clear hv
  have HP := Lib.hid hp; clear hp
  clear hsp
  have eF : ∀ (args : Array Value) (w : World), (callFunc F args).run Tryz.prog w = .ok (.enter F args) w := hF
  clear hF
  go_enter Tryz.func261, Tryz.ntmps261
  go_wp2
  go_loopw [8] (fun i wr => ∃ k : Nat, k ≤ vs.length ∧ i = .int .i64 k ∧ Keep (fun _ => False) w wr ∧ ∀ j, j < k → q j = false) (fun i _ => vs.length - (intOf i).toNat)
  case atStart => exact ⟨0, Nat.zero_le _, rfl, Keep.refl _ _, fun j h => by omega⟩
  case round =>
    obtain ⟨k, hk, rfl, hkeep, h0⟩ := hrel
    have HK := Lib.hid hkeep; clear hkeep
    have H0 := Lib.hid h0; clear h0
    by_cases hlt : k < vs.length
    · have hrd := HV.out.keep HK.out (fun _ _ h => h)
      obtain ⟨b, o, hao, hcell, hcell1⟩ : ∃ b o, ao = some ⟨b, o, none⟩ ∧ wr.cell? ⟨b, o + k * 2, none⟩ = some (.int .i64 0) ∧ wr.cell? ⟨b, o + k * 2 + 1, none⟩ = some (vat vs k) := by
        obtain ⟨b, o, c, h, h1, h2⟩ := rd_fc hrd hlt
        cases h
        exact ⟨b, o, rfl, h1, h2⟩
      subst hao
      have HR := Lib.hid hrd; clear hrd
      have HC := Lib.hid (HP.out wr HK.out k hlt)
      obtain ⟨x, hx⟩ : ∃ x, vat vs k = x := ⟨_, rfl⟩
      rw [hx] at hcell1 HC
      clear hx
      cases hpx : q k
      · have HX := Lib.hid hpx; clear hpx
        go_wp2
        refine HC.out.mono ?_
        rintro e w2 ⟨he, hk2⟩
        rw [HX.out] at he
        subst he
        have HK2 := Lib.hid (HK.out.trans hk2 (fun _ _ h => h)); clear hk2
        go_wp2
        go_roundw
        case rel =>
          refine ⟨k + 1, by omega, by go_num, HK2.out, fun j hj => ?_⟩
          by_cases hjk : j = k
          · subst hjk; exact HX.out
          · exact H0.out j (by omega)
        case measure => simp [intOf]; omega
      · have HX := Lib.hid hpx; clear hpx
        go_wp2
        refine HC.out.mono ?_
        rintro e w2 ⟨he, hk2⟩
        rw [HX.out] at he
        subst he
        have HK2 := Lib.hid (HK.out.trans hk2 (fun _ _ h => h)); clear hk2
        go_wp2
        go_ret
        exact ⟨by rw [fstQ_at hlt HX.out H0.out]; rfl, HK2.out⟩
    · go_wp2
      go_ret
      exact ⟨by rw [fstQ_none (fun i hi => H0.out i (by omega))]; rfl, HK.out⟩

theorem contA_any {w : World} {v : Value} {vs : List Value} {F : Nat} {capt : Array Value} {q : Nat → Bool} (hv : Rd w 2 v vs.length (fcells vs)) (hF : Enters F) (hp : PredV w F capt vs q) (hl : vs.length < 9223372036854775807) :
    Calls Tryz.prog 198 #[v, .func (.func F) #[] capt] w (IdxPost w (.bool (anyQ q vs.length))) := by
  have h := Lib.hid (idxA_any hv hF hp hl)
  have HB := Lib.hid (fstQ_ge q vs.length)
  clear hv hF hp
  go_enter Tryz.func198, Tryz.ntmps198
  go_wp2_with (go_at_call 261; refine h.out.mono ?_; rintro e w1 ⟨rfl, hk⟩; have HK := Lib.hid hk; clear hk)
  go_ret
  exact ⟨by rw [← HB.out]; rfl, HK.out⟩

set_option maxHeartbeats 800000 in
set_option maxRecDepth 100000 in
theorem idxW_any {w : World} {v : Value} {vs : List Value} {F : Nat} {capt : Array Value} {q : Nat → Bool} (hv : Rd w 1 v vs.length vs) (hF : Enters F) (hp : PredW w F capt vs q) (hl : vs.length < 9223372036854775807) :
    Calls Tryz.prog 173 #[v, .func (.func F) #[] capt] w (IdxPost w (.int .i64 (fstQ q vs.length))) := by
  obtain ⟨ao, cap, hve, hn, hm, hsp⟩ := hv.shape
  subst hve
  have HV := Lib.hid hv; clear hv
  have HP := Lib.hid hp; clear hp
  clear hsp
  have eF : ∀ (args : Array Value) (w : World), (callFunc F args).run Tryz.prog w = .ok (.enter F args) w := hF
  clear hF
  go_enter Tryz.func173, Tryz.ntmps173
  go_wp2
  go_loopw [8] (fun i wr => ∃ k : Nat, k ≤ vs.length ∧ i = .int .i64 k ∧ Keep (fun _ => False) w wr ∧ ∀ j, j < k → q j = false) (fun i _ => vs.length - (intOf i).toNat)
  case atStart => exact ⟨0, Nat.zero_le _, rfl, Keep.refl _ _, fun j h => by omega⟩
  case round =>
    obtain ⟨k, hk, rfl, hkeep, h0⟩ := hrel
    have HK := Lib.hid hkeep; clear hkeep
    have H0 := Lib.hid h0; clear h0
    by_cases hlt : k < vs.length
    · have hrd := HV.out.keep HK.out (fun _ _ h => h)
      obtain ⟨b, o, hao, hcell⟩ : ∃ b o, ao = some ⟨b, o, none⟩ ∧ wr.cell? ⟨b, o + k, none⟩ = some (vat vs k) := by
        rcases hrd.2.2 with ⟨h, h'⟩ | ⟨b, o, c, h, _, _, hx⟩
        · omega
        · cases h
          exact ⟨b, o, rfl, hx k _ (vat_get hlt)⟩
      subst hao
      have HR := Lib.hid hrd; clear hrd
      have HC := Lib.hid (HP.out wr HK.out k hlt)
      obtain ⟨x, hx⟩ : ∃ x, vat vs k = x := ⟨_, rfl⟩
      rw [hx] at hcell HC
      clear hx
      cases hpx : q k
      · have HX := Lib.hid hpx; clear hpx
        go_wp2
        refine HC.out.mono ?_
        rintro e w2 ⟨he, hk2⟩
        rw [HX.out] at he
        subst he
        have HK2 := Lib.hid (HK.out.trans hk2 (fun _ _ h => h)); clear hk2
        go_wp2
        go_roundw
        case rel =>
          refine ⟨k + 1, by omega, by go_num, HK2.out, fun j hj => ?_⟩
          by_cases hjk : j = k
          · subst hjk; exact HX.out
          · exact H0.out j (by omega)
        case measure => simp [intOf]; omega
      · have HX := Lib.hid hpx; clear hpx
        go_wp2
        refine HC.out.mono ?_
        rintro e w2 ⟨he, hk2⟩
        rw [HX.out] at he
        subst he
        have HK2 := Lib.hid (HK.out.trans hk2 (fun _ _ h => h)); clear hk2
        go_wp2
        go_ret
        exact ⟨by rw [fstQ_at hlt HX.out H0.out]; rfl, HK2.out⟩
    · go_wp2
      go_ret
      exact ⟨by rw [fstQ_none (fun i hi => H0.out i (by omega))]; rfl, HK.out⟩

theorem contW_any {w : World} {v : Value} {vs : List Value} {F : Nat} {capt : Array Value} {q : Nat → Bool} (hv : Rd w 1 v vs.length vs) (hF : Enters F) (hp : PredW w F capt vs q) (hl : vs.length < 9223372036854775807) :
    Calls Tryz.prog 114 #[v, .func (.func F) #[] capt] w (IdxPost w (.bool (anyQ q vs.length))) := by
  have h := Lib.hid (idxW_any hv hF hp hl)
  have HB := Lib.hid (fstQ_ge q vs.length)
  clear hv hF hp
  go_enter Tryz.func114, Tryz.ntmps114
  go_wp2_with (go_at_call 173; refine h.out.mono ?_; rintro e w1 ⟨rfl, hk⟩; have HK := Lib.hid hk; clear hk)
  go_ret
  exact ⟨by rw [← HB.out]; rfl, HK.out⟩
end Go.Proofs.YtkkjonkcjlnohaaGreatDoor

/- cmp.Compare, cmp.Or and slices.Compare at ints. -/
namespace Go.Proofs.YtkkjonkcjlnohaaGreatDoor
set_option linter.unusedSimpArgs false
set_option linter.unusedVariables false
set_option linter.unnecessarySimpa false
open Go.RowKit

def cmpI (x y : Int) : Int := if x < y then -1 else if y < x then 1 else 0
theorem isNaN_any (x : Int) (w : World) : Calls Tryz.prog 233 #[.int .i64 x] w fun e w' => e = .returned (.bool false) ∧ w = w' := by
  go_enter Tryz.func233, Tryz.ntmps233
  go_wp2
  go_ret
  exact ⟨rfl, rfl⟩
theorem cmpI_any (x y : Int) (w : World) : Calls Tryz.prog 167 #[.int .i64 x, .int .i64 y] w fun e w' => e = .returned (.int .i64 (cmpI x y)) ∧ w = w' := by
  rcases Int.lt_trichotomy x y with h | h | h
  · have e : cmpI x y = -1 := by unfold cmpI; rw [if_pos h]
    have HE := Lib.hid e
    have h1 : (x < y) = True := eq_true h
    clear h e
    go_enter Tryz.func167, Tryz.ntmps167
    go_wp2_with (go_at_call 233; refine (isNaN_any _ _).mono ?_; rintro e w' ⟨rfl, rfl⟩)
    go_ret
    exact ⟨by rw [HE.out]; rfl, rfl⟩
  · subst h
    have e : cmpI x x = 0 := by simp [cmpI]
    have HE := Lib.hid e
    have h1 : (x < x) = False := by simp
    clear e
    go_enter Tryz.func167, Tryz.ntmps167
    go_wp2_with (go_at_call 233; refine (isNaN_any _ _).mono ?_; rintro e w' ⟨rfl, rfl⟩)
    go_ret
    exact ⟨by rw [HE.out]; rfl, rfl⟩
  · have e : cmpI x y = 1 := by unfold cmpI; rw [if_neg (by omega), if_pos h]
    have HE := Lib.hid e
    have h1 : (x < y) = False := by simp; omega
    have h2 : (y < x) = True := eq_true h
    clear h e
    go_enter Tryz.func167, Tryz.ntmps167
    go_wp2_with (go_at_call 233; refine (isNaN_any _ _).mono ?_; rintro e w' ⟨rfl, rfl⟩)
    go_ret
    exact ⟨by rw [HE.out]; rfl, rfl⟩
theorem cmpI_zero {x y : Int} : cmpI x y = 0 ↔ x = y := by
  unfold cmpI
  split
  · simp; omega
  · split
    · simp; omega
    · simp; omega
/-- The first difference of two lists of one length. -/
def cmpE : List Int → List Int → Int
  | x :: l, y :: m => if cmpI x y ≠ 0 then cmpI x y else cmpE l m
  | _, _ => 0
theorem cmpE_at : ∀ {l m : List Int} {k : Nat}, l.length = m.length → k < l.length → (∀ j, j < k → l.getD j 0 = m.getD j 0) → cmpI (l.getD k 0) (m.getD k 0) ≠ 0 → cmpE l m = cmpI (l.getD k 0) (m.getD k 0)
  | [], m, k, _, hk, _, _ => by simp at hk
  | x :: l, [], k, hl, _, _, _ => by simp at hl
  | x :: l, y :: m, 0, hl, _, _, hn => by
    simp only [List.getD_cons_zero] at hn ⊢
    simp [cmpE, hn]
  | x :: l, y :: m, k + 1, hl, hk, h0, hn => by
    have hxy : x = y := by simpa using h0 0 (by omega)
    have ih := cmpE_at (l := l) (m := m) (k := k) (by simpa using hl) (by simpa using hk) (fun j hj => by simpa using h0 (j + 1) (by omega)) (by simpa using hn)
    have hz : cmpI x y = 0 := cmpI_zero.2 hxy
    simp only [List.getD_cons_succ] at hn ⊢
    simp only [cmpE, hz, ne_eq, not_true, if_false]
    exact ih
theorem cmpE_eq : ∀ {l m : List Int}, l.length = m.length → (∀ j, j < l.length → l.getD j 0 = m.getD j 0) → cmpE l m = 0
  | [], m, _, _ => by cases m <;> rfl
  | x :: l, [], hl, _ => by simp at hl
  | x :: l, y :: m, hl, h => by
    have hxy : x = y := by simpa using h 0 (by simp)
    have ih := cmpE_eq (l := l) (m := m) (by simpa using hl) (fun j hj => by simpa using h (j + 1) (by simpa using hj))
    simp [cmpE, cmpI_zero.2 hxy, ih]
theorem rd_int {w : World} {ao : Option Addr} {n cap : Nat} {l : List Int} (h : Rd w 1 (.slice ao n cap) n (icells l)) {k : Nat} (hk : k < n) : ∃ b o, ao = some ⟨b, o, none⟩ ∧ w.cell? ⟨b, o + k, none⟩ = some (.int .i64 (l.getD k 0)) := by
  have hl : l.length = n := by have := h.1; rw [icells_length] at this; omega
  rcases h.2.2 with ⟨_, h'⟩ | ⟨b, o, c, h2, _, _, hx⟩
  · omega
  · cases h2
    exact ⟨b, o, rfl, hx k _ (icells_get l k (by omega))⟩
set_option maxHeartbeats 1000000 in
set_option maxRecDepth 100000 in
theorem cmpS_any {w : World} {u v : Value} {l m : List Int} (hu : Rd w 1 u l.length (icells l)) (hv : Rd w 1 v m.length (icells m)) (hlm : l.length = m.length) (hl : l.length < 9223372036854775807) :
    Calls Tryz.prog 168 #[u, v] w fun e w' => e = .returned (.int .i64 (cmpE l m)) ∧ w = w' := by
  obtain ⟨ao, cap, hue, _⟩ := hu.shape
  obtain ⟨bo, cap2, hve, _⟩ := hv.shape
  subst hue hve
  obtain ⟨n, hn⟩ : ∃ n, n = l.length := ⟨_, rfl⟩
  have hm : m.length = n := by omega
  rw [← hn] at hl hu
  rw [hm] at hv
  have HU := Lib.hid hu; have HV := Lib.hid hv; have HN := Lib.hid hn; have HM := Lib.hid hm
  rw [← hn, hm]
  clear hu hv hn hm hlm
  go_enter Tryz.func168, Tryz.ntmps168
  go_wp2
  go_loopw [11] (fun i wr => ∃ k : Nat, k ≤ n ∧ i = .int .i64 k ∧ w = wr ∧ ∀ i, i < k → l.getD i 0 = m.getD i 0) (fun i _ => n - (intOf i).toNat)
  case atStart => exact ⟨0, Nat.zero_le _, rfl, rfl, fun i h => by omega⟩
  case round =>
    obtain ⟨k, hk, rfl, rfl, h0⟩ := hrel
    have H0 := Lib.hid h0; clear h0
    by_cases hlt : k < n
    · obtain ⟨b, o, hao, ha⟩ := rd_int HU.out hlt
      obtain ⟨b2, o2, hbo, hb⟩ := rd_int HV.out hlt
      subst hao hbo
      obtain ⟨x, hx⟩ : ∃ x, l.getD k 0 = x := ⟨_, rfl⟩
      obtain ⟨y, hy⟩ : ∃ x, m.getD k 0 = x := ⟨_, rfl⟩
      rw [hx] at ha
      rw [hy] at hb
      have HX := Lib.hid hx
      have HY := Lib.hid hy
      clear hx hy
      have hlti : ((k : Int) < (n : Int)) = True := by simp; omega
      have hge : ((n : Int) ≤ (k : Int)) = False := by simp; omega
      obtain ⟨r, hr⟩ : ∃ r, cmpI x y = r := ⟨_, rfl⟩
      have HC : Hid (∀ w, Calls Tryz.prog 167 #[.int .i64 x, .int .i64 y] w fun e w' => e = .returned (.int .i64 r) ∧ w = w') := Lib.hid (fun w => by rw [← hr]; exact cmpI_any x y w)
      by_cases hne : r = 0
      · have hne' : (r != 0) = false := by simp [hne]
        have HXY := Lib.hid (cmpI_zero.1 (hr.trans hne))
        clear hr hne
        go_wp2_with (go_at_call 167; refine (HC.out _).mono ?_; rintro e w' ⟨rfl, rfl⟩)
        go_roundw
        case rel =>
          refine ⟨k + 1, by omega, by go_num, trivial, fun i hi => ?_⟩
          by_cases hij : i = k
          · subst hij; rw [HX.out, HY.out]; exact HXY.out
          · exact H0.out i (by omega)
        case measure => simp [intOf]; omega
      · have hne' : (r != 0) = true := by simp [hne]
        have HR := Lib.hid (show cmpE l m = r by rw [cmpE_at (l := l) (m := m) (k := k) (by rw [← HN.out, HM.out]) (by rw [← HN.out]; exact hlt) H0.out (by rw [HX.out, HY.out, hr]; exact hne), HX.out, HY.out, hr])
        clear hr hne
        go_wp2_with (go_at_call 167; refine (HC.out _).mono ?_; rintro e w' ⟨rfl, rfl⟩)
        go_ret
        exact ⟨by rw [HR.out]; rfl, rfl⟩
    · have hlti : ((k : Int) < (n : Int)) = False := by simp; omega
      have HR := Lib.hid (cmpE_eq (l := l) (m := m) (by rw [← HN.out, HM.out]) fun i hi => H0.out i (by have := HN.out; omega))
      have hnn : ((n : Int) < (n : Int)) = False := by simp
      go_wp2
      go_ret
      exact ⟨by rw [HR.out]; rfl, rfl⟩
/-- cmp.Or at 0 and another number: the other. -/
theorem or_any {w : World} {b : Nat} {r : Int} (h0 : w.cell? ⟨b, 0, none⟩ = some (.int .i64 0)) (h1 : w.cell? ⟨b, 1, none⟩ = some (.int .i64 r)) :
    Calls Tryz.prog 166 #[.slice (some ⟨b, 0, none⟩) 2 2] w fun e w' => e = .returned (.int .i64 r) ∧ w = w' := by
  go_enter Tryz.func166, Tryz.ntmps166
  go_wp2
  go_loopw [8] (fun i wr => (i = .int .i64 0 ∨ i = .int .i64 1 ∨ (i = .int .i64 2 ∧ r = 0)) ∧ w = wr) (fun i _ => 2 - (intOf i).toNat)
  case atStart => exact ⟨.inl rfl, rfl⟩
  case round =>
    obtain ⟨rfl | rfl | ⟨rfl, hr⟩, rfl⟩ := hrel
    · go_wp2
      go_roundw
      case rel => exact ⟨.inr (.inl rfl), trivial⟩
      case measure => simp [intOf]
    · by_cases hr : r = 0
      · have hr' : (r != 0) = false := by simp [hr]
        have HR := Lib.hid hr; clear hr
        go_wp2
        go_roundw
        case rel => exact ⟨.inr (.inr ⟨rfl, HR.out⟩), trivial⟩
        case measure => simp [intOf]
      · have hr' : (r != 0) = true := by simp [hr]
        clear hr
        go_wp2
        go_ret
        exact ⟨rfl, rfl⟩
    · have HR := Lib.hid hr; clear hr
      go_wp2
      go_ret
      exact ⟨by rw [HR.out]; rfl, rfl⟩
end Go.Proofs.YtkkjonkcjlnohaaGreatDoor

/- slices.Min and slices.Max at ints: what comes back is one of the elements. -/
namespace Go.Proofs.YtkkjonkcjlnohaaGreatDoor
set_option linter.unusedSimpArgs false
set_option linter.unusedVariables false
set_option linter.unnecessarySimpa false
open Go.RowKit

def OneOf (w : World) (l : List Int) (e : Ending) (w' : World) : Prop := ∃ r, e = .returned (.int .i64 r) ∧ r ∈ l ∧ w = w'
theorem getD_memI {l : List Int} {k : Nat} (h : k < l.length) : l.getD k 0 ∈ l := by
  have e : l.getD k 0 = l[k] := by simp [List.getD, h]
  rw [e]; exact List.getElem_mem h

set_option maxHeartbeats 800000 in
set_option maxRecDepth 100000 in
theorem minI_any {w : World} {v : Value} {l : List Int} (hv : Rd w 1 v l.length (icells l)) (h1 : 1 ≤ l.length) (hl : l.length < 1000000) : Calls Tryz.prog 86 #[v] w (OneOf w l) := by
  obtain ⟨ao, cap, hve, _⟩ := hv.shape
  subst hve
  obtain ⟨b, o, hao, hc0⟩ := rd_int hv h1
  subst hao
  have hm0 := getD_memI h1
  obtain ⟨x0, hx0⟩ : ∃ x, l.getD 0 0 = x := ⟨_, rfl⟩
  rw [hx0] at hc0 hm0
  have hlt1 : ((l.length : Int) < 1) = False := by simp; omega
  have hlt0 : ((0 : Int) < (l.length : Int)) = True := by simp; omega
  have hc0' : w.cell? ⟨b, o, none⟩ = some (.int .i64 x0) := hc0
  have HV := Lib.hid hv; have H0 := Lib.hid hm0
  clear hv hm0 hx0
  go_enter Tryz.func86, Tryz.ntmps86
  go_wp2
  go_loopw [3, 4] (fun m i wr => ∃ (k : Nat) (r : Int), k ≤ l.length ∧ 1 ≤ k ∧ i = .int .i64 k ∧ m = .int .i64 r ∧ r ∈ l ∧ w = wr) (fun _ i _ => l.length - (intOf i).toNat)
  case atStart => exact ⟨1, x0, h1, Nat.le_refl _, rfl, rfl, H0.out, rfl⟩
  case round =>
    obtain ⟨k, r, hk, hk1, rfl, rfl, hr, rfl⟩ := hrel
    have HR := Lib.hid hr; clear hr
    by_cases hlt : k < l.length
    · obtain ⟨b', o', hao, hc⟩ := rd_int HV.out hlt
      cases hao
      have hm := getD_memI hlt
      obtain ⟨x, hx⟩ : ∃ x, l.getD k 0 = x := ⟨_, rfl⟩
      rw [hx] at hc hm
      have HM := Lib.hid hm; clear hm hx
      have hlti : ((k : Int) < (l.length : Int)) = True := by simp; omega
      rcases Int.lt_trichotomy r x with h | h | h
      · have h2 : (r < x) = True := eq_true h
        have h3 : (x < r) = False := eq_false (by omega)
        have h4 : (r ≤ x) = True := eq_true (by omega)
        have h5 : (x ≤ r) = False := eq_false (by omega)
        clear h
        go_wp2
        go_roundw
        case rel => exact ⟨k + 1, _, by omega, by omega, by go_num, rfl, by first | exact HR.out | exact HM.out, by first | rfl | trivial⟩
        case measure => simp [intOf]; omega
      · subst h
        have h2 : (r < r) = False := by simp
        have h4 : (r ≤ r) = True := by simp
        go_wp2
        go_roundw
        case rel => exact ⟨k + 1, _, by omega, by omega, by go_num, rfl, by first | exact HR.out | (simp only [Int.min_def, Int.max_def, h4, if_true]; exact HR.out), by first | rfl | trivial⟩
        case measure => simp [intOf]; omega
      · have h2 : (x < r) = True := eq_true h
        have h3 : (r < x) = False := eq_false (by omega)
        have h4 : (x ≤ r) = True := eq_true (by omega)
        have h5 : (r ≤ x) = False := eq_false (by omega)
        clear h
        go_wp2
        go_roundw
        case rel => exact ⟨k + 1, _, by omega, by omega, by go_num, rfl, by first | exact HR.out | exact HM.out, by first | rfl | trivial⟩
        case measure => simp [intOf]; omega
    · have hlti : ((k : Int) < (l.length : Int)) = False := by simp; omega
      go_wp2
      go_ret
      exact ⟨r, rfl, HR.out, by first | rfl | trivial⟩

set_option maxHeartbeats 800000 in
set_option maxRecDepth 100000 in
theorem maxI_any {w : World} {v : Value} {l : List Int} (hv : Rd w 1 v l.length (icells l)) (h1 : 1 ≤ l.length) (hl : l.length < 1000000) : Calls Tryz.prog 87 #[v] w (OneOf w l) := by
  obtain ⟨ao, cap, hve, _⟩ := hv.shape
  subst hve
  obtain ⟨b, o, hao, hc0⟩ := rd_int hv h1
  subst hao
  have hm0 := getD_memI h1
  obtain ⟨x0, hx0⟩ : ∃ x, l.getD 0 0 = x := ⟨_, rfl⟩
  rw [hx0] at hc0 hm0
  have hlt1 : ((l.length : Int) < 1) = False := by simp; omega
  have hlt0 : ((0 : Int) < (l.length : Int)) = True := by simp; omega
  have hc0' : w.cell? ⟨b, o, none⟩ = some (.int .i64 x0) := hc0
  have HV := Lib.hid hv; have H0 := Lib.hid hm0
  clear hv hm0 hx0
  go_enter Tryz.func87, Tryz.ntmps87
  go_wp2
  go_loopw [3, 4] (fun m i wr => ∃ (k : Nat) (r : Int), k ≤ l.length ∧ 1 ≤ k ∧ i = .int .i64 k ∧ m = .int .i64 r ∧ r ∈ l ∧ w = wr) (fun _ i _ => l.length - (intOf i).toNat)
  case atStart => exact ⟨1, x0, h1, Nat.le_refl _, rfl, rfl, H0.out, rfl⟩
  case round =>
    obtain ⟨k, r, hk, hk1, rfl, rfl, hr, rfl⟩ := hrel
    have HR := Lib.hid hr; clear hr
    by_cases hlt : k < l.length
    · obtain ⟨b', o', hao, hc⟩ := rd_int HV.out hlt
      cases hao
      have hm := getD_memI hlt
      obtain ⟨x, hx⟩ : ∃ x, l.getD k 0 = x := ⟨_, rfl⟩
      rw [hx] at hc hm
      have HM := Lib.hid hm; clear hm hx
      have hlti : ((k : Int) < (l.length : Int)) = True := by simp; omega
      rcases Int.lt_trichotomy r x with h | h | h
      · have h2 : (r < x) = True := eq_true h
        have h3 : (x < r) = False := eq_false (by omega)
        have h4 : (r ≤ x) = True := eq_true (by omega)
        have h5 : (x ≤ r) = False := eq_false (by omega)
        clear h
        go_wp2
        go_roundw
        case rel => exact ⟨k + 1, _, by omega, by omega, by go_num, rfl, by first | exact HR.out | exact HM.out, by first | rfl | trivial⟩
        case measure => simp [intOf]; omega
      · subst h
        have h2 : (r < r) = False := by simp
        have h4 : (r ≤ r) = True := by simp
        go_wp2
        go_roundw
        case rel => exact ⟨k + 1, _, by omega, by omega, by go_num, rfl, by first | exact HR.out | (simp only [Int.min_def, Int.max_def, h4, if_true]; exact HR.out), by first | rfl | trivial⟩
        case measure => simp [intOf]; omega
      · have h2 : (x < r) = True := eq_true h
        have h3 : (r < x) = False := eq_false (by omega)
        have h4 : (x ≤ r) = True := eq_true (by omega)
        have h5 : (r ≤ x) = False := eq_false (by omega)
        clear h
        go_wp2
        go_roundw
        case rel => exact ⟨k + 1, _, by omega, by omega, by go_num, rfl, by first | exact HR.out | exact HM.out, by first | rfl | trivial⟩
        case measure => simp [intOf]; omega
    · have hlti : ((k : Int) < (l.length : Int)) = False := by simp; omega
      go_wp2
      go_ret
      exact ⟨r, rfl, HR.out, by first | rfl | trivial⟩
end Go.Proofs.YtkkjonkcjlnohaaGreatDoor
