/- The laws' own disks, path, graph, and awake: a new house takes a lot. -/
import Derived.Test.YthdkamnclbfehaaGreatDoorBytes6
import Derived.Test.YthdkamnclbfehaaGreatDoorBytes4
import Derived.Test.YthdkamnclbfehaaGreatDoorBytes5

/- The laws' own disks, path, graph, and awake: a new house takes a lot. -/
namespace Go.Proofs.YthdkamnclbfehaaGreatDoor
set_option linter.unusedSimpArgs false
set_option linter.unusedVariables false
set_option linter.unnecessarySimpa false
open Go.RowKit

def DisksPost (base : Nat) (w : World) (n : Int) (e : Ending) (w' : World) : Prop :=
  Keep (fun _ => False) w w' ∧
  (1 ≤ n ∧ n ≤ 1000000 → ∃ d x, e = .returned (.tuple #[.pointer (some ⟨d, 0, none⟩), .pointer (some ⟨x, 0, none⟩), .bool true]) ∧ DiskAt base w' d (newD n.toNat) (.slice none 0 0) ∧ RDiskAt base w' x (newD n.toNat) (.slice none 0 0) ∧ w.heap.size ≤ d ∧ w.heap.size ≤ x ∧ d ≠ x) ∧
  (¬ (1 ≤ n ∧ n ≤ 1000000) → e = .returned (.tuple #[.pointer none, .pointer none, .bool true]))
theorem disks_any {base : Nat} {w : World} (n : Int) (hb : base ≤ w.heap.size) : Calls Tryz.prog 12 #[.int .i64 n] w (DisksPost base w n) := by
  have h1 := newDisk_any (base := base) (w := w) n hb
  unfold NewPost at h1
  by_cases hn : 1 ≤ n ∧ n ≤ 1000000
  · have hn2 : ¬ (n < 1 ∨ 1000000 < n) := by omega
    simp only [if_neg hn2] at h1
    have H1 := Lib.hid h1; clear h1
    have HN := Lib.hid hn
    go_enter Tryz.func12, Tryz.ntmps12
    go_wp2_with (first
      | (go_at_call 42; refine H1.out.mono ?_; rintro e w1 ⟨rfl, hk1, hd1⟩; have HK1 := Lib.hid hk1; have HD1 := Lib.hid (hd1 HN.out.1 HN.out.2); clear hk1 hd1)
      | (go_at_call 43; have hh := rnewDisk_any (base := base) (w := w1) n (Nat.le_trans hb HK1.out.size); unfold RNewPost at hh; simp only [if_neg hn2] at hh; refine Calls.mono hh ?_; clear hh; rintro e w2 ⟨rfl, hk2, hd2⟩; have HK2 := Lib.hid hk2; have HD2 := Lib.hid (hd2 HN.out.1 HN.out.2); clear hk2 hd2))
    go_ret3
    have hz1 := HK1.out.size
    refine ⟨HK1.out.trans HK2.out (fun _ _ h => h), fun _ => ⟨w.heap.size, w1.heap.size, rfl, HD1.out.2.keep HK2.out (fun h => h) (fun _ _ h => h), HD2.out.2, Nat.le_refl _, hz1, by have := HD1.out.1; omega⟩, fun h => absurd HN.out h⟩
  · have hn2 : n < 1 ∨ 1000000 < n := by omega
    simp only [if_pos hn2] at h1
    have H1 := Lib.hid h1; clear h1
    have HN := Lib.hid hn
    have HN2 := Lib.hid hn2; clear hn hn2
    go_enter Tryz.func12, Tryz.ntmps12
    go_wp2_with (first
      | (go_at_call 42; refine H1.out.mono ?_; rintro e w1 ⟨rfl, hk1, hd1⟩; have HK1 := Lib.hid hk1; clear hk1 hd1)
      | (go_at_call 43; have hh := rnewDisk_any (base := base) (w := w1) n (Nat.le_trans hb HK1.out.size); unfold RNewPost at hh; simp only [if_pos HN2.out] at hh; refine Calls.mono hh ?_; clear hh; rintro e w2 ⟨rfl, hk2, hd2⟩; have HK2 := Lib.hid hk2; clear hk2 hd2))
    go_ret3
    exact ⟨HK1.out.trans HK2.out (fun _ _ h => h), fun h => absurd h HN.out, fun _ => rfl⟩

def pathG : List Int := [2, 5, 10, 20, 40, 80, 160, 64]
theorem path_any {w : World} : Calls Tryz.prog 44 #[] w fun e w' => e = .returned (.slice (some ⟨w.heap.size, 0, none⟩) 8 8) ∧ w' = w.alloc (.cells (icells pathG).toArray 3) := by
  go_enter Tryz.func44, Tryz.ntmps44
  go_wp2
  go_ret
  exact ⟨rfl, rfl⟩
theorem Rd.takeN {w : World} {ao : Option Addr} {n c : Nat} {xs : List Value} (h : Rd w 1 (.slice ao n c) n xs) (k : Nat) (hk : k ≤ n) : Rd w 1 (.slice ao k c) k (xs.take k) := by
  refine ⟨by have := h.1; rw [List.length_take]; omega, fun u hu => h.2.1 u (List.mem_of_mem_take hu), ?_⟩
  rcases h.2.2 with ⟨e, h0⟩ | ⟨b, o, c', e, h1, h2, hx⟩
  · injection e with e1 e2 e3
    subst e1 e3
    have : k = 0 := by omega
    subst this
    exact .inl ⟨rfl, rfl⟩
  · injection e with e1 e2 e3
    subst e1 e3
    refine .inr ⟨b, o, c, rfl, by omega, h2, fun j u hu => hx j u ?_⟩
    rw [List.getElem?_take] at hu
    split at hu
    · exact hu
    · cases hu
theorem graph_any {w : World} {v : Value} {g : List Int} (hv : Rd w 1 v g.length (icells g)) (hl : g.length ≤ 9223372036854775807) : Calls Tryz.prog 25 #[v] w (ClonePost w 3 1 (g.take 10).length (icells (g.take 10))) := by
  obtain ⟨ao, cap, hve, hlc, _⟩ := hv.shape
  subst hve
  have hm : (min (g.length : Int) 10).toNat = (g.take 10).length := by rw [List.length_take]; omega
  have hr := hv.takeN (g.take 10).length (by rw [List.length_take]; omega)
  have ht : (icells g).take (g.take 10).length = icells (g.take 10) := by
    rw [List.length_take]
    by_cases h : g.length ≤ 10
    · rw [List.take_of_length_le h, List.take_of_length_le (by rw [icells_length]; omega)]
    · rw [show min 10 g.length = 10 by omega]
      simp [icells, List.map_take]
  rw [ht] at hr
  have HC := Lib.hid (clone57 hr (by rw [List.length_take]; omega))
  have HM := Lib.hid hm
  clear hv ht hr hm
  have h0 : (0 : Int) ≤ min (g.length : Int) 10 := by omega
  have h1 : min (g.length : Int) 10 ≤ (cap : Int) := by omega
  go_enter Tryz.func25, Tryz.ntmps25
  go_wp2_with (go_at_call 57; rw [HM.out]; refine HC.out.mono ?_; rintro e w1 ⟨v', rfl, ho1, hk1⟩; have HO1 := Lib.hid ho1; have HK1 := Lib.hid hk1; clear ho1 hk1)
  go_ret
  exact ⟨_, rfl, HO1.out, HK1.out⟩

/-- The line that awake has done, read. -/
theorem form_mace : formF (bs [116, 97, 107, 101, 32, 109, 97, 99, 101, 32, 53]) = some ([115, 100], 255, ⟨[5], bs [109, 97, 99, 101], true⟩) := by kernel_rfl
theorem form_empty : formF (bs []) = none := by kernel_rfl
theorem bays_path : baysB pathG = true := by decide +kernel

def F0 (f : Nat) (S : St) (a : FA) : Res := if f = 255 then takeF S a else ⟨1, S, bs []⟩
theorem enters255 : Enters 255 := enters_of Tryz.func255 (by kernel_rfl) rfl
theorem size_zero {s : ByteArray} (h : s.size ≤ 0) : s = bs [] := ByteArray.ext (Array.eq_empty_of_size_eq_zero (Nat.le_zero.1 h))
theorem run_mace : RunOK F0 (S0 pathG) (bs [116, 97, 107, 101, 32, 109, 97, 99, 101, 32, 53]) := by
  intro so f a hf hok
  rw [form_mace] at hf
  simp only [Option.some.injEq, Prod.mk.injEq] at hf
  obtain ⟨_, rfl, rfl⟩ := hf
  refine ⟨enters255, fun base w V vn hG h ha => ?_⟩
  exact take_any hG h (by simp [S0]) ha rfl
def openE : OpenR := ⟨0, newD 100, S0 pathG, []⟩
theorem sys_empty : Sys F0 (fun _ S => S = S0 pathG) 0 0 := by
  refine ⟨fun k S line hk hS hl => ?_, fun k S hk hS => ?_, fun k S line hk hS hl he => ?_⟩
  · intro so f a hf
    have : line = bs [] := size_zero hl
    rw [this, form_empty] at hf; cases hf
  · rw [hS]; exact ⟨by simp [S0], by simp [S0], by simp [S0], by simp [S0]⟩
  · have : line = bs [] := size_zero hl
    rw [this] at he
    unfold doF at he
    rw [form_empty] at he; cases he
theorem open_path : openF F0 (newD 100) pathG = openE := by kernel_rfl
theorem do_mace : hdoF F0 (newD 100) (S0 pathG) [] false (bs [116, 97, 107, 101, 32, 109, 97, 99, 101, 32, 53]) =
    ⟨0, bs [116, 97, 107, 101, 32, 49], { newD 100 with bytes := [116, 97, 107, 101, 32, 109, 97, 99, 101, 32, 53, 10], safe := 12 }, addS (S0 pathG) ⟨bs [109, 97, 99, 101], 5, -1, false⟩, [bs [116, 97, 107, 101, 32, 109, 97, 99, 101, 32, 53]], false⟩ := by kernel_rfl

set_option maxRecDepth 100000 in
theorem awake_any {w : World} (hG : Glob w) : Calls Tryz.prog 13 #[] w (IdxPost w (.bool true)) := by
  have h12 := disks_any (base := w.heap.size) (w := w) 100 (Nat.le_refl _)
  have HG := Lib.hid hG; clear hG
  have H12 := Lib.hid h12; clear h12
  go_enter Tryz.func13, Tryz.ntmps13
  go_wp2_with (first
    | (go_at_call 12; refine H12.out.mono ?_; rintro e w1 ⟨hk1, hd1, _⟩; obtain ⟨d, x, rfl, hd, hx, hdd, _, _⟩ := hd1 (by omega); have HK1 := Lib.hid hk1; have HD := Lib.hid (show DiskAt w.heap.size w1 d (newD 100) (.slice none 0 0) from hd); have HDD := Lib.hid hdd; clear hk1 hd1 hd hx hdd)
    | (go_at_call 44; refine path_any.mono ?_; rintro e w2 ⟨rfl, rfl⟩; have hr := Rd.new w1 1 8 (icells pathG) 3 rfl (icells_one _) (by unfold maxLen; omega); have HR := Lib.hid hr; clear hr)
    | (go_at_call 25; have hh := graph_any (g := pathG) HR.out (by decide); refine Calls.mono hh ?_; clear hh; rintro e w3 ⟨gv, rfl, ho3, hk3⟩; have HO3 := Lib.hid ho3; have HK3 := Lib.hid (((HK1.out.alloc (.cells (icells pathG).toArray 3)).trans hk3 (fun _ _ h => h))); have HK13 := Lib.hid ((((Keep.refl (fun _ => False) w1).alloc (.cells (icells pathG).toArray 3)).trans hk3 (fun _ _ h => h))); clear ho3 hk3)
    | (go_at_call 24; have hh := open_any (F := F0) (I := fun _ S => S = S0 pathG) (g := pathG) (HG.out.keep HK3.out) (HD.out.keep HK13.out (fun h => h) (fun _ _ h => h)) (ownsRow_rd HO3.out (icells_one _)) (by decide) (fun k e => (ownsRow_lt HO3.out k e).2) HK3.out.size (fun _ => rfl) sys_empty; rw [open_path] at hh; refine Calls.mono hh ?_; clear hh; rintro e w4 ⟨v4, hd4, hf4, hk4, _, hok4⟩; obtain ⟨H, rfl, hHd, hHv, hh4, hfp4, hbb4, hvl4⟩ := hok4 rfl; have HH := Lib.hid hh4; have HK4 := Lib.hid (HK3.out.trans (hk4.mono (T := fun k => w.heap.size ≤ k) (fun k _ e => e.elim (fun e => e ▸ HDD.out) (fun e => by cases e))) (fun k hk e => by omega)); have HTP : Hid (∀ k, H.tp k → w.heap.size ≤ k) := Lib.hid (fun k hk => by
        have hz := HK3.out.size
        rcases hk with e | e | e | e
        · omega
        · rw [e, hHd]; exact HDD.out
        · rw [hHv] at e
          rcases hf4 with h1 | ⟨g, h1, h2⟩
          · rw [h1] at e; cases e
          · have h3 : g = k := Option.some.inj (h1.symm.trans e)
            omega
        · have := hvl4 k e; omega); clear hd4 hf4 hk4 hok4 hHd hHv hh4 hfp4 hbb4 hvl4)
    | (go_at_call 20; have hh := hdo_any (F := F0) (s := bs [116, 97, 107, 101, 32, 109, 97, 99, 101, 32, 53]) ((GW.start HG.out).keep HK4.out (fun i hi e => by omega)).glob HK4.out.size HH.out ⟨by simp [openE, S0], by simp [openE, S0], by simp [openE, S0], by simp [openE, S0]⟩ (by simp [openE]) (by decide) run_mace; rw [show hdoF F0 openE.D openE.st openE.ls false (bs [116, 97, 107, 101, 32, 109, 97, 99, 101, 32, 53]) = _ from do_mace] at hh; refine Calls.mono hh ?_; clear hh; rintro e w5 ⟨H', rfl, _, hc5⟩; have HC5 := Lib.hid hc5; clear hc5))
  go_ret
  refine ⟨?_, (HK4.out.mono (T := fun k => w.heap.size ≤ k) (fun _ _ e => e.elim)).trans HC5.out.keep (fun k _ e => HTP.out k e) |>.mono (fun k hk e => by omega)⟩
  show Ending.returned (.bool ((bs [116, 97, 107, 101, 32, 49]).toList == [116, 97, 107, 101, 32, 49])) = _
  rw [beq_iff_eq.2 ((toList_bs _ _).2 rfl)]
end Go.Proofs.YthdkamnclbfehaaGreatDoor

/- house.state.test. -/
namespace Go.Proofs.YthdkamnclbfehaaGreatDoor
set_option linter.unusedSimpArgs false
set_option linter.unusedVariables false
set_option linter.unnecessarySimpa false
open Go.RowKit

def testNote (x : Int) (word : ByteArray) : ByteArray := ((bs [116, 101, 115, 116, 32] ++ itoaB x) ++ bs [32]) ++ word
def testS (S : St) (x g : Int) (word : ByteArray) : St := { S with tests := S.tests ++ [(x, g)], notes := S.notes ++ [testNote x word] }
def testF (S : St) (a : FA) : Res :=
  if hasLot S (a.n.getD 0 0) then (if a.word = goodB then ⟨0, testS S (a.n.getD 0 0) 1 a.word, bs [116, 101, 115, 116]⟩ else ⟨0, testS S (a.n.getD 0 0) 0 a.word, bs [116, 101, 115, 116]⟩) else ⟨5, S, bs []⟩

set_option maxHeartbeats 4000000 in
set_option maxRecDepth 100000 in
theorem test_any {base : Nat} {w : World} {V : StV} {S : St} {vn : Value} {a : FA} (hG : GW base w) (h : OSt base w V S) (hl : S.small) (ha : Args base w vn a) (hn : a.n.length = 1) (hbx : ∀ x ∈ a.n, i64b x) (hwz : a.word.size ≤ 1000) :
    Calls Tryz.prog 259 #[.pointer (some ⟨V.b, 0, none⟩), .agg #[vn, .string a.word]] w (RunPost base w V (testF S a)) := by
  obtain ⟨nb, no, nc, rfl, hnc, hC⟩ := args_open h ha (by omega)
  obtain ⟨x, hx⟩ : ∃ x, a.n = [x] := List.length_eq_one_iff.1 hn
  obtain ⟨an, word, aok⟩ := a
  simp only at hx hn hnc hC hbx hwz
  subst hx
  have hxb := hbx x (by simp)
  obtain ⟨b, vb, vl, vc, vt, vn⟩ := V
  obtain ⟨too, tc, hvt, htc, _⟩ := ownsRow_shape h.ot
  simp only at hvt
  subst hvt
  obtain ⟨no', nc', hvn, hnc', _⟩ := ownsRow_shape h.on
  simp only at hvn
  subst hvn
  change Calls Tryz.prog 259 #[.pointer (some ⟨b, 0, none⟩), .agg #[.slice (some ⟨nb, no, none⟩) 1 nc, .string word]] w (RunPost base w ⟨b, vb, vl, vc, .slice too S.tests.length tc, .slice no' S.notes.length nc'⟩ (testF S ⟨[x], word, aok⟩))
  obtain ⟨w0, hw0⟩ : ∃ w0, w0 = w.alloc (.cells #[.slice (some ⟨nb, no, none⟩) 1 nc, .string word] 134) := ⟨_, rfl⟩
  have HC : Hid (∀ W, Keep (fun k => base ≤ k ∧ StV.fp ⟨b, vb, vl, vc, .slice too S.tests.length tc, .slice no' S.notes.length nc'⟩ k) w0 W → W.cell? ⟨w.heap.size, 0, none⟩ = some (.slice (some ⟨nb, no, none⟩) 1 nc) ∧ W.cell? ⟨w.heap.size, 1, none⟩ = some (.string word) ∧ W.cell? ⟨nb, no, none⟩ = some (.int .i64 x)) := Lib.hid fun W hk => by
    rw [hw0] at hk
    obtain ⟨h1, h2, h3⟩ := hC W hk
    exact ⟨h1, h2, h3 0 (by simp)⟩
  obtain ⟨b0, b1, b2⟩ := HC.out w0 (Keep.refl _ _)
  rw [hw0] at b0 b1 b2
  have hnc1 : 1 ≤ nc := hnc
  have hk0 : Keep (fun _ => False) w w0 := by rw [hw0]; exact (Keep.refl _ _).alloc _
  have h0 := h.keep hk0 (fun _ _ h => h)
  have hz0 : w0.heap.size = w.heap.size + 1 := by rw [hw0]; simp
  have hrd := Rd.new w0 1 1 (icells [x]) 3 rfl (icells_one _) (by unfold maxLen; omega)
  have hth := there_any (l := [x]) ((h0.keep ((Keep.refl (fun _ => False) w0).alloc (.cells (icells [x]).toArray 3)) (fun _ _ h => h)).at (by have := h0.lt; simp; omega)) hl.l hrd (by simp)
  rw [hz0, show allLots S [x] = hasLot S x by simp [allLots]] at hth
  have si := itoaB_size x hxb.1 hxb.2
  have st1 : (9223372036854775807 < 5 + (itoaB x).size) = False := eq_false (by omega)
  have st2 : (9223372036854775807 < 5 + (itoaB x).size + 1) = False := eq_false (by omega)
  have st3 : (9223372036854775807 < 5 + (itoaB x).size + 1 + word.size) = False := eq_false (by omega)
  have hlt := hl.t
  have hln := hl.n
  have HX := Lib.hid hxb; clear hxb hbx
  have H0 := Lib.hid h0; clear h0
  have HV := Lib.hid h; clear h
  have HK0 := Lib.hid hk0; clear hk0
  have HW0 := Lib.hid hw0; clear hw0
  clear hC ha hnc hn hl hrd hz0
  cases hb : hasLot S x with
  | false =>
    have HF := Lib.hid (show testF S ⟨[x], word, aok⟩ = ⟨5, S, bs []⟩ by unfold testF; simp only [List.getD_cons_zero]; rw [hb]; rfl)
    rw [hb] at hth
    have HTH := Lib.hid hth; clear hth hb
    go_enter Tryz.func259, Tryz.ntmps259
    go_wp2_with (go_at_call 262; rw [← HW0.out]; refine HTH.out.mono ?_; rintro e w1 ⟨rfl, hk1⟩; have HK1 := Lib.hid hk1; clear hk1)
    go_ret2
    exact ⟨by rw [HF.out]; rfl, _, (fun e => by rw [HF.out] at e; cases e), (Chg.refl base w _).after ((HK0.out.alloc (.cells #[.int .i64 x] 3)).trans HK1.out (fun _ _ h => h))⟩
  | true =>
    rw [hb] at hth
    have HTH := Lib.hid hth; clear hth
    by_cases hwd : word = goodB
    · have HF := Lib.hid (show testF S ⟨[x], word, aok⟩ = ⟨0, testS S x 1 word, bs [116, 101, 115, 116]⟩ by unfold testF; simp only [List.getD_cons_zero]; rw [hb, if_pos rfl, if_pos hwd])
      have hgl : (word.toList = [103, 111, 111, 100]) = True := eq_true ((toList_bs _ _).2 hwd)
      have hgb : (word.toList == [103, 111, 111, 100]) = true := beq_iff_eq.2 ((toList_bs _ _).2 hwd)
      obtain ⟨gd, hgd⟩ : ∃ gd : Int, gd = 1 := ⟨_, rfl⟩
      rw [show testS S x 1 word = testS S x gd word by rw [hgd]] at HF
      have HGD := Lib.hid hgd; clear hgd
      clear hb hwd
      go_enter Tryz.func259, Tryz.ntmps259
      go_wp2_with (go_at_call 262; rw [← HW0.out]; refine HTH.out.mono ?_; rintro e w1 ⟨rfl, hk1⟩; have HK01 := Lib.hid (((Keep.refl (fun _ => False) w0).alloc (.cells #[.int .i64 x] 3)).trans hk1 (fun _ _ h => h)); obtain ⟨a0, a1, a2⟩ := HC.out w1 (HK01.out.mono (fun _ _ h => h.elim)); clear hk1)
      have h1 := H0.out.keep HK01.out (fun _ _ h => h)
      have d3 := h1.blk.cell 3
      have hlt3 := h1.blk.lt
      simp [StV.cells] at d3 hlt3
      have H1 := Lib.hid h1; clear h1
      obtain ⟨w2, hw2⟩ : ∃ w2, w2 = w1.alloc (.cells #[.int .i64 x, .int .i64 gd] 176) := ⟨_, rfl⟩
      have hk12 : Keep (fun _ => False) w1 w2 := by rw [hw2]; exact (Keep.refl _ _).alloc _
      have HK12 := Lib.hid hk12; clear hk12
      have HST : Hid (Src Tryz.prog 2 71 (.slice (some ⟨w1.heap.size, 0, none⟩) 1 1) 1 (pairCell (x, gd)) w2.drew) := Lib.hid (by
        have := Rd.new w1 2 1 (pairCell (x, gd)) 176 rfl (by simp [pairCell, Value.oneCell']) (by unfold maxLen; omega)
        rw [hw2]; exact this.drew.src Tryz.underlying71)
      have HOT : Hid (w2.drew.ownsRow base 176 2 (.slice too S.tests.length tc) S.tests.length (pairCells S.tests)) := Lib.hid (ownsRow_keep H1.out.ot HK12.out.drew (fun _ _ h => h))
      rw [HGD.out] at hw2
      have HW2 := Lib.hid hw2; clear hw2
      have HKR : Hid (Keep (fun k => base ≤ k ∧ StV.fp ⟨b, vb, vl, vc, .slice too S.tests.length tc, .slice no' S.notes.length nc'⟩ k) w0 w1) := Lib.hid (HK01.out.mono (fun _ _ h => h.elim))
      refine wp_region_noPanic ?_
      refine wp_region_held_drew (S := fun W => W.cell? ⟨w.heap.size, 0, none⟩ = some (.slice (some ⟨nb, no, none⟩) 1 nc) ∧ W.cell? ⟨w.heap.size, 1, none⟩ = some (.string word) ∧ W.cell? ⟨nb, no, none⟩ = some (.int .i64 x)) (by kernel_rfl) (HC.out _ HKR.out.drew) (fun hHeld => ?_)
      refine wpAnyH_take (i := 0) (oi := _) (v := ?_) rfl (by kernel_rfl) (by kernel_rfl) (by kernel_rfl) (fun _ _ _ h => h) (Or.inl ⟨by rfl, ?_⟩) (by assumption) ?_
      rotate_left
      · (intro w hSw; (try dsimp only at hSw); go_simp) <;> with_reducible rfl
      (try simp only [List.getElem_toArray, List.getElem_cons_zero, List.getElem_cons_succ, Act.put, List.setIfInBounds_toArray, List.set_cons_zero, List.set_cons_succ])
      refine wpAnyH_take (i := 1) (oi := _) (v := ?_) rfl (by kernel_rfl) (by kernel_rfl) (by kernel_rfl) (fun _ _ _ h => h) (Or.inl ⟨by rfl, ?_⟩) (by assumption) ?_
      rotate_left
      · (intro w hSw; (try dsimp only at hSw); go_simp) <;> with_reducible rfl
      (try simp only [List.getElem_toArray, List.getElem_cons_zero, List.getElem_cons_succ, Act.put, List.setIfInBounds_toArray, List.set_cons_zero, List.set_cons_succ])
      refine wpAnyH_take (i := 2) (oi := _) (v := ?_) rfl (by kernel_rfl) (by kernel_rfl) (by kernel_rfl) (fun _ _ _ h => h) (Or.inl ⟨by rfl, ?_⟩) (by assumption) ?_
      rotate_left
      · (intro w hSw; (try dsimp only at hSw); go_simp) <;> with_reducible rfl
      (try simp only [List.getElem_toArray, List.getElem_cons_zero, List.getElem_cons_succ, Act.put, List.setIfInBounds_toArray, List.set_cons_zero, List.set_cons_succ])
      refine wpAnyH_take (i := 3) (oi := _) (v := ?_) rfl (by kernel_rfl) (by kernel_rfl) (by kernel_rfl) (fun _ _ _ h => h) (Or.inl ⟨by rfl, ?_⟩) (by assumption) ?_
      rotate_left
      · (intro w hSw; (try dsimp only at hSw); go_simp) <;> with_reducible rfl
      (try simp only [List.getElem_toArray, List.getElem_cons_zero, List.getElem_cons_succ, Act.put, List.setIfInBounds_toArray, List.set_cons_zero, List.set_cons_succ])
      refine wpAnyH_take (i := 5) (oi := _) (v := ?_) rfl (by kernel_rfl) (by kernel_rfl) (by kernel_rfl) (fun _ _ _ h => h) (Or.inl ⟨by rfl, ?_⟩) (by assumption) ?_
      rotate_left
      · (intro w hSw; (try dsimp only at hSw); go_simp) <;> with_reducible rfl
      (try simp only [List.getElem_toArray, List.getElem_cons_zero, List.getElem_cons_succ, Act.put, List.setIfInBounds_toArray, List.set_cons_zero, List.set_cons_succ])
      refine wpAnyH_take (i := 6) (oi := _) (v := ?_) rfl (by kernel_rfl) (by kernel_rfl) (by kernel_rfl) (fun _ _ _ h => h) (Or.inl ⟨by rfl, ?_⟩) (by assumption) ?_
      rotate_left
      · (intro w hSw; (try dsimp only at hSw); go_simp) <;> with_reducible rfl
      (try simp only [List.getElem_toArray, List.getElem_cons_zero, List.getElem_cons_succ, Act.put, List.setIfInBounds_toArray, List.set_cons_zero, List.set_cons_succ])
      refine wpAnyH_take (i := 7) (oi := _) (v := ?_) rfl (by kernel_rfl) (by kernel_rfl) (by kernel_rfl) (fun _ _ _ h => h) (Or.inl ⟨by rfl, ?_⟩) (by assumption) ?_
      rotate_left
      · (intro w hSw; (try dsimp only at hSw); go_simp) <;> with_reducible rfl
      (try simp only [List.getElem_toArray, List.getElem_cons_zero, List.getElem_cons_succ, Act.put, List.setIfInBounds_toArray, List.set_cons_zero, List.set_cons_succ])
      refine wpAnyH_take (i := 8) (oi := _) (v := ?_) rfl (by kernel_rfl) (by kernel_rfl) (by kernel_rfl) (fun _ _ _ h => h) (Or.inl ⟨by rfl, ?_⟩) (by assumption) ?_
      rotate_left
      · (intro w hSw; (try dsimp only at hSw); go_simp) <;> with_reducible rfl
      (try simp only [List.getElem_toArray, List.getElem_cons_zero, List.getElem_cons_succ, Act.put, List.setIfInBounds_toArray, List.set_cons_zero, List.set_cons_succ])
      refine wpAnyH_take (i := 9) (oi := _) (v := ?_) rfl (by kernel_rfl) (by kernel_rfl) (by kernel_rfl) (fun _ _ _ h => h) (Or.inl ⟨by rfl, ?_⟩) (by assumption) ?_
      rotate_left
      · (intro w hSw; (try dsimp only at hSw); go_simp) <;> with_reducible rfl
      (try simp only [List.getElem_toArray, List.getElem_cons_zero, List.getElem_cons_succ, Act.put, List.setIfInBounds_toArray, List.set_cons_zero, List.set_cons_succ])
      refine wpAnyH_take (i := 10) (oi := _) (v := ?_) rfl (by kernel_rfl) (by kernel_rfl) (by kernel_rfl) (fun _ _ _ h => h) (Or.inl ⟨by rfl, ?_⟩) (by assumption) ?_
      rotate_left
      · (intro w hSw; (try dsimp only at hSw); go_simp) <;> with_reducible rfl
      (try simp only [List.getElem_toArray, List.getElem_cons_zero, List.getElem_cons_succ, Act.put, List.setIfInBounds_toArray, List.set_cons_zero, List.set_cons_succ])
      refine wpAnyH_ready (rs := [4, 11]) (by kernel_rfl) (by simp) ?_
      refine AllReadyH.cons (o := _) rfl (fun K hK => ?_) (AllReadyH.cons (o := _) rfl (fun K hK => ?_) AllReadyH.nil)
      · go_simp
        refine hK.out _ _ ?_ (fun hHeld => ?_)
        · ((try dsimp only); refine HC.out _ ?_; repeat (first | exact HKR.out | apply Keep.drew | apply Keep.alloc | refine Keep.setCell ?_ _ _ (fun _ => ⟨HV.out.ge, .inl rfl⟩)))
        clear hK K
        (try simp only [List.getElem_toArray, List.getElem_cons_zero, List.getElem_cons_succ, Act.put, List.setIfInBounds_toArray, List.set_cons_zero, List.set_cons_succ])
        refine wpAnyH_ready (rs := [11]) (by kernel_rfl) (by simp) ?_
        refine AllReadyH.cons (o := _) rfl (fun K hK => ?_) AllReadyH.nil
        go_simp
        refine hK.out _ _ ?_ (fun hHeld => ?_)
        · ((try dsimp only); refine HC.out _ ?_; repeat (first | exact HKR.out | apply Keep.drew | apply Keep.alloc | refine Keep.setCell ?_ _ _ (fun _ => ⟨HV.out.ge, .inl rfl⟩)))
        clear hK K
        (try simp only [List.getElem_toArray, List.getElem_cons_zero, List.getElem_cons_succ, Act.put, List.setIfInBounds_toArray, List.set_cons_zero, List.set_cons_succ])
        refine wpAnyH_ready (rs := [12]) (by kernel_rfl) (by simp) ?_
        refine AllReadyH.cons (o := _) rfl (fun K hK => ?_) AllReadyH.nil
        rw [if_pos (by rfl)]
        rw [← HW2.out]
        refine oper_app (w := w2.drew) (.tmp 22) (.tmp 29) 71 71 rfl 176 zPair 2 16 Tryz.underlying71 info176 rfl HOT.out rfl HST.out rfl (by unfold maxLen; omega) (by omega) (Nat.le_trans H1.out.lt HK12.out.size) (fun v' w7 happ => ?_)
        obtain ⟨ao7, cap7, rfl, _⟩ := ownsRow_shape happ.own
        have h6 := H1.out.keep HK12.out.drew (fun _ _ h => h)
        have h7 := h6.setTests (w1 := w7) (v' := .slice ao7 (S.tests.length + 1) cap7) (ls := S.tests ++ [(x, gd)]) happ.keep (by have := happ.own; simpa [pairCells, pairCell] using this) happ.fresh
        have hb7 := h6.blk.keep happ.keep h6.tne
        have d3 := hb7.cell 3
        have f3 := hb7.free 3
        simp [StV.cells] at d3 f3
        have HKR := Lib.hid (((HK01.out.trans HK12.out.drew (fun _ _ h => h)).mono (T := fun k => base ≤ k ∧ StV.fp ⟨b, vb, vl, vc, .slice too S.tests.length tc, .slice no' S.notes.length nc'⟩ k) (fun _ _ h => h.elim)).trans happ.keep (fun k _ e => ⟨h6.fp_ge.2.2.1 k e, .inr (.inr (.inr (.inr (.inl e))))⟩))
        have HA := Lib.hid happ
        have H6 := Lib.hid h6
        have H7 := Lib.hid h7
        clear happ h6 h7 hb7
        (try dsimp only)
        refine hK.out _ _ ?_ (fun hHeld => ?_)
        · ((try dsimp only); refine HC.out _ ?_; repeat (first | exact HKR.out | apply Keep.drew | apply Keep.alloc | refine Keep.setCell ?_ _ _ (fun _ => ⟨HV.out.ge, .inl rfl⟩)))
        clear hK K
        (try simp only [List.getElem_toArray, List.getElem_cons_zero, List.getElem_cons_succ, Act.put, List.setIfInBounds_toArray, List.set_cons_zero, List.set_cons_succ])
        refine wpAnyH_take (i := 13) (oi := _) (v := ?_) rfl (by kernel_rfl) (by kernel_rfl) (by kernel_rfl) (fun _ _ _ h => h) (Or.inl ⟨by rfl, ?_⟩) (by assumption) ?_
        rotate_left
        · (intro w hSw; (try dsimp only at hSw); go_simp) <;> with_reducible rfl
        (try simp only [List.getElem_toArray, List.getElem_cons_zero, List.getElem_cons_succ, Act.put, List.setIfInBounds_toArray, List.set_cons_zero, List.set_cons_succ])
        refine wpAnyH_take (i := 14) (oi := _) (v := ?_) rfl (by kernel_rfl) (by kernel_rfl) (by kernel_rfl) (fun _ _ _ h => h) (Or.inl ⟨by rfl, ?_⟩) (by assumption) ?_
        rotate_left
        · (intro w hSw; (try dsimp only at hSw); go_simp) <;> with_reducible rfl
        (try simp only [List.getElem_toArray, List.getElem_cons_zero, List.getElem_cons_succ, Act.put, List.setIfInBounds_toArray, List.set_cons_zero, List.set_cons_succ])
        refine wpAnyH_ready (rs := [15]) (by kernel_rfl) (by simp) ?_
        refine AllReadyH.cons (o := _) rfl (fun K hK => ?_) AllReadyH.nil
        go_simp
        refine hK.out _ _ ?_ (fun hHeld => ?_)
        · ((try dsimp only); refine HC.out _ ?_; repeat (first | exact HKR.out | apply Keep.drew | apply Keep.alloc | refine Keep.setCell ?_ _ _ (fun _ => ⟨HV.out.ge, .inl rfl⟩)))
        clear hK K
        (try simp only [List.getElem_toArray, List.getElem_cons_zero, List.getElem_cons_succ, Act.put, List.setIfInBounds_toArray, List.set_cons_zero, List.set_cons_succ])
        refine wpAnyH_done (by kernel_rfl) ?_ _
        refine NoPanic.normal ?_
        go_wp2
        obtain ⟨w4, hw4⟩ : ∃ w4, w4 = w7.setCell ⟨b, 3, none⟩ (.slice ao7 (S.tests.length + 1) cap7) := ⟨_, rfl⟩
        have hch : Chg base w1 ⟨b, vb, vl, vc, .slice too S.tests.length tc, .slice no' S.notes.length nc'⟩ ⟨b, vb, vl, vc, .slice ao7 (S.tests.length + 1) cap7, .slice no' S.notes.length nc'⟩ (w7.setCell ⟨b, 3, none⟩ (.slice ao7 (S.tests.length + 1) cap7)) := by
          refine ⟨rfl, rfl, fun k hk => ?_, ((HK12.out.drew.mono (fun _ _ h => h.elim)).trans (HA.out.keep.mono (T := fun k => base ≤ k ∧ StV.fp ⟨b, vb, vl, vc, .slice too S.tests.length tc, .slice no' S.notes.length nc'⟩ k) (fun k _ e => ⟨H6.out.fp_ge.2.2.1 k e, .inr (.inr (.inr (.inr (.inl e))))⟩)) (fun _ _ h => h)).setCell _ _ (fun _ => ⟨H1.out.ge, .inl rfl⟩)⟩
          rcases hk with e | e | e | e | e | e
          · exact .inl (.inl e)
          · exact .inl (.inr (.inl e))
          · exact .inl (.inr (.inr (.inl e)))
          · exact .inl (.inr (.inr (.inr (.inl e))))
          · rcases HA.out.fresh with h1 | ⟨g, h1, h2⟩
            · exact .inl (.inr (.inr (.inr (.inr (.inl (h1.symm.trans e))))))
            · have h3 : g = k := Option.some.inj (h1.symm.trans e)
              have h4 := HK12.out.size
              have h5 : w2.heap.size ≤ g := h2
              exact .inr (by omega)
          · exact .inl (.inr (.inr (.inr (.inr (.inr e)))))
        have HC4 := Lib.hid ((Chg.before (HK0.out.trans HK01.out (fun _ _ h => h)) hch))
        have hkw4 := HKR.out.setCell ⟨b, 3, none⟩ (.slice ao7 (S.tests.length + 1) cap7) (fun _ => ⟨HV.out.ge, .inl rfl⟩)
        have H4 := H7
        rw [← hw4] at H4 HC4 hkw4
        rw [← hw4]
        have HKW4 := Lib.hid hkw4
        clear H7 hw4 d3 f3 hch hkw4
        have d4 := H4.out.blk.cell 4
        simp [StV.cells] at d4
        have HG4 := Lib.hid (hG.keep HC4.out.keep (fun i hi e => by have := e.1; omega))
        have HIT : Hid (∀ W, Keep (fun _ => False) w4 W → Calls Tryz.prog 96 #[.int .i64 x] W (ItoaPost W x)) := Lib.hid fun W hk => itoa_any (HG4.out.glob.keep hk) HX.out.1 HX.out.2
        have HKR3 : Hid (Keep (fun _ => False) w4 w4.drew) := Lib.hid (Keep.refl _ _).drew
        have HKR2 : Hid (Keep (fun k => k = b ∨ (Value.slice no' S.notes.length nc').ownBlock = some k) w4 w4.drew) := Lib.hid (Keep.refl _ _).drew
        have HC2 : Hid (∀ W, Keep (fun k => k = b ∨ (Value.slice no' S.notes.length nc').ownBlock = some k) w4 W → (fun W => W.cell? ⟨w.heap.size, 0, none⟩ = some (.slice (some ⟨nb, no, none⟩) 1 nc) ∧ W.cell? ⟨w.heap.size, 1, none⟩ = some (.string word) ∧ W.cell? ⟨nb, no, none⟩ = some (.int .i64 x)) W) := Lib.hid fun W hk => HC.out W (HKW4.out.trans hk (fun k _ e => e.elim (fun e => ⟨e ▸ HV.out.ge, .inl e⟩) (fun e => ⟨HV.out.fp_ge.2.2.2 k e, .inr (.inr (.inr (.inr (.inr e))))⟩)))
        refine wp_region_noPanic ?_
        refine wp_region_held_drew (S := fun W => W.cell? ⟨w.heap.size, 0, none⟩ = some (.slice (some ⟨nb, no, none⟩) 1 nc) ∧ W.cell? ⟨w.heap.size, 1, none⟩ = some (.string word) ∧ W.cell? ⟨nb, no, none⟩ = some (.int .i64 x)) (by kernel_rfl) (HC2.out _ HKR2.out) (fun hHeld => ?_)
        refine wpAnyH_take (i := 0) (oi := _) (v := ?_) rfl (by kernel_rfl) (by kernel_rfl) (by kernel_rfl) (fun _ _ _ h => h) (Or.inl ⟨by rfl, ?_⟩) (by assumption) ?_
        rotate_left
        · (intro w hSw; (try dsimp only at hSw); go_simp) <;> with_reducible rfl
        (try simp only [List.getElem_toArray, List.getElem_cons_zero, List.getElem_cons_succ, Act.put, List.setIfInBounds_toArray, List.set_cons_zero, List.set_cons_succ])
        refine wpAnyH_take (i := 1) (oi := _) (v := ?_) rfl (by kernel_rfl) (by kernel_rfl) (by kernel_rfl) (fun _ _ _ h => h) (Or.inl ⟨by rfl, ?_⟩) (by assumption) ?_
        rotate_left
        · (intro w hSw; (try dsimp only at hSw); go_simp) <;> with_reducible rfl
        (try simp only [List.getElem_toArray, List.getElem_cons_zero, List.getElem_cons_succ, Act.put, List.setIfInBounds_toArray, List.set_cons_zero, List.set_cons_succ])
        refine wpAnyH_take (i := 2) (oi := _) (v := ?_) rfl (by kernel_rfl) (by kernel_rfl) (by kernel_rfl) (fun _ _ _ h => h) (Or.inl ⟨by rfl, ?_⟩) (by assumption) ?_
        rotate_left
        · (intro w hSw; (try dsimp only at hSw); go_simp) <;> with_reducible rfl
        (try simp only [List.getElem_toArray, List.getElem_cons_zero, List.getElem_cons_succ, Act.put, List.setIfInBounds_toArray, List.set_cons_zero, List.set_cons_succ])
        refine wpAnyH_take (i := 3) (oi := _) (v := ?_) rfl (by kernel_rfl) (by kernel_rfl) (by kernel_rfl) (fun _ _ _ h => h) (Or.inl ⟨by rfl, ?_⟩) (by assumption) ?_
        rotate_left
        · (intro w hSw; (try dsimp only at hSw); go_simp) <;> with_reducible rfl
        (try simp only [List.getElem_toArray, List.getElem_cons_zero, List.getElem_cons_succ, Act.put, List.setIfInBounds_toArray, List.set_cons_zero, List.set_cons_succ])
        refine wpAnyH_take (i := 5) (oi := _) (v := ?_) rfl (by kernel_rfl) (by kernel_rfl) (by kernel_rfl) (fun _ _ _ h => h) (Or.inl ⟨by rfl, ?_⟩) (by assumption) ?_
        rotate_left
        · (intro w hSw; (try dsimp only at hSw); go_simp) <;> with_reducible rfl
        (try simp only [List.getElem_toArray, List.getElem_cons_zero, List.getElem_cons_succ, Act.put, List.setIfInBounds_toArray, List.set_cons_zero, List.set_cons_succ])
        refine wpAnyH_take (i := 6) (oi := _) (v := ?_) rfl (by kernel_rfl) (by kernel_rfl) (by kernel_rfl) (fun _ _ _ h => h) (Or.inl ⟨by rfl, ?_⟩) (by assumption) ?_
        rotate_left
        · (intro w hSw; (try dsimp only at hSw); go_simp) <;> with_reducible rfl
        (try simp only [List.getElem_toArray, List.getElem_cons_zero, List.getElem_cons_succ, Act.put, List.setIfInBounds_toArray, List.set_cons_zero, List.set_cons_succ])
        refine wpAnyH_take (i := 7) (oi := _) (v := ?_) rfl (by kernel_rfl) (by kernel_rfl) (by kernel_rfl) (fun _ _ _ h => h) (Or.inl ⟨by rfl, ?_⟩) (by assumption) ?_
        rotate_left
        · (intro w hSw; (try dsimp only at hSw); go_simp) <;> with_reducible rfl
        (try simp only [List.getElem_toArray, List.getElem_cons_zero, List.getElem_cons_succ, Act.put, List.setIfInBounds_toArray, List.set_cons_zero, List.set_cons_succ])
        refine wpAnyH_take (i := 8) (oi := _) (v := ?_) rfl (by kernel_rfl) (by kernel_rfl) (by kernel_rfl) (fun _ _ _ h => h) (Or.inl ⟨by rfl, ?_⟩) (by assumption) ?_
        rotate_left
        · (intro w hSw; (try dsimp only at hSw); go_simp) <;> with_reducible rfl
        (try simp only [List.getElem_toArray, List.getElem_cons_zero, List.getElem_cons_succ, Act.put, List.setIfInBounds_toArray, List.set_cons_zero, List.set_cons_succ])
        refine wpAnyH_take (i := 12) (oi := _) (v := ?_) rfl (by kernel_rfl) (by kernel_rfl) (by kernel_rfl) (fun _ _ _ h => h) (Or.inl ⟨by rfl, ?_⟩) (by assumption) ?_
        rotate_left
        · (intro w hSw; (try dsimp only at hSw); go_simp) <;> with_reducible rfl
        (try simp only [List.getElem_toArray, List.getElem_cons_zero, List.getElem_cons_succ, Act.put, List.setIfInBounds_toArray, List.set_cons_zero, List.set_cons_succ])
        refine wpAnyH_take (i := 13) (oi := _) (v := ?_) rfl (by kernel_rfl) (by kernel_rfl) (by kernel_rfl) (fun _ _ _ h => h) (Or.inl ⟨by rfl, ?_⟩) (by assumption) ?_
        rotate_left
        · (intro w hSw; (try dsimp only at hSw); go_simp) <;> with_reducible rfl
        (try simp only [List.getElem_toArray, List.getElem_cons_zero, List.getElem_cons_succ, Act.put, List.setIfInBounds_toArray, List.set_cons_zero, List.set_cons_succ])
        refine wpAnyH_ready (rs := [4, 9]) (by kernel_rfl) (by simp) ?_
        refine AllReadyH.cons (o := _) rfl (fun K hK => ?_) (AllReadyH.cons (o := _) rfl (fun K hK => ?_) AllReadyH.nil)
        · go_simp
          refine hK.out _ _ ?_ (fun hHeld => ?_)
          · ((try dsimp only); refine HC2.out _ ?_; repeat (first | exact HKR2.out | apply Keep.drew | apply Keep.alloc | refine Keep.setCell ?_ _ _ (fun _ => .inl rfl)))
          clear hK K
          (try simp only [List.getElem_toArray, List.getElem_cons_zero, List.getElem_cons_succ, Act.put, List.setIfInBounds_toArray, List.set_cons_zero, List.set_cons_succ])
          refine wpAnyH_ready (rs := [9]) (by kernel_rfl) (by simp) ?_
          refine AllReadyH.cons (o := _) rfl (fun K hK => ?_) AllReadyH.nil
          go_simp
          refine Calls.mono (HIT.out _ HKR3.out) ?_
          rintro e Wc ⟨rfl, hkc⟩
          have HKR3 := Lib.hid (HKR3.out.trans hkc (fun _ _ h => h))
          have HKR2 := Lib.hid (HKR3.out.mono (T := fun k => k = b ∨ (Value.slice no' S.notes.length nc').ownBlock = some k) (fun _ _ h => h.elim))
          have d4 := (H4.out.keep HKR3.out (fun _ _ h => h)).blk.cell 4
          simp [StV.cells] at d4
          have hlt4 : b < Wc.heap.size := (H4.out.keep HKR3.out (fun _ _ h => h)).blk.lt
          clear hkc
          (try dsimp only)
          refine hK.out _ _ ?_ (fun hHeld => ?_)
          · ((try dsimp only); refine HC2.out _ ?_; repeat (first | exact HKR2.out | apply Keep.drew | apply Keep.alloc | refine Keep.setCell ?_ _ _ (fun _ => .inl rfl)))
          clear hK K
          (try simp only [List.getElem_toArray, List.getElem_cons_zero, List.getElem_cons_succ, Act.put, List.setIfInBounds_toArray, List.set_cons_zero, List.set_cons_succ])
          refine wpAnyH_take (i := 10) (oi := _) (v := ?_) rfl (by kernel_rfl) (by kernel_rfl) (by kernel_rfl) (fun _ _ _ h => h) (Or.inl ⟨by rfl, ?_⟩) (by assumption) ?_
          rotate_left
          · (intro w hSw; (try dsimp only at hSw); go_simp) <;> with_reducible rfl
          (try simp only [List.getElem_toArray, List.getElem_cons_zero, List.getElem_cons_succ, Act.put, List.setIfInBounds_toArray, List.set_cons_zero, List.set_cons_succ])
          refine wpAnyH_take (i := 11) (oi := _) (v := ?_) rfl (by kernel_rfl) (by kernel_rfl) (by kernel_rfl) (fun _ _ _ h => h) (Or.inl ⟨by rfl, ?_⟩) (by assumption) ?_
          rotate_left
          · (intro w hSw; (try dsimp only at hSw); go_simp) <;> with_reducible rfl
          (try simp only [List.getElem_toArray, List.getElem_cons_zero, List.getElem_cons_succ, Act.put, List.setIfInBounds_toArray, List.set_cons_zero, List.set_cons_succ])
          refine wpAnyH_take (i := 14) (oi := _) (v := ?_) rfl (by kernel_rfl) (by kernel_rfl) (by kernel_rfl) (fun _ _ _ h => h) (Or.inl ⟨by rfl, ?_⟩) (by assumption) ?_
          rotate_left
          · (intro w hSw; (try dsimp only at hSw); go_simp) <;> with_reducible rfl
          (try simp only [List.getElem_toArray, List.getElem_cons_zero, List.getElem_cons_succ, Act.put, List.setIfInBounds_toArray, List.set_cons_zero, List.set_cons_succ])
          refine wpAnyH_ready (rs := [15]) (by kernel_rfl) (by simp) ?_
          refine AllReadyH.cons (o := _) rfl (fun K hK => ?_) AllReadyH.nil
          go_simp
          refine hK.out _ _ ?_ (fun hHeld => ?_)
          · ((try dsimp only); refine HC2.out _ ?_; repeat (first | exact HKR2.out | apply Keep.drew | apply Keep.alloc | refine Keep.setCell ?_ _ _ (fun _ => .inl rfl)))
          clear hK K
          (try simp only [List.getElem_toArray, List.getElem_cons_zero, List.getElem_cons_succ, Act.put, List.setIfInBounds_toArray, List.set_cons_zero, List.set_cons_succ])
          refine wpAnyH_ready (rs := [16]) (by kernel_rfl) (by simp) ?_
          refine AllReadyH.cons (o := _) rfl (fun K hK => ?_) AllReadyH.nil
          rw [if_pos (by rfl)]
          have ho6 : (Wc.alloc (.cells #[.string (testNote x word)] 9)).ownsRow base 9 1 (.slice no' S.notes.length nc') S.notes.length (strCells S.notes) := ownsRow_keep (H4.out.on) (HKR3.out.alloc (.cells #[.string (testNote x word)] 9)) (fun _ _ h => h)
          refine oper_app (.tmp 37) (.tmp 48) 44 44 rfl 9 (.string ⟨#[]⟩) 1 16 Tryz.underlying44 info9 rfl ho6 rfl ((Rd.new Wc 1 1 [.string (testNote x word)] 9 rfl (by simp [Value.oneCell']) (by unfold maxLen; omega)).src Tryz.underlying44) rfl (by unfold maxLen; omega) (by omega) (Nat.le_trans H4.out.lt (HKR3.out.alloc (.cells #[.string (testNote x word)] 9)).size) (fun v' w8 happ => ?_)
          obtain ⟨ao8, cap8, rfl, _⟩ := ownsRow_shape happ.own
          have h6 := H4.out.keep (HKR3.out.alloc (.cells #[.string (testNote x word)] 9)) (fun _ _ h => h)
          have h8 := h6.setNotes (w1 := w8) (v' := .slice ao8 (S.notes.length + 1) cap8) (ls := S.notes ++ [testNote x word]) happ.keep (by have := happ.own; simpa [strCells] using this) happ.fresh
          have hb8 := h6.blk.keep happ.keep h6.nne
          have d4 := hb8.cell 4
          have f4 := hb8.free 4
          simp [StV.cells] at d4 f4
          have HKR2 := Lib.hid (((HKR3.out.alloc (.cells #[.string (testNote x word)] 9)).mono (T := fun k => k = b ∨ (Value.slice no' S.notes.length nc').ownBlock = some k) (fun _ _ h => h.elim)).trans happ.keep (fun _ _ e => .inr e))
          have HB := Lib.hid happ
          have H5 := Lib.hid h6
          have H8 := Lib.hid h8
          clear happ h6 h8 hb8
          (try dsimp only)
          refine hK.out _ _ ?_ (fun hHeld => ?_)
          · ((try dsimp only); refine HC2.out _ ?_; repeat (first | exact HKR2.out | apply Keep.drew | apply Keep.alloc | refine Keep.setCell ?_ _ _ (fun _ => .inl rfl)))
          clear hK K
          (try simp only [List.getElem_toArray, List.getElem_cons_zero, List.getElem_cons_succ, Act.put, List.setIfInBounds_toArray, List.set_cons_zero, List.set_cons_succ])
          refine wpAnyH_take (i := 17) (oi := _) (v := ?_) rfl (by kernel_rfl) (by kernel_rfl) (by kernel_rfl) (fun _ _ _ h => h) (Or.inl ⟨by rfl, ?_⟩) (by assumption) ?_
          rotate_left
          · (intro w hSw; (try dsimp only at hSw); go_simp) <;> with_reducible rfl
          (try simp only [List.getElem_toArray, List.getElem_cons_zero, List.getElem_cons_succ, Act.put, List.setIfInBounds_toArray, List.set_cons_zero, List.set_cons_succ])
          refine wpAnyH_take (i := 18) (oi := _) (v := ?_) rfl (by kernel_rfl) (by kernel_rfl) (by kernel_rfl) (fun _ _ _ h => h) (Or.inl ⟨by rfl, ?_⟩) (by assumption) ?_
          rotate_left
          · (intro w hSw; (try dsimp only at hSw); go_simp) <;> with_reducible rfl
          (try simp only [List.getElem_toArray, List.getElem_cons_zero, List.getElem_cons_succ, Act.put, List.setIfInBounds_toArray, List.set_cons_zero, List.set_cons_succ])
          refine wpAnyH_ready (rs := [19]) (by kernel_rfl) (by simp) ?_
          refine AllReadyH.cons (o := _) rfl (fun K hK => ?_) AllReadyH.nil
          go_simp
          refine hK.out _ _ ?_ (fun hHeld => ?_)
          · ((try dsimp only); refine HC2.out _ ?_; repeat (first | exact HKR2.out | apply Keep.drew | apply Keep.alloc | refine Keep.setCell ?_ _ _ (fun _ => .inl rfl)))
          clear hK K
          (try simp only [List.getElem_toArray, List.getElem_cons_zero, List.getElem_cons_succ, Act.put, List.setIfInBounds_toArray, List.set_cons_zero, List.set_cons_succ])
          refine wpAnyH_done (by kernel_rfl) ?_ _
          refine NoPanic.normal ?_
          go_wp2
          go_ret2
          refine ⟨by rw [HF.out]; rfl, ⟨b, vb, vl, vc, .slice ao7 (S.tests.length + 1) cap7, .slice ao8 (S.notes.length + 1) cap8⟩, fun _ => by rw [HF.out]; exact H8.out, ?_⟩
          refine HC4.out.trans ⟨rfl, rfl, fun k hk => ?_, (HKR2.out.setCell _ _ (fun _ => .inl rfl)).mono (fun k _ e => e.elim (fun e => ⟨e ▸ H4.out.ge, .inl e⟩) (fun e => ⟨H4.out.fp_ge.2.2.2 k e, .inr (.inr (.inr (.inr (.inr e))))⟩))⟩
          rcases hk with e | e | e | e | e | e
          · exact .inl (.inl e)
          · exact .inl (.inr (.inl e))
          · exact .inl (.inr (.inr (.inl e)))
          · exact .inl (.inr (.inr (.inr (.inl e))))
          · exact .inl (.inr (.inr (.inr (.inr (.inl e)))))
          · rcases HB.out.fresh with h1 | ⟨g, h1, h2⟩
            · exact .inl (.inr (.inr (.inr (.inr (.inr (h1.symm.trans e))))))
            · have h3 : g = k := Option.some.inj (h1.symm.trans e)
              have h4 := (HKR3.out.alloc (.cells #[.string (testNote x word)] 9)).size
              have h5 : (Wc.alloc (.cells #[.string (testNote x word)] 9)).heap.size ≤ g := h2
              exact .inr (by omega)
        · go_simp
          refine Calls.mono (HIT.out _ HKR3.out) ?_
          rintro e Wc ⟨rfl, hkc⟩
          have HKR3 := Lib.hid (HKR3.out.trans hkc (fun _ _ h => h))
          have HKR2 := Lib.hid (HKR3.out.mono (T := fun k => k = b ∨ (Value.slice no' S.notes.length nc').ownBlock = some k) (fun _ _ h => h.elim))
          have d4 := (H4.out.keep HKR3.out (fun _ _ h => h)).blk.cell 4
          simp [StV.cells] at d4
          have hlt4 : b < Wc.heap.size := (H4.out.keep HKR3.out (fun _ _ h => h)).blk.lt
          clear hkc
          (try dsimp only)
          refine hK.out _ _ ?_ (fun hHeld => ?_)
          · ((try dsimp only); refine HC2.out _ ?_; repeat (first | exact HKR2.out | apply Keep.drew | apply Keep.alloc | refine Keep.setCell ?_ _ _ (fun _ => .inl rfl)))
          clear hK K
          (try simp only [List.getElem_toArray, List.getElem_cons_zero, List.getElem_cons_succ, Act.put, List.setIfInBounds_toArray, List.set_cons_zero, List.set_cons_succ])
          refine wpAnyH_take (i := 10) (oi := _) (v := ?_) rfl (by kernel_rfl) (by kernel_rfl) (by kernel_rfl) (fun _ _ _ h => h) (Or.inl ⟨by rfl, ?_⟩) (by assumption) ?_
          rotate_left
          · (intro w hSw; (try dsimp only at hSw); go_simp) <;> with_reducible rfl
          (try simp only [List.getElem_toArray, List.getElem_cons_zero, List.getElem_cons_succ, Act.put, List.setIfInBounds_toArray, List.set_cons_zero, List.set_cons_succ])
          refine wpAnyH_take (i := 11) (oi := _) (v := ?_) rfl (by kernel_rfl) (by kernel_rfl) (by kernel_rfl) (fun _ _ _ h => h) (Or.inl ⟨by rfl, ?_⟩) (by assumption) ?_
          rotate_left
          · (intro w hSw; (try dsimp only at hSw); go_simp) <;> with_reducible rfl
          (try simp only [List.getElem_toArray, List.getElem_cons_zero, List.getElem_cons_succ, Act.put, List.setIfInBounds_toArray, List.set_cons_zero, List.set_cons_succ])
          refine wpAnyH_take (i := 14) (oi := _) (v := ?_) rfl (by kernel_rfl) (by kernel_rfl) (by kernel_rfl) (fun _ _ _ h => h) (Or.inl ⟨by rfl, ?_⟩) (by assumption) ?_
          rotate_left
          · (intro w hSw; (try dsimp only at hSw); go_simp) <;> with_reducible rfl
          (try simp only [List.getElem_toArray, List.getElem_cons_zero, List.getElem_cons_succ, Act.put, List.setIfInBounds_toArray, List.set_cons_zero, List.set_cons_succ])
          refine wpAnyH_ready (rs := [4, 15]) (by kernel_rfl) (by simp) ?_
          refine AllReadyH.cons (o := _) rfl (fun K hK => ?_) (AllReadyH.cons (o := _) rfl (fun K hK => ?_) AllReadyH.nil)
          · go_simp
            refine hK.out _ _ ?_ (fun hHeld => ?_)
            · ((try dsimp only); refine HC2.out _ ?_; repeat (first | exact HKR2.out | apply Keep.drew | apply Keep.alloc | refine Keep.setCell ?_ _ _ (fun _ => .inl rfl)))
            clear hK K
            (try simp only [List.getElem_toArray, List.getElem_cons_zero, List.getElem_cons_succ, Act.put, List.setIfInBounds_toArray, List.set_cons_zero, List.set_cons_succ])
            refine wpAnyH_ready (rs := [15]) (by kernel_rfl) (by simp) ?_
            refine AllReadyH.cons (o := _) rfl (fun K hK => ?_) AllReadyH.nil
            go_simp
            refine hK.out _ _ ?_ (fun hHeld => ?_)
            · ((try dsimp only); refine HC2.out _ ?_; repeat (first | exact HKR2.out | apply Keep.drew | apply Keep.alloc | refine Keep.setCell ?_ _ _ (fun _ => .inl rfl)))
            clear hK K
            (try simp only [List.getElem_toArray, List.getElem_cons_zero, List.getElem_cons_succ, Act.put, List.setIfInBounds_toArray, List.set_cons_zero, List.set_cons_succ])
            refine wpAnyH_ready (rs := [16]) (by kernel_rfl) (by simp) ?_
            refine AllReadyH.cons (o := _) rfl (fun K hK => ?_) AllReadyH.nil
            rw [if_pos (by rfl)]
            have ho6 : (Wc.alloc (.cells #[.string (testNote x word)] 9)).ownsRow base 9 1 (.slice no' S.notes.length nc') S.notes.length (strCells S.notes) := ownsRow_keep (H4.out.on) (HKR3.out.alloc (.cells #[.string (testNote x word)] 9)) (fun _ _ h => h)
            refine oper_app (.tmp 37) (.tmp 48) 44 44 rfl 9 (.string ⟨#[]⟩) 1 16 Tryz.underlying44 info9 rfl ho6 rfl ((Rd.new Wc 1 1 [.string (testNote x word)] 9 rfl (by simp [Value.oneCell']) (by unfold maxLen; omega)).src Tryz.underlying44) rfl (by unfold maxLen; omega) (by omega) (Nat.le_trans H4.out.lt (HKR3.out.alloc (.cells #[.string (testNote x word)] 9)).size) (fun v' w8 happ => ?_)
            obtain ⟨ao8, cap8, rfl, _⟩ := ownsRow_shape happ.own
            have h6 := H4.out.keep (HKR3.out.alloc (.cells #[.string (testNote x word)] 9)) (fun _ _ h => h)
            have h8 := h6.setNotes (w1 := w8) (v' := .slice ao8 (S.notes.length + 1) cap8) (ls := S.notes ++ [testNote x word]) happ.keep (by have := happ.own; simpa [strCells] using this) happ.fresh
            have hb8 := h6.blk.keep happ.keep h6.nne
            have d4 := hb8.cell 4
            have f4 := hb8.free 4
            simp [StV.cells] at d4 f4
            have HKR2 := Lib.hid (((HKR3.out.alloc (.cells #[.string (testNote x word)] 9)).mono (T := fun k => k = b ∨ (Value.slice no' S.notes.length nc').ownBlock = some k) (fun _ _ h => h.elim)).trans happ.keep (fun _ _ e => .inr e))
            have HB := Lib.hid happ
            have H5 := Lib.hid h6
            have H8 := Lib.hid h8
            clear happ h6 h8 hb8
            (try dsimp only)
            refine hK.out _ _ ?_ (fun hHeld => ?_)
            · ((try dsimp only); refine HC2.out _ ?_; repeat (first | exact HKR2.out | apply Keep.drew | apply Keep.alloc | refine Keep.setCell ?_ _ _ (fun _ => .inl rfl)))
            clear hK K
            (try simp only [List.getElem_toArray, List.getElem_cons_zero, List.getElem_cons_succ, Act.put, List.setIfInBounds_toArray, List.set_cons_zero, List.set_cons_succ])
            refine wpAnyH_take (i := 17) (oi := _) (v := ?_) rfl (by kernel_rfl) (by kernel_rfl) (by kernel_rfl) (fun _ _ _ h => h) (Or.inl ⟨by rfl, ?_⟩) (by assumption) ?_
            rotate_left
            · (intro w hSw; (try dsimp only at hSw); go_simp) <;> with_reducible rfl
            (try simp only [List.getElem_toArray, List.getElem_cons_zero, List.getElem_cons_succ, Act.put, List.setIfInBounds_toArray, List.set_cons_zero, List.set_cons_succ])
            refine wpAnyH_take (i := 18) (oi := _) (v := ?_) rfl (by kernel_rfl) (by kernel_rfl) (by kernel_rfl) (fun _ _ _ h => h) (Or.inl ⟨by rfl, ?_⟩) (by assumption) ?_
            rotate_left
            · (intro w hSw; (try dsimp only at hSw); go_simp) <;> with_reducible rfl
            (try simp only [List.getElem_toArray, List.getElem_cons_zero, List.getElem_cons_succ, Act.put, List.setIfInBounds_toArray, List.set_cons_zero, List.set_cons_succ])
            refine wpAnyH_ready (rs := [19]) (by kernel_rfl) (by simp) ?_
            refine AllReadyH.cons (o := _) rfl (fun K hK => ?_) AllReadyH.nil
            go_simp
            refine hK.out _ _ ?_ (fun hHeld => ?_)
            · ((try dsimp only); refine HC2.out _ ?_; repeat (first | exact HKR2.out | apply Keep.drew | apply Keep.alloc | refine Keep.setCell ?_ _ _ (fun _ => .inl rfl)))
            clear hK K
            (try simp only [List.getElem_toArray, List.getElem_cons_zero, List.getElem_cons_succ, Act.put, List.setIfInBounds_toArray, List.set_cons_zero, List.set_cons_succ])
            refine wpAnyH_done (by kernel_rfl) ?_ _
            refine NoPanic.normal ?_
            go_wp2
            go_ret2
            refine ⟨by rw [HF.out]; rfl, ⟨b, vb, vl, vc, .slice ao7 (S.tests.length + 1) cap7, .slice ao8 (S.notes.length + 1) cap8⟩, fun _ => by rw [HF.out]; exact H8.out, ?_⟩
            refine HC4.out.trans ⟨rfl, rfl, fun k hk => ?_, (HKR2.out.setCell _ _ (fun _ => .inl rfl)).mono (fun k _ e => e.elim (fun e => ⟨e ▸ H4.out.ge, .inl e⟩) (fun e => ⟨H4.out.fp_ge.2.2.2 k e, .inr (.inr (.inr (.inr (.inr e))))⟩))⟩
            rcases hk with e | e | e | e | e | e
            · exact .inl (.inl e)
            · exact .inl (.inr (.inl e))
            · exact .inl (.inr (.inr (.inl e)))
            · exact .inl (.inr (.inr (.inr (.inl e))))
            · exact .inl (.inr (.inr (.inr (.inr (.inl e)))))
            · rcases HB.out.fresh with h1 | ⟨g, h1, h2⟩
              · exact .inl (.inr (.inr (.inr (.inr (.inr (h1.symm.trans e))))))
              · have h3 : g = k := Option.some.inj (h1.symm.trans e)
                have h4 := (HKR3.out.alloc (.cells #[.string (testNote x word)] 9)).size
                have h5 : (Wc.alloc (.cells #[.string (testNote x word)] 9)).heap.size ≤ g := h2
                exact .inr (by omega)
          · go_simp
            refine hK.out _ _ ?_ (fun hHeld => ?_)
            · ((try dsimp only); refine HC2.out _ ?_; repeat (first | exact HKR2.out | apply Keep.drew | apply Keep.alloc | refine Keep.setCell ?_ _ _ (fun _ => .inl rfl)))
            clear hK K
            (try simp only [List.getElem_toArray, List.getElem_cons_zero, List.getElem_cons_succ, Act.put, List.setIfInBounds_toArray, List.set_cons_zero, List.set_cons_succ])
            refine wpAnyH_ready (rs := [4]) (by kernel_rfl) (by simp) ?_
            refine AllReadyH.cons (o := _) rfl (fun K hK => ?_) AllReadyH.nil
            go_simp
            refine hK.out _ _ ?_ (fun hHeld => ?_)
            · ((try dsimp only); refine HC2.out _ ?_; repeat (first | exact HKR2.out | apply Keep.drew | apply Keep.alloc | refine Keep.setCell ?_ _ _ (fun _ => .inl rfl)))
            clear hK K
            (try simp only [List.getElem_toArray, List.getElem_cons_zero, List.getElem_cons_succ, Act.put, List.setIfInBounds_toArray, List.set_cons_zero, List.set_cons_succ])
            refine wpAnyH_ready (rs := [16]) (by kernel_rfl) (by simp) ?_
            refine AllReadyH.cons (o := _) rfl (fun K hK => ?_) AllReadyH.nil
            rw [if_pos (by rfl)]
            have ho6 : (Wc.alloc (.cells #[.string (testNote x word)] 9)).ownsRow base 9 1 (.slice no' S.notes.length nc') S.notes.length (strCells S.notes) := ownsRow_keep (H4.out.on) (HKR3.out.alloc (.cells #[.string (testNote x word)] 9)) (fun _ _ h => h)
            refine oper_app (.tmp 37) (.tmp 48) 44 44 rfl 9 (.string ⟨#[]⟩) 1 16 Tryz.underlying44 info9 rfl ho6 rfl ((Rd.new Wc 1 1 [.string (testNote x word)] 9 rfl (by simp [Value.oneCell']) (by unfold maxLen; omega)).src Tryz.underlying44) rfl (by unfold maxLen; omega) (by omega) (Nat.le_trans H4.out.lt (HKR3.out.alloc (.cells #[.string (testNote x word)] 9)).size) (fun v' w8 happ => ?_)
            obtain ⟨ao8, cap8, rfl, _⟩ := ownsRow_shape happ.own
            have h6 := H4.out.keep (HKR3.out.alloc (.cells #[.string (testNote x word)] 9)) (fun _ _ h => h)
            have h8 := h6.setNotes (w1 := w8) (v' := .slice ao8 (S.notes.length + 1) cap8) (ls := S.notes ++ [testNote x word]) happ.keep (by have := happ.own; simpa [strCells] using this) happ.fresh
            have hb8 := h6.blk.keep happ.keep h6.nne
            have d4 := hb8.cell 4
            have f4 := hb8.free 4
            simp [StV.cells] at d4 f4
            have HKR2 := Lib.hid (((HKR3.out.alloc (.cells #[.string (testNote x word)] 9)).mono (T := fun k => k = b ∨ (Value.slice no' S.notes.length nc').ownBlock = some k) (fun _ _ h => h.elim)).trans happ.keep (fun _ _ e => .inr e))
            have HB := Lib.hid happ
            have H5 := Lib.hid h6
            have H8 := Lib.hid h8
            clear happ h6 h8 hb8
            (try dsimp only)
            refine hK.out _ _ ?_ (fun hHeld => ?_)
            · ((try dsimp only); refine HC2.out _ ?_; repeat (first | exact HKR2.out | apply Keep.drew | apply Keep.alloc | refine Keep.setCell ?_ _ _ (fun _ => .inl rfl)))
            clear hK K
            (try simp only [List.getElem_toArray, List.getElem_cons_zero, List.getElem_cons_succ, Act.put, List.setIfInBounds_toArray, List.set_cons_zero, List.set_cons_succ])
            refine wpAnyH_take (i := 17) (oi := _) (v := ?_) rfl (by kernel_rfl) (by kernel_rfl) (by kernel_rfl) (fun _ _ _ h => h) (Or.inl ⟨by rfl, ?_⟩) (by assumption) ?_
            rotate_left
            · (intro w hSw; (try dsimp only at hSw); go_simp) <;> with_reducible rfl
            (try simp only [List.getElem_toArray, List.getElem_cons_zero, List.getElem_cons_succ, Act.put, List.setIfInBounds_toArray, List.set_cons_zero, List.set_cons_succ])
            refine wpAnyH_take (i := 18) (oi := _) (v := ?_) rfl (by kernel_rfl) (by kernel_rfl) (by kernel_rfl) (fun _ _ _ h => h) (Or.inl ⟨by rfl, ?_⟩) (by assumption) ?_
            rotate_left
            · (intro w hSw; (try dsimp only at hSw); go_simp) <;> with_reducible rfl
            (try simp only [List.getElem_toArray, List.getElem_cons_zero, List.getElem_cons_succ, Act.put, List.setIfInBounds_toArray, List.set_cons_zero, List.set_cons_succ])
            refine wpAnyH_ready (rs := [19]) (by kernel_rfl) (by simp) ?_
            refine AllReadyH.cons (o := _) rfl (fun K hK => ?_) AllReadyH.nil
            go_simp
            refine hK.out _ _ ?_ (fun hHeld => ?_)
            · ((try dsimp only); refine HC2.out _ ?_; repeat (first | exact HKR2.out | apply Keep.drew | apply Keep.alloc | refine Keep.setCell ?_ _ _ (fun _ => .inl rfl)))
            clear hK K
            (try simp only [List.getElem_toArray, List.getElem_cons_zero, List.getElem_cons_succ, Act.put, List.setIfInBounds_toArray, List.set_cons_zero, List.set_cons_succ])
            refine wpAnyH_done (by kernel_rfl) ?_ _
            refine NoPanic.normal ?_
            go_wp2
            go_ret2
            refine ⟨by rw [HF.out]; rfl, ⟨b, vb, vl, vc, .slice ao7 (S.tests.length + 1) cap7, .slice ao8 (S.notes.length + 1) cap8⟩, fun _ => by rw [HF.out]; exact H8.out, ?_⟩
            refine HC4.out.trans ⟨rfl, rfl, fun k hk => ?_, (HKR2.out.setCell _ _ (fun _ => .inl rfl)).mono (fun k _ e => e.elim (fun e => ⟨e ▸ H4.out.ge, .inl e⟩) (fun e => ⟨H4.out.fp_ge.2.2.2 k e, .inr (.inr (.inr (.inr (.inr e))))⟩))⟩
            rcases hk with e | e | e | e | e | e
            · exact .inl (.inl e)
            · exact .inl (.inr (.inl e))
            · exact .inl (.inr (.inr (.inl e)))
            · exact .inl (.inr (.inr (.inr (.inl e))))
            · exact .inl (.inr (.inr (.inr (.inr (.inl e)))))
            · rcases HB.out.fresh with h1 | ⟨g, h1, h2⟩
              · exact .inl (.inr (.inr (.inr (.inr (.inr (h1.symm.trans e))))))
              · have h3 : g = k := Option.some.inj (h1.symm.trans e)
                have h4 := (HKR3.out.alloc (.cells #[.string (testNote x word)] 9)).size
                have h5 : (Wc.alloc (.cells #[.string (testNote x word)] 9)).heap.size ≤ g := h2
                exact .inr (by omega)
      · go_simp
        refine hK.out _ _ ?_ (fun hHeld => ?_)
        · ((try dsimp only); refine HC.out _ ?_; repeat (first | exact HKR.out | apply Keep.drew | apply Keep.alloc | refine Keep.setCell ?_ _ _ (fun _ => ⟨HV.out.ge, .inl rfl⟩)))
        clear hK K
        (try simp only [List.getElem_toArray, List.getElem_cons_zero, List.getElem_cons_succ, Act.put, List.setIfInBounds_toArray, List.set_cons_zero, List.set_cons_succ])
        refine wpAnyH_ready (rs := [4]) (by kernel_rfl) (by simp) ?_
        refine AllReadyH.cons (o := _) rfl (fun K hK => ?_) AllReadyH.nil
        go_simp
        refine hK.out _ _ ?_ (fun hHeld => ?_)
        · ((try dsimp only); refine HC.out _ ?_; repeat (first | exact HKR.out | apply Keep.drew | apply Keep.alloc | refine Keep.setCell ?_ _ _ (fun _ => ⟨HV.out.ge, .inl rfl⟩)))
        clear hK K
        (try simp only [List.getElem_toArray, List.getElem_cons_zero, List.getElem_cons_succ, Act.put, List.setIfInBounds_toArray, List.set_cons_zero, List.set_cons_succ])
        refine wpAnyH_ready (rs := [12]) (by kernel_rfl) (by simp) ?_
        refine AllReadyH.cons (o := _) rfl (fun K hK => ?_) AllReadyH.nil
        rw [if_pos (by rfl)]
        rw [← HW2.out]
        refine oper_app (w := w2.drew) (.tmp 22) (.tmp 29) 71 71 rfl 176 zPair 2 16 Tryz.underlying71 info176 rfl HOT.out rfl HST.out rfl (by unfold maxLen; omega) (by omega) (Nat.le_trans H1.out.lt HK12.out.size) (fun v' w7 happ => ?_)
        obtain ⟨ao7, cap7, rfl, _⟩ := ownsRow_shape happ.own
        have h6 := H1.out.keep HK12.out.drew (fun _ _ h => h)
        have h7 := h6.setTests (w1 := w7) (v' := .slice ao7 (S.tests.length + 1) cap7) (ls := S.tests ++ [(x, gd)]) happ.keep (by have := happ.own; simpa [pairCells, pairCell] using this) happ.fresh
        have hb7 := h6.blk.keep happ.keep h6.tne
        have d3 := hb7.cell 3
        have f3 := hb7.free 3
        simp [StV.cells] at d3 f3
        have HKR := Lib.hid (((HK01.out.trans HK12.out.drew (fun _ _ h => h)).mono (T := fun k => base ≤ k ∧ StV.fp ⟨b, vb, vl, vc, .slice too S.tests.length tc, .slice no' S.notes.length nc'⟩ k) (fun _ _ h => h.elim)).trans happ.keep (fun k _ e => ⟨h6.fp_ge.2.2.1 k e, .inr (.inr (.inr (.inr (.inl e))))⟩))
        have HA := Lib.hid happ
        have H6 := Lib.hid h6
        have H7 := Lib.hid h7
        clear happ h6 h7 hb7
        (try dsimp only)
        refine hK.out _ _ ?_ (fun hHeld => ?_)
        · ((try dsimp only); refine HC.out _ ?_; repeat (first | exact HKR.out | apply Keep.drew | apply Keep.alloc | refine Keep.setCell ?_ _ _ (fun _ => ⟨HV.out.ge, .inl rfl⟩)))
        clear hK K
        (try simp only [List.getElem_toArray, List.getElem_cons_zero, List.getElem_cons_succ, Act.put, List.setIfInBounds_toArray, List.set_cons_zero, List.set_cons_succ])
        refine wpAnyH_take (i := 13) (oi := _) (v := ?_) rfl (by kernel_rfl) (by kernel_rfl) (by kernel_rfl) (fun _ _ _ h => h) (Or.inl ⟨by rfl, ?_⟩) (by assumption) ?_
        rotate_left
        · (intro w hSw; (try dsimp only at hSw); go_simp) <;> with_reducible rfl
        (try simp only [List.getElem_toArray, List.getElem_cons_zero, List.getElem_cons_succ, Act.put, List.setIfInBounds_toArray, List.set_cons_zero, List.set_cons_succ])
        refine wpAnyH_take (i := 14) (oi := _) (v := ?_) rfl (by kernel_rfl) (by kernel_rfl) (by kernel_rfl) (fun _ _ _ h => h) (Or.inl ⟨by rfl, ?_⟩) (by assumption) ?_
        rotate_left
        · (intro w hSw; (try dsimp only at hSw); go_simp) <;> with_reducible rfl
        (try simp only [List.getElem_toArray, List.getElem_cons_zero, List.getElem_cons_succ, Act.put, List.setIfInBounds_toArray, List.set_cons_zero, List.set_cons_succ])
        refine wpAnyH_ready (rs := [15]) (by kernel_rfl) (by simp) ?_
        refine AllReadyH.cons (o := _) rfl (fun K hK => ?_) AllReadyH.nil
        go_simp
        refine hK.out _ _ ?_ (fun hHeld => ?_)
        · ((try dsimp only); refine HC.out _ ?_; repeat (first | exact HKR.out | apply Keep.drew | apply Keep.alloc | refine Keep.setCell ?_ _ _ (fun _ => ⟨HV.out.ge, .inl rfl⟩)))
        clear hK K
        (try simp only [List.getElem_toArray, List.getElem_cons_zero, List.getElem_cons_succ, Act.put, List.setIfInBounds_toArray, List.set_cons_zero, List.set_cons_succ])
        refine wpAnyH_done (by kernel_rfl) ?_ _
        refine NoPanic.normal ?_
        go_wp2
        obtain ⟨w4, hw4⟩ : ∃ w4, w4 = w7.setCell ⟨b, 3, none⟩ (.slice ao7 (S.tests.length + 1) cap7) := ⟨_, rfl⟩
        have hch : Chg base w1 ⟨b, vb, vl, vc, .slice too S.tests.length tc, .slice no' S.notes.length nc'⟩ ⟨b, vb, vl, vc, .slice ao7 (S.tests.length + 1) cap7, .slice no' S.notes.length nc'⟩ (w7.setCell ⟨b, 3, none⟩ (.slice ao7 (S.tests.length + 1) cap7)) := by
          refine ⟨rfl, rfl, fun k hk => ?_, ((HK12.out.drew.mono (fun _ _ h => h.elim)).trans (HA.out.keep.mono (T := fun k => base ≤ k ∧ StV.fp ⟨b, vb, vl, vc, .slice too S.tests.length tc, .slice no' S.notes.length nc'⟩ k) (fun k _ e => ⟨H6.out.fp_ge.2.2.1 k e, .inr (.inr (.inr (.inr (.inl e))))⟩)) (fun _ _ h => h)).setCell _ _ (fun _ => ⟨H1.out.ge, .inl rfl⟩)⟩
          rcases hk with e | e | e | e | e | e
          · exact .inl (.inl e)
          · exact .inl (.inr (.inl e))
          · exact .inl (.inr (.inr (.inl e)))
          · exact .inl (.inr (.inr (.inr (.inl e))))
          · rcases HA.out.fresh with h1 | ⟨g, h1, h2⟩
            · exact .inl (.inr (.inr (.inr (.inr (.inl (h1.symm.trans e))))))
            · have h3 : g = k := Option.some.inj (h1.symm.trans e)
              have h4 := HK12.out.size
              have h5 : w2.heap.size ≤ g := h2
              exact .inr (by omega)
          · exact .inl (.inr (.inr (.inr (.inr (.inr e)))))
        have HC4 := Lib.hid ((Chg.before (HK0.out.trans HK01.out (fun _ _ h => h)) hch))
        have hkw4 := HKR.out.setCell ⟨b, 3, none⟩ (.slice ao7 (S.tests.length + 1) cap7) (fun _ => ⟨HV.out.ge, .inl rfl⟩)
        have H4 := H7
        rw [← hw4] at H4 HC4 hkw4
        rw [← hw4]
        have HKW4 := Lib.hid hkw4
        clear H7 hw4 d3 f3 hch hkw4
        have d4 := H4.out.blk.cell 4
        simp [StV.cells] at d4
        have HG4 := Lib.hid (hG.keep HC4.out.keep (fun i hi e => by have := e.1; omega))
        have HIT : Hid (∀ W, Keep (fun _ => False) w4 W → Calls Tryz.prog 96 #[.int .i64 x] W (ItoaPost W x)) := Lib.hid fun W hk => itoa_any (HG4.out.glob.keep hk) HX.out.1 HX.out.2
        have HKR3 : Hid (Keep (fun _ => False) w4 w4.drew) := Lib.hid (Keep.refl _ _).drew
        have HKR2 : Hid (Keep (fun k => k = b ∨ (Value.slice no' S.notes.length nc').ownBlock = some k) w4 w4.drew) := Lib.hid (Keep.refl _ _).drew
        have HC2 : Hid (∀ W, Keep (fun k => k = b ∨ (Value.slice no' S.notes.length nc').ownBlock = some k) w4 W → (fun W => W.cell? ⟨w.heap.size, 0, none⟩ = some (.slice (some ⟨nb, no, none⟩) 1 nc) ∧ W.cell? ⟨w.heap.size, 1, none⟩ = some (.string word) ∧ W.cell? ⟨nb, no, none⟩ = some (.int .i64 x)) W) := Lib.hid fun W hk => HC.out W (HKW4.out.trans hk (fun k _ e => e.elim (fun e => ⟨e ▸ HV.out.ge, .inl e⟩) (fun e => ⟨HV.out.fp_ge.2.2.2 k e, .inr (.inr (.inr (.inr (.inr e))))⟩)))
        refine wp_region_noPanic ?_
        refine wp_region_held_drew (S := fun W => W.cell? ⟨w.heap.size, 0, none⟩ = some (.slice (some ⟨nb, no, none⟩) 1 nc) ∧ W.cell? ⟨w.heap.size, 1, none⟩ = some (.string word) ∧ W.cell? ⟨nb, no, none⟩ = some (.int .i64 x)) (by kernel_rfl) (HC2.out _ HKR2.out) (fun hHeld => ?_)
        refine wpAnyH_take (i := 0) (oi := _) (v := ?_) rfl (by kernel_rfl) (by kernel_rfl) (by kernel_rfl) (fun _ _ _ h => h) (Or.inl ⟨by rfl, ?_⟩) (by assumption) ?_
        rotate_left
        · (intro w hSw; (try dsimp only at hSw); go_simp) <;> with_reducible rfl
        (try simp only [List.getElem_toArray, List.getElem_cons_zero, List.getElem_cons_succ, Act.put, List.setIfInBounds_toArray, List.set_cons_zero, List.set_cons_succ])
        refine wpAnyH_take (i := 1) (oi := _) (v := ?_) rfl (by kernel_rfl) (by kernel_rfl) (by kernel_rfl) (fun _ _ _ h => h) (Or.inl ⟨by rfl, ?_⟩) (by assumption) ?_
        rotate_left
        · (intro w hSw; (try dsimp only at hSw); go_simp) <;> with_reducible rfl
        (try simp only [List.getElem_toArray, List.getElem_cons_zero, List.getElem_cons_succ, Act.put, List.setIfInBounds_toArray, List.set_cons_zero, List.set_cons_succ])
        refine wpAnyH_take (i := 2) (oi := _) (v := ?_) rfl (by kernel_rfl) (by kernel_rfl) (by kernel_rfl) (fun _ _ _ h => h) (Or.inl ⟨by rfl, ?_⟩) (by assumption) ?_
        rotate_left
        · (intro w hSw; (try dsimp only at hSw); go_simp) <;> with_reducible rfl
        (try simp only [List.getElem_toArray, List.getElem_cons_zero, List.getElem_cons_succ, Act.put, List.setIfInBounds_toArray, List.set_cons_zero, List.set_cons_succ])
        refine wpAnyH_take (i := 3) (oi := _) (v := ?_) rfl (by kernel_rfl) (by kernel_rfl) (by kernel_rfl) (fun _ _ _ h => h) (Or.inl ⟨by rfl, ?_⟩) (by assumption) ?_
        rotate_left
        · (intro w hSw; (try dsimp only at hSw); go_simp) <;> with_reducible rfl
        (try simp only [List.getElem_toArray, List.getElem_cons_zero, List.getElem_cons_succ, Act.put, List.setIfInBounds_toArray, List.set_cons_zero, List.set_cons_succ])
        refine wpAnyH_take (i := 5) (oi := _) (v := ?_) rfl (by kernel_rfl) (by kernel_rfl) (by kernel_rfl) (fun _ _ _ h => h) (Or.inl ⟨by rfl, ?_⟩) (by assumption) ?_
        rotate_left
        · (intro w hSw; (try dsimp only at hSw); go_simp) <;> with_reducible rfl
        (try simp only [List.getElem_toArray, List.getElem_cons_zero, List.getElem_cons_succ, Act.put, List.setIfInBounds_toArray, List.set_cons_zero, List.set_cons_succ])
        refine wpAnyH_take (i := 6) (oi := _) (v := ?_) rfl (by kernel_rfl) (by kernel_rfl) (by kernel_rfl) (fun _ _ _ h => h) (Or.inl ⟨by rfl, ?_⟩) (by assumption) ?_
        rotate_left
        · (intro w hSw; (try dsimp only at hSw); go_simp) <;> with_reducible rfl
        (try simp only [List.getElem_toArray, List.getElem_cons_zero, List.getElem_cons_succ, Act.put, List.setIfInBounds_toArray, List.set_cons_zero, List.set_cons_succ])
        refine wpAnyH_take (i := 7) (oi := _) (v := ?_) rfl (by kernel_rfl) (by kernel_rfl) (by kernel_rfl) (fun _ _ _ h => h) (Or.inl ⟨by rfl, ?_⟩) (by assumption) ?_
        rotate_left
        · (intro w hSw; (try dsimp only at hSw); go_simp) <;> with_reducible rfl
        (try simp only [List.getElem_toArray, List.getElem_cons_zero, List.getElem_cons_succ, Act.put, List.setIfInBounds_toArray, List.set_cons_zero, List.set_cons_succ])
        refine wpAnyH_take (i := 8) (oi := _) (v := ?_) rfl (by kernel_rfl) (by kernel_rfl) (by kernel_rfl) (fun _ _ _ h => h) (Or.inl ⟨by rfl, ?_⟩) (by assumption) ?_
        rotate_left
        · (intro w hSw; (try dsimp only at hSw); go_simp) <;> with_reducible rfl
        (try simp only [List.getElem_toArray, List.getElem_cons_zero, List.getElem_cons_succ, Act.put, List.setIfInBounds_toArray, List.set_cons_zero, List.set_cons_succ])
        refine wpAnyH_take (i := 12) (oi := _) (v := ?_) rfl (by kernel_rfl) (by kernel_rfl) (by kernel_rfl) (fun _ _ _ h => h) (Or.inl ⟨by rfl, ?_⟩) (by assumption) ?_
        rotate_left
        · (intro w hSw; (try dsimp only at hSw); go_simp) <;> with_reducible rfl
        (try simp only [List.getElem_toArray, List.getElem_cons_zero, List.getElem_cons_succ, Act.put, List.setIfInBounds_toArray, List.set_cons_zero, List.set_cons_succ])
        refine wpAnyH_take (i := 13) (oi := _) (v := ?_) rfl (by kernel_rfl) (by kernel_rfl) (by kernel_rfl) (fun _ _ _ h => h) (Or.inl ⟨by rfl, ?_⟩) (by assumption) ?_
        rotate_left
        · (intro w hSw; (try dsimp only at hSw); go_simp) <;> with_reducible rfl
        (try simp only [List.getElem_toArray, List.getElem_cons_zero, List.getElem_cons_succ, Act.put, List.setIfInBounds_toArray, List.set_cons_zero, List.set_cons_succ])
        refine wpAnyH_ready (rs := [4, 9]) (by kernel_rfl) (by simp) ?_
        refine AllReadyH.cons (o := _) rfl (fun K hK => ?_) (AllReadyH.cons (o := _) rfl (fun K hK => ?_) AllReadyH.nil)
        · go_simp
          refine hK.out _ _ ?_ (fun hHeld => ?_)
          · ((try dsimp only); refine HC2.out _ ?_; repeat (first | exact HKR2.out | apply Keep.drew | apply Keep.alloc | refine Keep.setCell ?_ _ _ (fun _ => .inl rfl)))
          clear hK K
          (try simp only [List.getElem_toArray, List.getElem_cons_zero, List.getElem_cons_succ, Act.put, List.setIfInBounds_toArray, List.set_cons_zero, List.set_cons_succ])
          refine wpAnyH_ready (rs := [9]) (by kernel_rfl) (by simp) ?_
          refine AllReadyH.cons (o := _) rfl (fun K hK => ?_) AllReadyH.nil
          go_simp
          refine Calls.mono (HIT.out _ HKR3.out) ?_
          rintro e Wc ⟨rfl, hkc⟩
          have HKR3 := Lib.hid (HKR3.out.trans hkc (fun _ _ h => h))
          have HKR2 := Lib.hid (HKR3.out.mono (T := fun k => k = b ∨ (Value.slice no' S.notes.length nc').ownBlock = some k) (fun _ _ h => h.elim))
          have d4 := (H4.out.keep HKR3.out (fun _ _ h => h)).blk.cell 4
          simp [StV.cells] at d4
          have hlt4 : b < Wc.heap.size := (H4.out.keep HKR3.out (fun _ _ h => h)).blk.lt
          clear hkc
          (try dsimp only)
          refine hK.out _ _ ?_ (fun hHeld => ?_)
          · ((try dsimp only); refine HC2.out _ ?_; repeat (first | exact HKR2.out | apply Keep.drew | apply Keep.alloc | refine Keep.setCell ?_ _ _ (fun _ => .inl rfl)))
          clear hK K
          (try simp only [List.getElem_toArray, List.getElem_cons_zero, List.getElem_cons_succ, Act.put, List.setIfInBounds_toArray, List.set_cons_zero, List.set_cons_succ])
          refine wpAnyH_take (i := 10) (oi := _) (v := ?_) rfl (by kernel_rfl) (by kernel_rfl) (by kernel_rfl) (fun _ _ _ h => h) (Or.inl ⟨by rfl, ?_⟩) (by assumption) ?_
          rotate_left
          · (intro w hSw; (try dsimp only at hSw); go_simp) <;> with_reducible rfl
          (try simp only [List.getElem_toArray, List.getElem_cons_zero, List.getElem_cons_succ, Act.put, List.setIfInBounds_toArray, List.set_cons_zero, List.set_cons_succ])
          refine wpAnyH_take (i := 11) (oi := _) (v := ?_) rfl (by kernel_rfl) (by kernel_rfl) (by kernel_rfl) (fun _ _ _ h => h) (Or.inl ⟨by rfl, ?_⟩) (by assumption) ?_
          rotate_left
          · (intro w hSw; (try dsimp only at hSw); go_simp) <;> with_reducible rfl
          (try simp only [List.getElem_toArray, List.getElem_cons_zero, List.getElem_cons_succ, Act.put, List.setIfInBounds_toArray, List.set_cons_zero, List.set_cons_succ])
          refine wpAnyH_take (i := 14) (oi := _) (v := ?_) rfl (by kernel_rfl) (by kernel_rfl) (by kernel_rfl) (fun _ _ _ h => h) (Or.inl ⟨by rfl, ?_⟩) (by assumption) ?_
          rotate_left
          · (intro w hSw; (try dsimp only at hSw); go_simp) <;> with_reducible rfl
          (try simp only [List.getElem_toArray, List.getElem_cons_zero, List.getElem_cons_succ, Act.put, List.setIfInBounds_toArray, List.set_cons_zero, List.set_cons_succ])
          refine wpAnyH_ready (rs := [15]) (by kernel_rfl) (by simp) ?_
          refine AllReadyH.cons (o := _) rfl (fun K hK => ?_) AllReadyH.nil
          go_simp
          refine hK.out _ _ ?_ (fun hHeld => ?_)
          · ((try dsimp only); refine HC2.out _ ?_; repeat (first | exact HKR2.out | apply Keep.drew | apply Keep.alloc | refine Keep.setCell ?_ _ _ (fun _ => .inl rfl)))
          clear hK K
          (try simp only [List.getElem_toArray, List.getElem_cons_zero, List.getElem_cons_succ, Act.put, List.setIfInBounds_toArray, List.set_cons_zero, List.set_cons_succ])
          refine wpAnyH_ready (rs := [16]) (by kernel_rfl) (by simp) ?_
          refine AllReadyH.cons (o := _) rfl (fun K hK => ?_) AllReadyH.nil
          rw [if_pos (by rfl)]
          have ho6 : (Wc.alloc (.cells #[.string (testNote x word)] 9)).ownsRow base 9 1 (.slice no' S.notes.length nc') S.notes.length (strCells S.notes) := ownsRow_keep (H4.out.on) (HKR3.out.alloc (.cells #[.string (testNote x word)] 9)) (fun _ _ h => h)
          refine oper_app (.tmp 37) (.tmp 48) 44 44 rfl 9 (.string ⟨#[]⟩) 1 16 Tryz.underlying44 info9 rfl ho6 rfl ((Rd.new Wc 1 1 [.string (testNote x word)] 9 rfl (by simp [Value.oneCell']) (by unfold maxLen; omega)).src Tryz.underlying44) rfl (by unfold maxLen; omega) (by omega) (Nat.le_trans H4.out.lt (HKR3.out.alloc (.cells #[.string (testNote x word)] 9)).size) (fun v' w8 happ => ?_)
          obtain ⟨ao8, cap8, rfl, _⟩ := ownsRow_shape happ.own
          have h6 := H4.out.keep (HKR3.out.alloc (.cells #[.string (testNote x word)] 9)) (fun _ _ h => h)
          have h8 := h6.setNotes (w1 := w8) (v' := .slice ao8 (S.notes.length + 1) cap8) (ls := S.notes ++ [testNote x word]) happ.keep (by have := happ.own; simpa [strCells] using this) happ.fresh
          have hb8 := h6.blk.keep happ.keep h6.nne
          have d4 := hb8.cell 4
          have f4 := hb8.free 4
          simp [StV.cells] at d4 f4
          have HKR2 := Lib.hid (((HKR3.out.alloc (.cells #[.string (testNote x word)] 9)).mono (T := fun k => k = b ∨ (Value.slice no' S.notes.length nc').ownBlock = some k) (fun _ _ h => h.elim)).trans happ.keep (fun _ _ e => .inr e))
          have HB := Lib.hid happ
          have H5 := Lib.hid h6
          have H8 := Lib.hid h8
          clear happ h6 h8 hb8
          (try dsimp only)
          refine hK.out _ _ ?_ (fun hHeld => ?_)
          · ((try dsimp only); refine HC2.out _ ?_; repeat (first | exact HKR2.out | apply Keep.drew | apply Keep.alloc | refine Keep.setCell ?_ _ _ (fun _ => .inl rfl)))
          clear hK K
          (try simp only [List.getElem_toArray, List.getElem_cons_zero, List.getElem_cons_succ, Act.put, List.setIfInBounds_toArray, List.set_cons_zero, List.set_cons_succ])
          refine wpAnyH_take (i := 17) (oi := _) (v := ?_) rfl (by kernel_rfl) (by kernel_rfl) (by kernel_rfl) (fun _ _ _ h => h) (Or.inl ⟨by rfl, ?_⟩) (by assumption) ?_
          rotate_left
          · (intro w hSw; (try dsimp only at hSw); go_simp) <;> with_reducible rfl
          (try simp only [List.getElem_toArray, List.getElem_cons_zero, List.getElem_cons_succ, Act.put, List.setIfInBounds_toArray, List.set_cons_zero, List.set_cons_succ])
          refine wpAnyH_take (i := 18) (oi := _) (v := ?_) rfl (by kernel_rfl) (by kernel_rfl) (by kernel_rfl) (fun _ _ _ h => h) (Or.inl ⟨by rfl, ?_⟩) (by assumption) ?_
          rotate_left
          · (intro w hSw; (try dsimp only at hSw); go_simp) <;> with_reducible rfl
          (try simp only [List.getElem_toArray, List.getElem_cons_zero, List.getElem_cons_succ, Act.put, List.setIfInBounds_toArray, List.set_cons_zero, List.set_cons_succ])
          refine wpAnyH_ready (rs := [19]) (by kernel_rfl) (by simp) ?_
          refine AllReadyH.cons (o := _) rfl (fun K hK => ?_) AllReadyH.nil
          go_simp
          refine hK.out _ _ ?_ (fun hHeld => ?_)
          · ((try dsimp only); refine HC2.out _ ?_; repeat (first | exact HKR2.out | apply Keep.drew | apply Keep.alloc | refine Keep.setCell ?_ _ _ (fun _ => .inl rfl)))
          clear hK K
          (try simp only [List.getElem_toArray, List.getElem_cons_zero, List.getElem_cons_succ, Act.put, List.setIfInBounds_toArray, List.set_cons_zero, List.set_cons_succ])
          refine wpAnyH_done (by kernel_rfl) ?_ _
          refine NoPanic.normal ?_
          go_wp2
          go_ret2
          refine ⟨by rw [HF.out]; rfl, ⟨b, vb, vl, vc, .slice ao7 (S.tests.length + 1) cap7, .slice ao8 (S.notes.length + 1) cap8⟩, fun _ => by rw [HF.out]; exact H8.out, ?_⟩
          refine HC4.out.trans ⟨rfl, rfl, fun k hk => ?_, (HKR2.out.setCell _ _ (fun _ => .inl rfl)).mono (fun k _ e => e.elim (fun e => ⟨e ▸ H4.out.ge, .inl e⟩) (fun e => ⟨H4.out.fp_ge.2.2.2 k e, .inr (.inr (.inr (.inr (.inr e))))⟩))⟩
          rcases hk with e | e | e | e | e | e
          · exact .inl (.inl e)
          · exact .inl (.inr (.inl e))
          · exact .inl (.inr (.inr (.inl e)))
          · exact .inl (.inr (.inr (.inr (.inl e))))
          · exact .inl (.inr (.inr (.inr (.inr (.inl e)))))
          · rcases HB.out.fresh with h1 | ⟨g, h1, h2⟩
            · exact .inl (.inr (.inr (.inr (.inr (.inr (h1.symm.trans e))))))
            · have h3 : g = k := Option.some.inj (h1.symm.trans e)
              have h4 := (HKR3.out.alloc (.cells #[.string (testNote x word)] 9)).size
              have h5 : (Wc.alloc (.cells #[.string (testNote x word)] 9)).heap.size ≤ g := h2
              exact .inr (by omega)
        · go_simp
          refine Calls.mono (HIT.out _ HKR3.out) ?_
          rintro e Wc ⟨rfl, hkc⟩
          have HKR3 := Lib.hid (HKR3.out.trans hkc (fun _ _ h => h))
          have HKR2 := Lib.hid (HKR3.out.mono (T := fun k => k = b ∨ (Value.slice no' S.notes.length nc').ownBlock = some k) (fun _ _ h => h.elim))
          have d4 := (H4.out.keep HKR3.out (fun _ _ h => h)).blk.cell 4
          simp [StV.cells] at d4
          have hlt4 : b < Wc.heap.size := (H4.out.keep HKR3.out (fun _ _ h => h)).blk.lt
          clear hkc
          (try dsimp only)
          refine hK.out _ _ ?_ (fun hHeld => ?_)
          · ((try dsimp only); refine HC2.out _ ?_; repeat (first | exact HKR2.out | apply Keep.drew | apply Keep.alloc | refine Keep.setCell ?_ _ _ (fun _ => .inl rfl)))
          clear hK K
          (try simp only [List.getElem_toArray, List.getElem_cons_zero, List.getElem_cons_succ, Act.put, List.setIfInBounds_toArray, List.set_cons_zero, List.set_cons_succ])
          refine wpAnyH_take (i := 10) (oi := _) (v := ?_) rfl (by kernel_rfl) (by kernel_rfl) (by kernel_rfl) (fun _ _ _ h => h) (Or.inl ⟨by rfl, ?_⟩) (by assumption) ?_
          rotate_left
          · (intro w hSw; (try dsimp only at hSw); go_simp) <;> with_reducible rfl
          (try simp only [List.getElem_toArray, List.getElem_cons_zero, List.getElem_cons_succ, Act.put, List.setIfInBounds_toArray, List.set_cons_zero, List.set_cons_succ])
          refine wpAnyH_take (i := 11) (oi := _) (v := ?_) rfl (by kernel_rfl) (by kernel_rfl) (by kernel_rfl) (fun _ _ _ h => h) (Or.inl ⟨by rfl, ?_⟩) (by assumption) ?_
          rotate_left
          · (intro w hSw; (try dsimp only at hSw); go_simp) <;> with_reducible rfl
          (try simp only [List.getElem_toArray, List.getElem_cons_zero, List.getElem_cons_succ, Act.put, List.setIfInBounds_toArray, List.set_cons_zero, List.set_cons_succ])
          refine wpAnyH_take (i := 14) (oi := _) (v := ?_) rfl (by kernel_rfl) (by kernel_rfl) (by kernel_rfl) (fun _ _ _ h => h) (Or.inl ⟨by rfl, ?_⟩) (by assumption) ?_
          rotate_left
          · (intro w hSw; (try dsimp only at hSw); go_simp) <;> with_reducible rfl
          (try simp only [List.getElem_toArray, List.getElem_cons_zero, List.getElem_cons_succ, Act.put, List.setIfInBounds_toArray, List.set_cons_zero, List.set_cons_succ])
          refine wpAnyH_ready (rs := [4, 15]) (by kernel_rfl) (by simp) ?_
          refine AllReadyH.cons (o := _) rfl (fun K hK => ?_) (AllReadyH.cons (o := _) rfl (fun K hK => ?_) AllReadyH.nil)
          · go_simp
            refine hK.out _ _ ?_ (fun hHeld => ?_)
            · ((try dsimp only); refine HC2.out _ ?_; repeat (first | exact HKR2.out | apply Keep.drew | apply Keep.alloc | refine Keep.setCell ?_ _ _ (fun _ => .inl rfl)))
            clear hK K
            (try simp only [List.getElem_toArray, List.getElem_cons_zero, List.getElem_cons_succ, Act.put, List.setIfInBounds_toArray, List.set_cons_zero, List.set_cons_succ])
            refine wpAnyH_ready (rs := [15]) (by kernel_rfl) (by simp) ?_
            refine AllReadyH.cons (o := _) rfl (fun K hK => ?_) AllReadyH.nil
            go_simp
            refine hK.out _ _ ?_ (fun hHeld => ?_)
            · ((try dsimp only); refine HC2.out _ ?_; repeat (first | exact HKR2.out | apply Keep.drew | apply Keep.alloc | refine Keep.setCell ?_ _ _ (fun _ => .inl rfl)))
            clear hK K
            (try simp only [List.getElem_toArray, List.getElem_cons_zero, List.getElem_cons_succ, Act.put, List.setIfInBounds_toArray, List.set_cons_zero, List.set_cons_succ])
            refine wpAnyH_ready (rs := [16]) (by kernel_rfl) (by simp) ?_
            refine AllReadyH.cons (o := _) rfl (fun K hK => ?_) AllReadyH.nil
            rw [if_pos (by rfl)]
            have ho6 : (Wc.alloc (.cells #[.string (testNote x word)] 9)).ownsRow base 9 1 (.slice no' S.notes.length nc') S.notes.length (strCells S.notes) := ownsRow_keep (H4.out.on) (HKR3.out.alloc (.cells #[.string (testNote x word)] 9)) (fun _ _ h => h)
            refine oper_app (.tmp 37) (.tmp 48) 44 44 rfl 9 (.string ⟨#[]⟩) 1 16 Tryz.underlying44 info9 rfl ho6 rfl ((Rd.new Wc 1 1 [.string (testNote x word)] 9 rfl (by simp [Value.oneCell']) (by unfold maxLen; omega)).src Tryz.underlying44) rfl (by unfold maxLen; omega) (by omega) (Nat.le_trans H4.out.lt (HKR3.out.alloc (.cells #[.string (testNote x word)] 9)).size) (fun v' w8 happ => ?_)
            obtain ⟨ao8, cap8, rfl, _⟩ := ownsRow_shape happ.own
            have h6 := H4.out.keep (HKR3.out.alloc (.cells #[.string (testNote x word)] 9)) (fun _ _ h => h)
            have h8 := h6.setNotes (w1 := w8) (v' := .slice ao8 (S.notes.length + 1) cap8) (ls := S.notes ++ [testNote x word]) happ.keep (by have := happ.own; simpa [strCells] using this) happ.fresh
            have hb8 := h6.blk.keep happ.keep h6.nne
            have d4 := hb8.cell 4
            have f4 := hb8.free 4
            simp [StV.cells] at d4 f4
            have HKR2 := Lib.hid (((HKR3.out.alloc (.cells #[.string (testNote x word)] 9)).mono (T := fun k => k = b ∨ (Value.slice no' S.notes.length nc').ownBlock = some k) (fun _ _ h => h.elim)).trans happ.keep (fun _ _ e => .inr e))
            have HB := Lib.hid happ
            have H5 := Lib.hid h6
            have H8 := Lib.hid h8
            clear happ h6 h8 hb8
            (try dsimp only)
            refine hK.out _ _ ?_ (fun hHeld => ?_)
            · ((try dsimp only); refine HC2.out _ ?_; repeat (first | exact HKR2.out | apply Keep.drew | apply Keep.alloc | refine Keep.setCell ?_ _ _ (fun _ => .inl rfl)))
            clear hK K
            (try simp only [List.getElem_toArray, List.getElem_cons_zero, List.getElem_cons_succ, Act.put, List.setIfInBounds_toArray, List.set_cons_zero, List.set_cons_succ])
            refine wpAnyH_take (i := 17) (oi := _) (v := ?_) rfl (by kernel_rfl) (by kernel_rfl) (by kernel_rfl) (fun _ _ _ h => h) (Or.inl ⟨by rfl, ?_⟩) (by assumption) ?_
            rotate_left
            · (intro w hSw; (try dsimp only at hSw); go_simp) <;> with_reducible rfl
            (try simp only [List.getElem_toArray, List.getElem_cons_zero, List.getElem_cons_succ, Act.put, List.setIfInBounds_toArray, List.set_cons_zero, List.set_cons_succ])
            refine wpAnyH_take (i := 18) (oi := _) (v := ?_) rfl (by kernel_rfl) (by kernel_rfl) (by kernel_rfl) (fun _ _ _ h => h) (Or.inl ⟨by rfl, ?_⟩) (by assumption) ?_
            rotate_left
            · (intro w hSw; (try dsimp only at hSw); go_simp) <;> with_reducible rfl
            (try simp only [List.getElem_toArray, List.getElem_cons_zero, List.getElem_cons_succ, Act.put, List.setIfInBounds_toArray, List.set_cons_zero, List.set_cons_succ])
            refine wpAnyH_ready (rs := [19]) (by kernel_rfl) (by simp) ?_
            refine AllReadyH.cons (o := _) rfl (fun K hK => ?_) AllReadyH.nil
            go_simp
            refine hK.out _ _ ?_ (fun hHeld => ?_)
            · ((try dsimp only); refine HC2.out _ ?_; repeat (first | exact HKR2.out | apply Keep.drew | apply Keep.alloc | refine Keep.setCell ?_ _ _ (fun _ => .inl rfl)))
            clear hK K
            (try simp only [List.getElem_toArray, List.getElem_cons_zero, List.getElem_cons_succ, Act.put, List.setIfInBounds_toArray, List.set_cons_zero, List.set_cons_succ])
            refine wpAnyH_done (by kernel_rfl) ?_ _
            refine NoPanic.normal ?_
            go_wp2
            go_ret2
            refine ⟨by rw [HF.out]; rfl, ⟨b, vb, vl, vc, .slice ao7 (S.tests.length + 1) cap7, .slice ao8 (S.notes.length + 1) cap8⟩, fun _ => by rw [HF.out]; exact H8.out, ?_⟩
            refine HC4.out.trans ⟨rfl, rfl, fun k hk => ?_, (HKR2.out.setCell _ _ (fun _ => .inl rfl)).mono (fun k _ e => e.elim (fun e => ⟨e ▸ H4.out.ge, .inl e⟩) (fun e => ⟨H4.out.fp_ge.2.2.2 k e, .inr (.inr (.inr (.inr (.inr e))))⟩))⟩
            rcases hk with e | e | e | e | e | e
            · exact .inl (.inl e)
            · exact .inl (.inr (.inl e))
            · exact .inl (.inr (.inr (.inl e)))
            · exact .inl (.inr (.inr (.inr (.inl e))))
            · exact .inl (.inr (.inr (.inr (.inr (.inl e)))))
            · rcases HB.out.fresh with h1 | ⟨g, h1, h2⟩
              · exact .inl (.inr (.inr (.inr (.inr (.inr (h1.symm.trans e))))))
              · have h3 : g = k := Option.some.inj (h1.symm.trans e)
                have h4 := (HKR3.out.alloc (.cells #[.string (testNote x word)] 9)).size
                have h5 : (Wc.alloc (.cells #[.string (testNote x word)] 9)).heap.size ≤ g := h2
                exact .inr (by omega)
          · go_simp
            refine hK.out _ _ ?_ (fun hHeld => ?_)
            · ((try dsimp only); refine HC2.out _ ?_; repeat (first | exact HKR2.out | apply Keep.drew | apply Keep.alloc | refine Keep.setCell ?_ _ _ (fun _ => .inl rfl)))
            clear hK K
            (try simp only [List.getElem_toArray, List.getElem_cons_zero, List.getElem_cons_succ, Act.put, List.setIfInBounds_toArray, List.set_cons_zero, List.set_cons_succ])
            refine wpAnyH_ready (rs := [4]) (by kernel_rfl) (by simp) ?_
            refine AllReadyH.cons (o := _) rfl (fun K hK => ?_) AllReadyH.nil
            go_simp
            refine hK.out _ _ ?_ (fun hHeld => ?_)
            · ((try dsimp only); refine HC2.out _ ?_; repeat (first | exact HKR2.out | apply Keep.drew | apply Keep.alloc | refine Keep.setCell ?_ _ _ (fun _ => .inl rfl)))
            clear hK K
            (try simp only [List.getElem_toArray, List.getElem_cons_zero, List.getElem_cons_succ, Act.put, List.setIfInBounds_toArray, List.set_cons_zero, List.set_cons_succ])
            refine wpAnyH_ready (rs := [16]) (by kernel_rfl) (by simp) ?_
            refine AllReadyH.cons (o := _) rfl (fun K hK => ?_) AllReadyH.nil
            rw [if_pos (by rfl)]
            have ho6 : (Wc.alloc (.cells #[.string (testNote x word)] 9)).ownsRow base 9 1 (.slice no' S.notes.length nc') S.notes.length (strCells S.notes) := ownsRow_keep (H4.out.on) (HKR3.out.alloc (.cells #[.string (testNote x word)] 9)) (fun _ _ h => h)
            refine oper_app (.tmp 37) (.tmp 48) 44 44 rfl 9 (.string ⟨#[]⟩) 1 16 Tryz.underlying44 info9 rfl ho6 rfl ((Rd.new Wc 1 1 [.string (testNote x word)] 9 rfl (by simp [Value.oneCell']) (by unfold maxLen; omega)).src Tryz.underlying44) rfl (by unfold maxLen; omega) (by omega) (Nat.le_trans H4.out.lt (HKR3.out.alloc (.cells #[.string (testNote x word)] 9)).size) (fun v' w8 happ => ?_)
            obtain ⟨ao8, cap8, rfl, _⟩ := ownsRow_shape happ.own
            have h6 := H4.out.keep (HKR3.out.alloc (.cells #[.string (testNote x word)] 9)) (fun _ _ h => h)
            have h8 := h6.setNotes (w1 := w8) (v' := .slice ao8 (S.notes.length + 1) cap8) (ls := S.notes ++ [testNote x word]) happ.keep (by have := happ.own; simpa [strCells] using this) happ.fresh
            have hb8 := h6.blk.keep happ.keep h6.nne
            have d4 := hb8.cell 4
            have f4 := hb8.free 4
            simp [StV.cells] at d4 f4
            have HKR2 := Lib.hid (((HKR3.out.alloc (.cells #[.string (testNote x word)] 9)).mono (T := fun k => k = b ∨ (Value.slice no' S.notes.length nc').ownBlock = some k) (fun _ _ h => h.elim)).trans happ.keep (fun _ _ e => .inr e))
            have HB := Lib.hid happ
            have H5 := Lib.hid h6
            have H8 := Lib.hid h8
            clear happ h6 h8 hb8
            (try dsimp only)
            refine hK.out _ _ ?_ (fun hHeld => ?_)
            · ((try dsimp only); refine HC2.out _ ?_; repeat (first | exact HKR2.out | apply Keep.drew | apply Keep.alloc | refine Keep.setCell ?_ _ _ (fun _ => .inl rfl)))
            clear hK K
            (try simp only [List.getElem_toArray, List.getElem_cons_zero, List.getElem_cons_succ, Act.put, List.setIfInBounds_toArray, List.set_cons_zero, List.set_cons_succ])
            refine wpAnyH_take (i := 17) (oi := _) (v := ?_) rfl (by kernel_rfl) (by kernel_rfl) (by kernel_rfl) (fun _ _ _ h => h) (Or.inl ⟨by rfl, ?_⟩) (by assumption) ?_
            rotate_left
            · (intro w hSw; (try dsimp only at hSw); go_simp) <;> with_reducible rfl
            (try simp only [List.getElem_toArray, List.getElem_cons_zero, List.getElem_cons_succ, Act.put, List.setIfInBounds_toArray, List.set_cons_zero, List.set_cons_succ])
            refine wpAnyH_take (i := 18) (oi := _) (v := ?_) rfl (by kernel_rfl) (by kernel_rfl) (by kernel_rfl) (fun _ _ _ h => h) (Or.inl ⟨by rfl, ?_⟩) (by assumption) ?_
            rotate_left
            · (intro w hSw; (try dsimp only at hSw); go_simp) <;> with_reducible rfl
            (try simp only [List.getElem_toArray, List.getElem_cons_zero, List.getElem_cons_succ, Act.put, List.setIfInBounds_toArray, List.set_cons_zero, List.set_cons_succ])
            refine wpAnyH_ready (rs := [19]) (by kernel_rfl) (by simp) ?_
            refine AllReadyH.cons (o := _) rfl (fun K hK => ?_) AllReadyH.nil
            go_simp
            refine hK.out _ _ ?_ (fun hHeld => ?_)
            · ((try dsimp only); refine HC2.out _ ?_; repeat (first | exact HKR2.out | apply Keep.drew | apply Keep.alloc | refine Keep.setCell ?_ _ _ (fun _ => .inl rfl)))
            clear hK K
            (try simp only [List.getElem_toArray, List.getElem_cons_zero, List.getElem_cons_succ, Act.put, List.setIfInBounds_toArray, List.set_cons_zero, List.set_cons_succ])
            refine wpAnyH_done (by kernel_rfl) ?_ _
            refine NoPanic.normal ?_
            go_wp2
            go_ret2
            refine ⟨by rw [HF.out]; rfl, ⟨b, vb, vl, vc, .slice ao7 (S.tests.length + 1) cap7, .slice ao8 (S.notes.length + 1) cap8⟩, fun _ => by rw [HF.out]; exact H8.out, ?_⟩
            refine HC4.out.trans ⟨rfl, rfl, fun k hk => ?_, (HKR2.out.setCell _ _ (fun _ => .inl rfl)).mono (fun k _ e => e.elim (fun e => ⟨e ▸ H4.out.ge, .inl e⟩) (fun e => ⟨H4.out.fp_ge.2.2.2 k e, .inr (.inr (.inr (.inr (.inr e))))⟩))⟩
            rcases hk with e | e | e | e | e | e
            · exact .inl (.inl e)
            · exact .inl (.inr (.inl e))
            · exact .inl (.inr (.inr (.inl e)))
            · exact .inl (.inr (.inr (.inr (.inl e))))
            · exact .inl (.inr (.inr (.inr (.inr (.inl e)))))
            · rcases HB.out.fresh with h1 | ⟨g, h1, h2⟩
              · exact .inl (.inr (.inr (.inr (.inr (.inr (h1.symm.trans e))))))
              · have h3 : g = k := Option.some.inj (h1.symm.trans e)
                have h4 := (HKR3.out.alloc (.cells #[.string (testNote x word)] 9)).size
                have h5 : (Wc.alloc (.cells #[.string (testNote x word)] 9)).heap.size ≤ g := h2
                exact .inr (by omega)
    · have HF := Lib.hid (show testF S ⟨[x], word, aok⟩ = ⟨0, testS S x 0 word, bs [116, 101, 115, 116]⟩ by unfold testF; simp only [List.getD_cons_zero]; rw [hb, if_pos rfl, if_neg hwd])
      have hgl : (word.toList = [103, 111, 111, 100]) = False := eq_false (fun h => hwd ((toList_bs _ _).1 h))
      have hgb : (word.toList == [103, 111, 111, 100]) = false := beq_eq_false_iff_ne.2 (fun h => hwd ((toList_bs _ _).1 h))
      obtain ⟨gd, hgd⟩ : ∃ gd : Int, gd = 0 := ⟨_, rfl⟩
      rw [show testS S x 0 word = testS S x gd word by rw [hgd]] at HF
      have HGD := Lib.hid hgd; clear hgd
      clear hb hwd
      go_enter Tryz.func259, Tryz.ntmps259
      go_wp2_with (go_at_call 262; rw [← HW0.out]; refine HTH.out.mono ?_; rintro e w1 ⟨rfl, hk1⟩; have HK01 := Lib.hid (((Keep.refl (fun _ => False) w0).alloc (.cells #[.int .i64 x] 3)).trans hk1 (fun _ _ h => h)); obtain ⟨a0, a1, a2⟩ := HC.out w1 (HK01.out.mono (fun _ _ h => h.elim)); clear hk1)
      have h1 := H0.out.keep HK01.out (fun _ _ h => h)
      have d3 := h1.blk.cell 3
      have hlt3 := h1.blk.lt
      simp [StV.cells] at d3 hlt3
      have H1 := Lib.hid h1; clear h1
      obtain ⟨w2, hw2⟩ : ∃ w2, w2 = w1.alloc (.cells #[.int .i64 x, .int .i64 gd] 176) := ⟨_, rfl⟩
      have hk12 : Keep (fun _ => False) w1 w2 := by rw [hw2]; exact (Keep.refl _ _).alloc _
      have HK12 := Lib.hid hk12; clear hk12
      have HST : Hid (Src Tryz.prog 2 71 (.slice (some ⟨w1.heap.size, 0, none⟩) 1 1) 1 (pairCell (x, gd)) w2.drew) := Lib.hid (by
        have := Rd.new w1 2 1 (pairCell (x, gd)) 176 rfl (by simp [pairCell, Value.oneCell']) (by unfold maxLen; omega)
        rw [hw2]; exact this.drew.src Tryz.underlying71)
      have HOT : Hid (w2.drew.ownsRow base 176 2 (.slice too S.tests.length tc) S.tests.length (pairCells S.tests)) := Lib.hid (ownsRow_keep H1.out.ot HK12.out.drew (fun _ _ h => h))
      rw [HGD.out] at hw2
      have HW2 := Lib.hid hw2; clear hw2
      have HKR : Hid (Keep (fun k => base ≤ k ∧ StV.fp ⟨b, vb, vl, vc, .slice too S.tests.length tc, .slice no' S.notes.length nc'⟩ k) w0 w1) := Lib.hid (HK01.out.mono (fun _ _ h => h.elim))
      refine wp_region_noPanic ?_
      refine wp_region_held_drew (S := fun W => W.cell? ⟨w.heap.size, 0, none⟩ = some (.slice (some ⟨nb, no, none⟩) 1 nc) ∧ W.cell? ⟨w.heap.size, 1, none⟩ = some (.string word) ∧ W.cell? ⟨nb, no, none⟩ = some (.int .i64 x)) (by kernel_rfl) (HC.out _ HKR.out.drew) (fun hHeld => ?_)
      refine wpAnyH_take (i := 0) (oi := _) (v := ?_) rfl (by kernel_rfl) (by kernel_rfl) (by kernel_rfl) (fun _ _ _ h => h) (Or.inl ⟨by rfl, ?_⟩) (by assumption) ?_
      rotate_left
      · (intro w hSw; (try dsimp only at hSw); go_simp) <;> with_reducible rfl
      (try simp only [List.getElem_toArray, List.getElem_cons_zero, List.getElem_cons_succ, Act.put, List.setIfInBounds_toArray, List.set_cons_zero, List.set_cons_succ])
      refine wpAnyH_take (i := 1) (oi := _) (v := ?_) rfl (by kernel_rfl) (by kernel_rfl) (by kernel_rfl) (fun _ _ _ h => h) (Or.inl ⟨by rfl, ?_⟩) (by assumption) ?_
      rotate_left
      · (intro w hSw; (try dsimp only at hSw); go_simp) <;> with_reducible rfl
      (try simp only [List.getElem_toArray, List.getElem_cons_zero, List.getElem_cons_succ, Act.put, List.setIfInBounds_toArray, List.set_cons_zero, List.set_cons_succ])
      refine wpAnyH_take (i := 2) (oi := _) (v := ?_) rfl (by kernel_rfl) (by kernel_rfl) (by kernel_rfl) (fun _ _ _ h => h) (Or.inl ⟨by rfl, ?_⟩) (by assumption) ?_
      rotate_left
      · (intro w hSw; (try dsimp only at hSw); go_simp) <;> with_reducible rfl
      (try simp only [List.getElem_toArray, List.getElem_cons_zero, List.getElem_cons_succ, Act.put, List.setIfInBounds_toArray, List.set_cons_zero, List.set_cons_succ])
      refine wpAnyH_take (i := 3) (oi := _) (v := ?_) rfl (by kernel_rfl) (by kernel_rfl) (by kernel_rfl) (fun _ _ _ h => h) (Or.inl ⟨by rfl, ?_⟩) (by assumption) ?_
      rotate_left
      · (intro w hSw; (try dsimp only at hSw); go_simp) <;> with_reducible rfl
      (try simp only [List.getElem_toArray, List.getElem_cons_zero, List.getElem_cons_succ, Act.put, List.setIfInBounds_toArray, List.set_cons_zero, List.set_cons_succ])
      refine wpAnyH_take (i := 5) (oi := _) (v := ?_) rfl (by kernel_rfl) (by kernel_rfl) (by kernel_rfl) (fun _ _ _ h => h) (Or.inl ⟨by rfl, ?_⟩) (by assumption) ?_
      rotate_left
      · (intro w hSw; (try dsimp only at hSw); go_simp) <;> with_reducible rfl
      (try simp only [List.getElem_toArray, List.getElem_cons_zero, List.getElem_cons_succ, Act.put, List.setIfInBounds_toArray, List.set_cons_zero, List.set_cons_succ])
      refine wpAnyH_take (i := 6) (oi := _) (v := ?_) rfl (by kernel_rfl) (by kernel_rfl) (by kernel_rfl) (fun _ _ _ h => h) (Or.inl ⟨by rfl, ?_⟩) (by assumption) ?_
      rotate_left
      · (intro w hSw; (try dsimp only at hSw); go_simp) <;> with_reducible rfl
      (try simp only [List.getElem_toArray, List.getElem_cons_zero, List.getElem_cons_succ, Act.put, List.setIfInBounds_toArray, List.set_cons_zero, List.set_cons_succ])
      refine wpAnyH_take (i := 7) (oi := _) (v := ?_) rfl (by kernel_rfl) (by kernel_rfl) (by kernel_rfl) (fun _ _ _ h => h) (Or.inl ⟨by rfl, ?_⟩) (by assumption) ?_
      rotate_left
      · (intro w hSw; (try dsimp only at hSw); go_simp) <;> with_reducible rfl
      (try simp only [List.getElem_toArray, List.getElem_cons_zero, List.getElem_cons_succ, Act.put, List.setIfInBounds_toArray, List.set_cons_zero, List.set_cons_succ])
      refine wpAnyH_take (i := 8) (oi := _) (v := ?_) rfl (by kernel_rfl) (by kernel_rfl) (by kernel_rfl) (fun _ _ _ h => h) (Or.inl ⟨by rfl, ?_⟩) (by assumption) ?_
      rotate_left
      · (intro w hSw; (try dsimp only at hSw); go_simp) <;> with_reducible rfl
      (try simp only [List.getElem_toArray, List.getElem_cons_zero, List.getElem_cons_succ, Act.put, List.setIfInBounds_toArray, List.set_cons_zero, List.set_cons_succ])
      refine wpAnyH_take (i := 9) (oi := _) (v := ?_) rfl (by kernel_rfl) (by kernel_rfl) (by kernel_rfl) (fun _ _ _ h => h) (Or.inl ⟨by rfl, ?_⟩) (by assumption) ?_
      rotate_left
      · (intro w hSw; (try dsimp only at hSw); go_simp) <;> with_reducible rfl
      (try simp only [List.getElem_toArray, List.getElem_cons_zero, List.getElem_cons_succ, Act.put, List.setIfInBounds_toArray, List.set_cons_zero, List.set_cons_succ])
      refine wpAnyH_take (i := 10) (oi := _) (v := ?_) rfl (by kernel_rfl) (by kernel_rfl) (by kernel_rfl) (fun _ _ _ h => h) (Or.inl ⟨by rfl, ?_⟩) (by assumption) ?_
      rotate_left
      · (intro w hSw; (try dsimp only at hSw); go_simp) <;> with_reducible rfl
      (try simp only [List.getElem_toArray, List.getElem_cons_zero, List.getElem_cons_succ, Act.put, List.setIfInBounds_toArray, List.set_cons_zero, List.set_cons_succ])
      refine wpAnyH_ready (rs := [4, 11]) (by kernel_rfl) (by simp) ?_
      refine AllReadyH.cons (o := _) rfl (fun K hK => ?_) (AllReadyH.cons (o := _) rfl (fun K hK => ?_) AllReadyH.nil)
      · go_simp
        refine hK.out _ _ ?_ (fun hHeld => ?_)
        · ((try dsimp only); refine HC.out _ ?_; repeat (first | exact HKR.out | apply Keep.drew | apply Keep.alloc | refine Keep.setCell ?_ _ _ (fun _ => ⟨HV.out.ge, .inl rfl⟩)))
        clear hK K
        (try simp only [List.getElem_toArray, List.getElem_cons_zero, List.getElem_cons_succ, Act.put, List.setIfInBounds_toArray, List.set_cons_zero, List.set_cons_succ])
        refine wpAnyH_ready (rs := [11]) (by kernel_rfl) (by simp) ?_
        refine AllReadyH.cons (o := _) rfl (fun K hK => ?_) AllReadyH.nil
        go_simp
        refine hK.out _ _ ?_ (fun hHeld => ?_)
        · ((try dsimp only); refine HC.out _ ?_; repeat (first | exact HKR.out | apply Keep.drew | apply Keep.alloc | refine Keep.setCell ?_ _ _ (fun _ => ⟨HV.out.ge, .inl rfl⟩)))
        clear hK K
        (try simp only [List.getElem_toArray, List.getElem_cons_zero, List.getElem_cons_succ, Act.put, List.setIfInBounds_toArray, List.set_cons_zero, List.set_cons_succ])
        refine wpAnyH_ready (rs := [12]) (by kernel_rfl) (by simp) ?_
        refine AllReadyH.cons (o := _) rfl (fun K hK => ?_) AllReadyH.nil
        rw [if_pos (by rfl)]
        rw [← HW2.out]
        refine oper_app (w := w2.drew) (.tmp 22) (.tmp 29) 71 71 rfl 176 zPair 2 16 Tryz.underlying71 info176 rfl HOT.out rfl HST.out rfl (by unfold maxLen; omega) (by omega) (Nat.le_trans H1.out.lt HK12.out.size) (fun v' w7 happ => ?_)
        obtain ⟨ao7, cap7, rfl, _⟩ := ownsRow_shape happ.own
        have h6 := H1.out.keep HK12.out.drew (fun _ _ h => h)
        have h7 := h6.setTests (w1 := w7) (v' := .slice ao7 (S.tests.length + 1) cap7) (ls := S.tests ++ [(x, gd)]) happ.keep (by have := happ.own; simpa [pairCells, pairCell] using this) happ.fresh
        have hb7 := h6.blk.keep happ.keep h6.tne
        have d3 := hb7.cell 3
        have f3 := hb7.free 3
        simp [StV.cells] at d3 f3
        have HKR := Lib.hid (((HK01.out.trans HK12.out.drew (fun _ _ h => h)).mono (T := fun k => base ≤ k ∧ StV.fp ⟨b, vb, vl, vc, .slice too S.tests.length tc, .slice no' S.notes.length nc'⟩ k) (fun _ _ h => h.elim)).trans happ.keep (fun k _ e => ⟨h6.fp_ge.2.2.1 k e, .inr (.inr (.inr (.inr (.inl e))))⟩))
        have HA := Lib.hid happ
        have H6 := Lib.hid h6
        have H7 := Lib.hid h7
        clear happ h6 h7 hb7
        (try dsimp only)
        refine hK.out _ _ ?_ (fun hHeld => ?_)
        · ((try dsimp only); refine HC.out _ ?_; repeat (first | exact HKR.out | apply Keep.drew | apply Keep.alloc | refine Keep.setCell ?_ _ _ (fun _ => ⟨HV.out.ge, .inl rfl⟩)))
        clear hK K
        (try simp only [List.getElem_toArray, List.getElem_cons_zero, List.getElem_cons_succ, Act.put, List.setIfInBounds_toArray, List.set_cons_zero, List.set_cons_succ])
        refine wpAnyH_take (i := 13) (oi := _) (v := ?_) rfl (by kernel_rfl) (by kernel_rfl) (by kernel_rfl) (fun _ _ _ h => h) (Or.inl ⟨by rfl, ?_⟩) (by assumption) ?_
        rotate_left
        · (intro w hSw; (try dsimp only at hSw); go_simp) <;> with_reducible rfl
        (try simp only [List.getElem_toArray, List.getElem_cons_zero, List.getElem_cons_succ, Act.put, List.setIfInBounds_toArray, List.set_cons_zero, List.set_cons_succ])
        refine wpAnyH_take (i := 14) (oi := _) (v := ?_) rfl (by kernel_rfl) (by kernel_rfl) (by kernel_rfl) (fun _ _ _ h => h) (Or.inl ⟨by rfl, ?_⟩) (by assumption) ?_
        rotate_left
        · (intro w hSw; (try dsimp only at hSw); go_simp) <;> with_reducible rfl
        (try simp only [List.getElem_toArray, List.getElem_cons_zero, List.getElem_cons_succ, Act.put, List.setIfInBounds_toArray, List.set_cons_zero, List.set_cons_succ])
        refine wpAnyH_ready (rs := [15]) (by kernel_rfl) (by simp) ?_
        refine AllReadyH.cons (o := _) rfl (fun K hK => ?_) AllReadyH.nil
        go_simp
        refine hK.out _ _ ?_ (fun hHeld => ?_)
        · ((try dsimp only); refine HC.out _ ?_; repeat (first | exact HKR.out | apply Keep.drew | apply Keep.alloc | refine Keep.setCell ?_ _ _ (fun _ => ⟨HV.out.ge, .inl rfl⟩)))
        clear hK K
        (try simp only [List.getElem_toArray, List.getElem_cons_zero, List.getElem_cons_succ, Act.put, List.setIfInBounds_toArray, List.set_cons_zero, List.set_cons_succ])
        refine wpAnyH_done (by kernel_rfl) ?_ _
        refine NoPanic.normal ?_
        go_wp2
        obtain ⟨w4, hw4⟩ : ∃ w4, w4 = w7.setCell ⟨b, 3, none⟩ (.slice ao7 (S.tests.length + 1) cap7) := ⟨_, rfl⟩
        have hch : Chg base w1 ⟨b, vb, vl, vc, .slice too S.tests.length tc, .slice no' S.notes.length nc'⟩ ⟨b, vb, vl, vc, .slice ao7 (S.tests.length + 1) cap7, .slice no' S.notes.length nc'⟩ (w7.setCell ⟨b, 3, none⟩ (.slice ao7 (S.tests.length + 1) cap7)) := by
          refine ⟨rfl, rfl, fun k hk => ?_, ((HK12.out.drew.mono (fun _ _ h => h.elim)).trans (HA.out.keep.mono (T := fun k => base ≤ k ∧ StV.fp ⟨b, vb, vl, vc, .slice too S.tests.length tc, .slice no' S.notes.length nc'⟩ k) (fun k _ e => ⟨H6.out.fp_ge.2.2.1 k e, .inr (.inr (.inr (.inr (.inl e))))⟩)) (fun _ _ h => h)).setCell _ _ (fun _ => ⟨H1.out.ge, .inl rfl⟩)⟩
          rcases hk with e | e | e | e | e | e
          · exact .inl (.inl e)
          · exact .inl (.inr (.inl e))
          · exact .inl (.inr (.inr (.inl e)))
          · exact .inl (.inr (.inr (.inr (.inl e))))
          · rcases HA.out.fresh with h1 | ⟨g, h1, h2⟩
            · exact .inl (.inr (.inr (.inr (.inr (.inl (h1.symm.trans e))))))
            · have h3 : g = k := Option.some.inj (h1.symm.trans e)
              have h4 := HK12.out.size
              have h5 : w2.heap.size ≤ g := h2
              exact .inr (by omega)
          · exact .inl (.inr (.inr (.inr (.inr (.inr e)))))
        have HC4 := Lib.hid ((Chg.before (HK0.out.trans HK01.out (fun _ _ h => h)) hch))
        have hkw4 := HKR.out.setCell ⟨b, 3, none⟩ (.slice ao7 (S.tests.length + 1) cap7) (fun _ => ⟨HV.out.ge, .inl rfl⟩)
        have H4 := H7
        rw [← hw4] at H4 HC4 hkw4
        rw [← hw4]
        have HKW4 := Lib.hid hkw4
        clear H7 hw4 d3 f3 hch hkw4
        have d4 := H4.out.blk.cell 4
        simp [StV.cells] at d4
        have HG4 := Lib.hid (hG.keep HC4.out.keep (fun i hi e => by have := e.1; omega))
        have HIT : Hid (∀ W, Keep (fun _ => False) w4 W → Calls Tryz.prog 96 #[.int .i64 x] W (ItoaPost W x)) := Lib.hid fun W hk => itoa_any (HG4.out.glob.keep hk) HX.out.1 HX.out.2
        have HKR3 : Hid (Keep (fun _ => False) w4 w4.drew) := Lib.hid (Keep.refl _ _).drew
        have HKR2 : Hid (Keep (fun k => k = b ∨ (Value.slice no' S.notes.length nc').ownBlock = some k) w4 w4.drew) := Lib.hid (Keep.refl _ _).drew
        have HC2 : Hid (∀ W, Keep (fun k => k = b ∨ (Value.slice no' S.notes.length nc').ownBlock = some k) w4 W → (fun W => W.cell? ⟨w.heap.size, 0, none⟩ = some (.slice (some ⟨nb, no, none⟩) 1 nc) ∧ W.cell? ⟨w.heap.size, 1, none⟩ = some (.string word) ∧ W.cell? ⟨nb, no, none⟩ = some (.int .i64 x)) W) := Lib.hid fun W hk => HC.out W (HKW4.out.trans hk (fun k _ e => e.elim (fun e => ⟨e ▸ HV.out.ge, .inl e⟩) (fun e => ⟨HV.out.fp_ge.2.2.2 k e, .inr (.inr (.inr (.inr (.inr e))))⟩)))
        refine wp_region_noPanic ?_
        refine wp_region_held_drew (S := fun W => W.cell? ⟨w.heap.size, 0, none⟩ = some (.slice (some ⟨nb, no, none⟩) 1 nc) ∧ W.cell? ⟨w.heap.size, 1, none⟩ = some (.string word) ∧ W.cell? ⟨nb, no, none⟩ = some (.int .i64 x)) (by kernel_rfl) (HC2.out _ HKR2.out) (fun hHeld => ?_)
        refine wpAnyH_take (i := 0) (oi := _) (v := ?_) rfl (by kernel_rfl) (by kernel_rfl) (by kernel_rfl) (fun _ _ _ h => h) (Or.inl ⟨by rfl, ?_⟩) (by assumption) ?_
        rotate_left
        · (intro w hSw; (try dsimp only at hSw); go_simp) <;> with_reducible rfl
        (try simp only [List.getElem_toArray, List.getElem_cons_zero, List.getElem_cons_succ, Act.put, List.setIfInBounds_toArray, List.set_cons_zero, List.set_cons_succ])
        refine wpAnyH_take (i := 1) (oi := _) (v := ?_) rfl (by kernel_rfl) (by kernel_rfl) (by kernel_rfl) (fun _ _ _ h => h) (Or.inl ⟨by rfl, ?_⟩) (by assumption) ?_
        rotate_left
        · (intro w hSw; (try dsimp only at hSw); go_simp) <;> with_reducible rfl
        (try simp only [List.getElem_toArray, List.getElem_cons_zero, List.getElem_cons_succ, Act.put, List.setIfInBounds_toArray, List.set_cons_zero, List.set_cons_succ])
        refine wpAnyH_take (i := 2) (oi := _) (v := ?_) rfl (by kernel_rfl) (by kernel_rfl) (by kernel_rfl) (fun _ _ _ h => h) (Or.inl ⟨by rfl, ?_⟩) (by assumption) ?_
        rotate_left
        · (intro w hSw; (try dsimp only at hSw); go_simp) <;> with_reducible rfl
        (try simp only [List.getElem_toArray, List.getElem_cons_zero, List.getElem_cons_succ, Act.put, List.setIfInBounds_toArray, List.set_cons_zero, List.set_cons_succ])
        refine wpAnyH_take (i := 3) (oi := _) (v := ?_) rfl (by kernel_rfl) (by kernel_rfl) (by kernel_rfl) (fun _ _ _ h => h) (Or.inl ⟨by rfl, ?_⟩) (by assumption) ?_
        rotate_left
        · (intro w hSw; (try dsimp only at hSw); go_simp) <;> with_reducible rfl
        (try simp only [List.getElem_toArray, List.getElem_cons_zero, List.getElem_cons_succ, Act.put, List.setIfInBounds_toArray, List.set_cons_zero, List.set_cons_succ])
        refine wpAnyH_take (i := 5) (oi := _) (v := ?_) rfl (by kernel_rfl) (by kernel_rfl) (by kernel_rfl) (fun _ _ _ h => h) (Or.inl ⟨by rfl, ?_⟩) (by assumption) ?_
        rotate_left
        · (intro w hSw; (try dsimp only at hSw); go_simp) <;> with_reducible rfl
        (try simp only [List.getElem_toArray, List.getElem_cons_zero, List.getElem_cons_succ, Act.put, List.setIfInBounds_toArray, List.set_cons_zero, List.set_cons_succ])
        refine wpAnyH_take (i := 6) (oi := _) (v := ?_) rfl (by kernel_rfl) (by kernel_rfl) (by kernel_rfl) (fun _ _ _ h => h) (Or.inl ⟨by rfl, ?_⟩) (by assumption) ?_
        rotate_left
        · (intro w hSw; (try dsimp only at hSw); go_simp) <;> with_reducible rfl
        (try simp only [List.getElem_toArray, List.getElem_cons_zero, List.getElem_cons_succ, Act.put, List.setIfInBounds_toArray, List.set_cons_zero, List.set_cons_succ])
        refine wpAnyH_take (i := 7) (oi := _) (v := ?_) rfl (by kernel_rfl) (by kernel_rfl) (by kernel_rfl) (fun _ _ _ h => h) (Or.inl ⟨by rfl, ?_⟩) (by assumption) ?_
        rotate_left
        · (intro w hSw; (try dsimp only at hSw); go_simp) <;> with_reducible rfl
        (try simp only [List.getElem_toArray, List.getElem_cons_zero, List.getElem_cons_succ, Act.put, List.setIfInBounds_toArray, List.set_cons_zero, List.set_cons_succ])
        refine wpAnyH_take (i := 8) (oi := _) (v := ?_) rfl (by kernel_rfl) (by kernel_rfl) (by kernel_rfl) (fun _ _ _ h => h) (Or.inl ⟨by rfl, ?_⟩) (by assumption) ?_
        rotate_left
        · (intro w hSw; (try dsimp only at hSw); go_simp) <;> with_reducible rfl
        (try simp only [List.getElem_toArray, List.getElem_cons_zero, List.getElem_cons_succ, Act.put, List.setIfInBounds_toArray, List.set_cons_zero, List.set_cons_succ])
        refine wpAnyH_take (i := 12) (oi := _) (v := ?_) rfl (by kernel_rfl) (by kernel_rfl) (by kernel_rfl) (fun _ _ _ h => h) (Or.inl ⟨by rfl, ?_⟩) (by assumption) ?_
        rotate_left
        · (intro w hSw; (try dsimp only at hSw); go_simp) <;> with_reducible rfl
        (try simp only [List.getElem_toArray, List.getElem_cons_zero, List.getElem_cons_succ, Act.put, List.setIfInBounds_toArray, List.set_cons_zero, List.set_cons_succ])
        refine wpAnyH_take (i := 13) (oi := _) (v := ?_) rfl (by kernel_rfl) (by kernel_rfl) (by kernel_rfl) (fun _ _ _ h => h) (Or.inl ⟨by rfl, ?_⟩) (by assumption) ?_
        rotate_left
        · (intro w hSw; (try dsimp only at hSw); go_simp) <;> with_reducible rfl
        (try simp only [List.getElem_toArray, List.getElem_cons_zero, List.getElem_cons_succ, Act.put, List.setIfInBounds_toArray, List.set_cons_zero, List.set_cons_succ])
        refine wpAnyH_ready (rs := [4, 9]) (by kernel_rfl) (by simp) ?_
        refine AllReadyH.cons (o := _) rfl (fun K hK => ?_) (AllReadyH.cons (o := _) rfl (fun K hK => ?_) AllReadyH.nil)
        · go_simp
          refine hK.out _ _ ?_ (fun hHeld => ?_)
          · ((try dsimp only); refine HC2.out _ ?_; repeat (first | exact HKR2.out | apply Keep.drew | apply Keep.alloc | refine Keep.setCell ?_ _ _ (fun _ => .inl rfl)))
          clear hK K
          (try simp only [List.getElem_toArray, List.getElem_cons_zero, List.getElem_cons_succ, Act.put, List.setIfInBounds_toArray, List.set_cons_zero, List.set_cons_succ])
          refine wpAnyH_ready (rs := [9]) (by kernel_rfl) (by simp) ?_
          refine AllReadyH.cons (o := _) rfl (fun K hK => ?_) AllReadyH.nil
          go_simp
          refine Calls.mono (HIT.out _ HKR3.out) ?_
          rintro e Wc ⟨rfl, hkc⟩
          have HKR3 := Lib.hid (HKR3.out.trans hkc (fun _ _ h => h))
          have HKR2 := Lib.hid (HKR3.out.mono (T := fun k => k = b ∨ (Value.slice no' S.notes.length nc').ownBlock = some k) (fun _ _ h => h.elim))
          have d4 := (H4.out.keep HKR3.out (fun _ _ h => h)).blk.cell 4
          simp [StV.cells] at d4
          have hlt4 : b < Wc.heap.size := (H4.out.keep HKR3.out (fun _ _ h => h)).blk.lt
          clear hkc
          (try dsimp only)
          refine hK.out _ _ ?_ (fun hHeld => ?_)
          · ((try dsimp only); refine HC2.out _ ?_; repeat (first | exact HKR2.out | apply Keep.drew | apply Keep.alloc | refine Keep.setCell ?_ _ _ (fun _ => .inl rfl)))
          clear hK K
          (try simp only [List.getElem_toArray, List.getElem_cons_zero, List.getElem_cons_succ, Act.put, List.setIfInBounds_toArray, List.set_cons_zero, List.set_cons_succ])
          refine wpAnyH_take (i := 10) (oi := _) (v := ?_) rfl (by kernel_rfl) (by kernel_rfl) (by kernel_rfl) (fun _ _ _ h => h) (Or.inl ⟨by rfl, ?_⟩) (by assumption) ?_
          rotate_left
          · (intro w hSw; (try dsimp only at hSw); go_simp) <;> with_reducible rfl
          (try simp only [List.getElem_toArray, List.getElem_cons_zero, List.getElem_cons_succ, Act.put, List.setIfInBounds_toArray, List.set_cons_zero, List.set_cons_succ])
          refine wpAnyH_take (i := 11) (oi := _) (v := ?_) rfl (by kernel_rfl) (by kernel_rfl) (by kernel_rfl) (fun _ _ _ h => h) (Or.inl ⟨by rfl, ?_⟩) (by assumption) ?_
          rotate_left
          · (intro w hSw; (try dsimp only at hSw); go_simp) <;> with_reducible rfl
          (try simp only [List.getElem_toArray, List.getElem_cons_zero, List.getElem_cons_succ, Act.put, List.setIfInBounds_toArray, List.set_cons_zero, List.set_cons_succ])
          refine wpAnyH_take (i := 14) (oi := _) (v := ?_) rfl (by kernel_rfl) (by kernel_rfl) (by kernel_rfl) (fun _ _ _ h => h) (Or.inl ⟨by rfl, ?_⟩) (by assumption) ?_
          rotate_left
          · (intro w hSw; (try dsimp only at hSw); go_simp) <;> with_reducible rfl
          (try simp only [List.getElem_toArray, List.getElem_cons_zero, List.getElem_cons_succ, Act.put, List.setIfInBounds_toArray, List.set_cons_zero, List.set_cons_succ])
          refine wpAnyH_ready (rs := [15]) (by kernel_rfl) (by simp) ?_
          refine AllReadyH.cons (o := _) rfl (fun K hK => ?_) AllReadyH.nil
          go_simp
          refine hK.out _ _ ?_ (fun hHeld => ?_)
          · ((try dsimp only); refine HC2.out _ ?_; repeat (first | exact HKR2.out | apply Keep.drew | apply Keep.alloc | refine Keep.setCell ?_ _ _ (fun _ => .inl rfl)))
          clear hK K
          (try simp only [List.getElem_toArray, List.getElem_cons_zero, List.getElem_cons_succ, Act.put, List.setIfInBounds_toArray, List.set_cons_zero, List.set_cons_succ])
          refine wpAnyH_ready (rs := [16]) (by kernel_rfl) (by simp) ?_
          refine AllReadyH.cons (o := _) rfl (fun K hK => ?_) AllReadyH.nil
          rw [if_pos (by rfl)]
          have ho6 : (Wc.alloc (.cells #[.string (testNote x word)] 9)).ownsRow base 9 1 (.slice no' S.notes.length nc') S.notes.length (strCells S.notes) := ownsRow_keep (H4.out.on) (HKR3.out.alloc (.cells #[.string (testNote x word)] 9)) (fun _ _ h => h)
          refine oper_app (.tmp 37) (.tmp 48) 44 44 rfl 9 (.string ⟨#[]⟩) 1 16 Tryz.underlying44 info9 rfl ho6 rfl ((Rd.new Wc 1 1 [.string (testNote x word)] 9 rfl (by simp [Value.oneCell']) (by unfold maxLen; omega)).src Tryz.underlying44) rfl (by unfold maxLen; omega) (by omega) (Nat.le_trans H4.out.lt (HKR3.out.alloc (.cells #[.string (testNote x word)] 9)).size) (fun v' w8 happ => ?_)
          obtain ⟨ao8, cap8, rfl, _⟩ := ownsRow_shape happ.own
          have h6 := H4.out.keep (HKR3.out.alloc (.cells #[.string (testNote x word)] 9)) (fun _ _ h => h)
          have h8 := h6.setNotes (w1 := w8) (v' := .slice ao8 (S.notes.length + 1) cap8) (ls := S.notes ++ [testNote x word]) happ.keep (by have := happ.own; simpa [strCells] using this) happ.fresh
          have hb8 := h6.blk.keep happ.keep h6.nne
          have d4 := hb8.cell 4
          have f4 := hb8.free 4
          simp [StV.cells] at d4 f4
          have HKR2 := Lib.hid (((HKR3.out.alloc (.cells #[.string (testNote x word)] 9)).mono (T := fun k => k = b ∨ (Value.slice no' S.notes.length nc').ownBlock = some k) (fun _ _ h => h.elim)).trans happ.keep (fun _ _ e => .inr e))
          have HB := Lib.hid happ
          have H5 := Lib.hid h6
          have H8 := Lib.hid h8
          clear happ h6 h8 hb8
          (try dsimp only)
          refine hK.out _ _ ?_ (fun hHeld => ?_)
          · ((try dsimp only); refine HC2.out _ ?_; repeat (first | exact HKR2.out | apply Keep.drew | apply Keep.alloc | refine Keep.setCell ?_ _ _ (fun _ => .inl rfl)))
          clear hK K
          (try simp only [List.getElem_toArray, List.getElem_cons_zero, List.getElem_cons_succ, Act.put, List.setIfInBounds_toArray, List.set_cons_zero, List.set_cons_succ])
          refine wpAnyH_take (i := 17) (oi := _) (v := ?_) rfl (by kernel_rfl) (by kernel_rfl) (by kernel_rfl) (fun _ _ _ h => h) (Or.inl ⟨by rfl, ?_⟩) (by assumption) ?_
          rotate_left
          · (intro w hSw; (try dsimp only at hSw); go_simp) <;> with_reducible rfl
          (try simp only [List.getElem_toArray, List.getElem_cons_zero, List.getElem_cons_succ, Act.put, List.setIfInBounds_toArray, List.set_cons_zero, List.set_cons_succ])
          refine wpAnyH_take (i := 18) (oi := _) (v := ?_) rfl (by kernel_rfl) (by kernel_rfl) (by kernel_rfl) (fun _ _ _ h => h) (Or.inl ⟨by rfl, ?_⟩) (by assumption) ?_
          rotate_left
          · (intro w hSw; (try dsimp only at hSw); go_simp) <;> with_reducible rfl
          (try simp only [List.getElem_toArray, List.getElem_cons_zero, List.getElem_cons_succ, Act.put, List.setIfInBounds_toArray, List.set_cons_zero, List.set_cons_succ])
          refine wpAnyH_ready (rs := [19]) (by kernel_rfl) (by simp) ?_
          refine AllReadyH.cons (o := _) rfl (fun K hK => ?_) AllReadyH.nil
          go_simp
          refine hK.out _ _ ?_ (fun hHeld => ?_)
          · ((try dsimp only); refine HC2.out _ ?_; repeat (first | exact HKR2.out | apply Keep.drew | apply Keep.alloc | refine Keep.setCell ?_ _ _ (fun _ => .inl rfl)))
          clear hK K
          (try simp only [List.getElem_toArray, List.getElem_cons_zero, List.getElem_cons_succ, Act.put, List.setIfInBounds_toArray, List.set_cons_zero, List.set_cons_succ])
          refine wpAnyH_done (by kernel_rfl) ?_ _
          refine NoPanic.normal ?_
          go_wp2
          go_ret2
          refine ⟨by rw [HF.out]; rfl, ⟨b, vb, vl, vc, .slice ao7 (S.tests.length + 1) cap7, .slice ao8 (S.notes.length + 1) cap8⟩, fun _ => by rw [HF.out]; exact H8.out, ?_⟩
          refine HC4.out.trans ⟨rfl, rfl, fun k hk => ?_, (HKR2.out.setCell _ _ (fun _ => .inl rfl)).mono (fun k _ e => e.elim (fun e => ⟨e ▸ H4.out.ge, .inl e⟩) (fun e => ⟨H4.out.fp_ge.2.2.2 k e, .inr (.inr (.inr (.inr (.inr e))))⟩))⟩
          rcases hk with e | e | e | e | e | e
          · exact .inl (.inl e)
          · exact .inl (.inr (.inl e))
          · exact .inl (.inr (.inr (.inl e)))
          · exact .inl (.inr (.inr (.inr (.inl e))))
          · exact .inl (.inr (.inr (.inr (.inr (.inl e)))))
          · rcases HB.out.fresh with h1 | ⟨g, h1, h2⟩
            · exact .inl (.inr (.inr (.inr (.inr (.inr (h1.symm.trans e))))))
            · have h3 : g = k := Option.some.inj (h1.symm.trans e)
              have h4 := (HKR3.out.alloc (.cells #[.string (testNote x word)] 9)).size
              have h5 : (Wc.alloc (.cells #[.string (testNote x word)] 9)).heap.size ≤ g := h2
              exact .inr (by omega)
        · go_simp
          refine Calls.mono (HIT.out _ HKR3.out) ?_
          rintro e Wc ⟨rfl, hkc⟩
          have HKR3 := Lib.hid (HKR3.out.trans hkc (fun _ _ h => h))
          have HKR2 := Lib.hid (HKR3.out.mono (T := fun k => k = b ∨ (Value.slice no' S.notes.length nc').ownBlock = some k) (fun _ _ h => h.elim))
          have d4 := (H4.out.keep HKR3.out (fun _ _ h => h)).blk.cell 4
          simp [StV.cells] at d4
          have hlt4 : b < Wc.heap.size := (H4.out.keep HKR3.out (fun _ _ h => h)).blk.lt
          clear hkc
          (try dsimp only)
          refine hK.out _ _ ?_ (fun hHeld => ?_)
          · ((try dsimp only); refine HC2.out _ ?_; repeat (first | exact HKR2.out | apply Keep.drew | apply Keep.alloc | refine Keep.setCell ?_ _ _ (fun _ => .inl rfl)))
          clear hK K
          (try simp only [List.getElem_toArray, List.getElem_cons_zero, List.getElem_cons_succ, Act.put, List.setIfInBounds_toArray, List.set_cons_zero, List.set_cons_succ])
          refine wpAnyH_take (i := 10) (oi := _) (v := ?_) rfl (by kernel_rfl) (by kernel_rfl) (by kernel_rfl) (fun _ _ _ h => h) (Or.inl ⟨by rfl, ?_⟩) (by assumption) ?_
          rotate_left
          · (intro w hSw; (try dsimp only at hSw); go_simp) <;> with_reducible rfl
          (try simp only [List.getElem_toArray, List.getElem_cons_zero, List.getElem_cons_succ, Act.put, List.setIfInBounds_toArray, List.set_cons_zero, List.set_cons_succ])
          refine wpAnyH_take (i := 11) (oi := _) (v := ?_) rfl (by kernel_rfl) (by kernel_rfl) (by kernel_rfl) (fun _ _ _ h => h) (Or.inl ⟨by rfl, ?_⟩) (by assumption) ?_
          rotate_left
          · (intro w hSw; (try dsimp only at hSw); go_simp) <;> with_reducible rfl
          (try simp only [List.getElem_toArray, List.getElem_cons_zero, List.getElem_cons_succ, Act.put, List.setIfInBounds_toArray, List.set_cons_zero, List.set_cons_succ])
          refine wpAnyH_take (i := 14) (oi := _) (v := ?_) rfl (by kernel_rfl) (by kernel_rfl) (by kernel_rfl) (fun _ _ _ h => h) (Or.inl ⟨by rfl, ?_⟩) (by assumption) ?_
          rotate_left
          · (intro w hSw; (try dsimp only at hSw); go_simp) <;> with_reducible rfl
          (try simp only [List.getElem_toArray, List.getElem_cons_zero, List.getElem_cons_succ, Act.put, List.setIfInBounds_toArray, List.set_cons_zero, List.set_cons_succ])
          refine wpAnyH_ready (rs := [4, 15]) (by kernel_rfl) (by simp) ?_
          refine AllReadyH.cons (o := _) rfl (fun K hK => ?_) (AllReadyH.cons (o := _) rfl (fun K hK => ?_) AllReadyH.nil)
          · go_simp
            refine hK.out _ _ ?_ (fun hHeld => ?_)
            · ((try dsimp only); refine HC2.out _ ?_; repeat (first | exact HKR2.out | apply Keep.drew | apply Keep.alloc | refine Keep.setCell ?_ _ _ (fun _ => .inl rfl)))
            clear hK K
            (try simp only [List.getElem_toArray, List.getElem_cons_zero, List.getElem_cons_succ, Act.put, List.setIfInBounds_toArray, List.set_cons_zero, List.set_cons_succ])
            refine wpAnyH_ready (rs := [15]) (by kernel_rfl) (by simp) ?_
            refine AllReadyH.cons (o := _) rfl (fun K hK => ?_) AllReadyH.nil
            go_simp
            refine hK.out _ _ ?_ (fun hHeld => ?_)
            · ((try dsimp only); refine HC2.out _ ?_; repeat (first | exact HKR2.out | apply Keep.drew | apply Keep.alloc | refine Keep.setCell ?_ _ _ (fun _ => .inl rfl)))
            clear hK K
            (try simp only [List.getElem_toArray, List.getElem_cons_zero, List.getElem_cons_succ, Act.put, List.setIfInBounds_toArray, List.set_cons_zero, List.set_cons_succ])
            refine wpAnyH_ready (rs := [16]) (by kernel_rfl) (by simp) ?_
            refine AllReadyH.cons (o := _) rfl (fun K hK => ?_) AllReadyH.nil
            rw [if_pos (by rfl)]
            have ho6 : (Wc.alloc (.cells #[.string (testNote x word)] 9)).ownsRow base 9 1 (.slice no' S.notes.length nc') S.notes.length (strCells S.notes) := ownsRow_keep (H4.out.on) (HKR3.out.alloc (.cells #[.string (testNote x word)] 9)) (fun _ _ h => h)
            refine oper_app (.tmp 37) (.tmp 48) 44 44 rfl 9 (.string ⟨#[]⟩) 1 16 Tryz.underlying44 info9 rfl ho6 rfl ((Rd.new Wc 1 1 [.string (testNote x word)] 9 rfl (by simp [Value.oneCell']) (by unfold maxLen; omega)).src Tryz.underlying44) rfl (by unfold maxLen; omega) (by omega) (Nat.le_trans H4.out.lt (HKR3.out.alloc (.cells #[.string (testNote x word)] 9)).size) (fun v' w8 happ => ?_)
            obtain ⟨ao8, cap8, rfl, _⟩ := ownsRow_shape happ.own
            have h6 := H4.out.keep (HKR3.out.alloc (.cells #[.string (testNote x word)] 9)) (fun _ _ h => h)
            have h8 := h6.setNotes (w1 := w8) (v' := .slice ao8 (S.notes.length + 1) cap8) (ls := S.notes ++ [testNote x word]) happ.keep (by have := happ.own; simpa [strCells] using this) happ.fresh
            have hb8 := h6.blk.keep happ.keep h6.nne
            have d4 := hb8.cell 4
            have f4 := hb8.free 4
            simp [StV.cells] at d4 f4
            have HKR2 := Lib.hid (((HKR3.out.alloc (.cells #[.string (testNote x word)] 9)).mono (T := fun k => k = b ∨ (Value.slice no' S.notes.length nc').ownBlock = some k) (fun _ _ h => h.elim)).trans happ.keep (fun _ _ e => .inr e))
            have HB := Lib.hid happ
            have H5 := Lib.hid h6
            have H8 := Lib.hid h8
            clear happ h6 h8 hb8
            (try dsimp only)
            refine hK.out _ _ ?_ (fun hHeld => ?_)
            · ((try dsimp only); refine HC2.out _ ?_; repeat (first | exact HKR2.out | apply Keep.drew | apply Keep.alloc | refine Keep.setCell ?_ _ _ (fun _ => .inl rfl)))
            clear hK K
            (try simp only [List.getElem_toArray, List.getElem_cons_zero, List.getElem_cons_succ, Act.put, List.setIfInBounds_toArray, List.set_cons_zero, List.set_cons_succ])
            refine wpAnyH_take (i := 17) (oi := _) (v := ?_) rfl (by kernel_rfl) (by kernel_rfl) (by kernel_rfl) (fun _ _ _ h => h) (Or.inl ⟨by rfl, ?_⟩) (by assumption) ?_
            rotate_left
            · (intro w hSw; (try dsimp only at hSw); go_simp) <;> with_reducible rfl
            (try simp only [List.getElem_toArray, List.getElem_cons_zero, List.getElem_cons_succ, Act.put, List.setIfInBounds_toArray, List.set_cons_zero, List.set_cons_succ])
            refine wpAnyH_take (i := 18) (oi := _) (v := ?_) rfl (by kernel_rfl) (by kernel_rfl) (by kernel_rfl) (fun _ _ _ h => h) (Or.inl ⟨by rfl, ?_⟩) (by assumption) ?_
            rotate_left
            · (intro w hSw; (try dsimp only at hSw); go_simp) <;> with_reducible rfl
            (try simp only [List.getElem_toArray, List.getElem_cons_zero, List.getElem_cons_succ, Act.put, List.setIfInBounds_toArray, List.set_cons_zero, List.set_cons_succ])
            refine wpAnyH_ready (rs := [19]) (by kernel_rfl) (by simp) ?_
            refine AllReadyH.cons (o := _) rfl (fun K hK => ?_) AllReadyH.nil
            go_simp
            refine hK.out _ _ ?_ (fun hHeld => ?_)
            · ((try dsimp only); refine HC2.out _ ?_; repeat (first | exact HKR2.out | apply Keep.drew | apply Keep.alloc | refine Keep.setCell ?_ _ _ (fun _ => .inl rfl)))
            clear hK K
            (try simp only [List.getElem_toArray, List.getElem_cons_zero, List.getElem_cons_succ, Act.put, List.setIfInBounds_toArray, List.set_cons_zero, List.set_cons_succ])
            refine wpAnyH_done (by kernel_rfl) ?_ _
            refine NoPanic.normal ?_
            go_wp2
            go_ret2
            refine ⟨by rw [HF.out]; rfl, ⟨b, vb, vl, vc, .slice ao7 (S.tests.length + 1) cap7, .slice ao8 (S.notes.length + 1) cap8⟩, fun _ => by rw [HF.out]; exact H8.out, ?_⟩
            refine HC4.out.trans ⟨rfl, rfl, fun k hk => ?_, (HKR2.out.setCell _ _ (fun _ => .inl rfl)).mono (fun k _ e => e.elim (fun e => ⟨e ▸ H4.out.ge, .inl e⟩) (fun e => ⟨H4.out.fp_ge.2.2.2 k e, .inr (.inr (.inr (.inr (.inr e))))⟩))⟩
            rcases hk with e | e | e | e | e | e
            · exact .inl (.inl e)
            · exact .inl (.inr (.inl e))
            · exact .inl (.inr (.inr (.inl e)))
            · exact .inl (.inr (.inr (.inr (.inl e))))
            · exact .inl (.inr (.inr (.inr (.inr (.inl e)))))
            · rcases HB.out.fresh with h1 | ⟨g, h1, h2⟩
              · exact .inl (.inr (.inr (.inr (.inr (.inr (h1.symm.trans e))))))
              · have h3 : g = k := Option.some.inj (h1.symm.trans e)
                have h4 := (HKR3.out.alloc (.cells #[.string (testNote x word)] 9)).size
                have h5 : (Wc.alloc (.cells #[.string (testNote x word)] 9)).heap.size ≤ g := h2
                exact .inr (by omega)
          · go_simp
            refine hK.out _ _ ?_ (fun hHeld => ?_)
            · ((try dsimp only); refine HC2.out _ ?_; repeat (first | exact HKR2.out | apply Keep.drew | apply Keep.alloc | refine Keep.setCell ?_ _ _ (fun _ => .inl rfl)))
            clear hK K
            (try simp only [List.getElem_toArray, List.getElem_cons_zero, List.getElem_cons_succ, Act.put, List.setIfInBounds_toArray, List.set_cons_zero, List.set_cons_succ])
            refine wpAnyH_ready (rs := [4]) (by kernel_rfl) (by simp) ?_
            refine AllReadyH.cons (o := _) rfl (fun K hK => ?_) AllReadyH.nil
            go_simp
            refine hK.out _ _ ?_ (fun hHeld => ?_)
            · ((try dsimp only); refine HC2.out _ ?_; repeat (first | exact HKR2.out | apply Keep.drew | apply Keep.alloc | refine Keep.setCell ?_ _ _ (fun _ => .inl rfl)))
            clear hK K
            (try simp only [List.getElem_toArray, List.getElem_cons_zero, List.getElem_cons_succ, Act.put, List.setIfInBounds_toArray, List.set_cons_zero, List.set_cons_succ])
            refine wpAnyH_ready (rs := [16]) (by kernel_rfl) (by simp) ?_
            refine AllReadyH.cons (o := _) rfl (fun K hK => ?_) AllReadyH.nil
            rw [if_pos (by rfl)]
            have ho6 : (Wc.alloc (.cells #[.string (testNote x word)] 9)).ownsRow base 9 1 (.slice no' S.notes.length nc') S.notes.length (strCells S.notes) := ownsRow_keep (H4.out.on) (HKR3.out.alloc (.cells #[.string (testNote x word)] 9)) (fun _ _ h => h)
            refine oper_app (.tmp 37) (.tmp 48) 44 44 rfl 9 (.string ⟨#[]⟩) 1 16 Tryz.underlying44 info9 rfl ho6 rfl ((Rd.new Wc 1 1 [.string (testNote x word)] 9 rfl (by simp [Value.oneCell']) (by unfold maxLen; omega)).src Tryz.underlying44) rfl (by unfold maxLen; omega) (by omega) (Nat.le_trans H4.out.lt (HKR3.out.alloc (.cells #[.string (testNote x word)] 9)).size) (fun v' w8 happ => ?_)
            obtain ⟨ao8, cap8, rfl, _⟩ := ownsRow_shape happ.own
            have h6 := H4.out.keep (HKR3.out.alloc (.cells #[.string (testNote x word)] 9)) (fun _ _ h => h)
            have h8 := h6.setNotes (w1 := w8) (v' := .slice ao8 (S.notes.length + 1) cap8) (ls := S.notes ++ [testNote x word]) happ.keep (by have := happ.own; simpa [strCells] using this) happ.fresh
            have hb8 := h6.blk.keep happ.keep h6.nne
            have d4 := hb8.cell 4
            have f4 := hb8.free 4
            simp [StV.cells] at d4 f4
            have HKR2 := Lib.hid (((HKR3.out.alloc (.cells #[.string (testNote x word)] 9)).mono (T := fun k => k = b ∨ (Value.slice no' S.notes.length nc').ownBlock = some k) (fun _ _ h => h.elim)).trans happ.keep (fun _ _ e => .inr e))
            have HB := Lib.hid happ
            have H5 := Lib.hid h6
            have H8 := Lib.hid h8
            clear happ h6 h8 hb8
            (try dsimp only)
            refine hK.out _ _ ?_ (fun hHeld => ?_)
            · ((try dsimp only); refine HC2.out _ ?_; repeat (first | exact HKR2.out | apply Keep.drew | apply Keep.alloc | refine Keep.setCell ?_ _ _ (fun _ => .inl rfl)))
            clear hK K
            (try simp only [List.getElem_toArray, List.getElem_cons_zero, List.getElem_cons_succ, Act.put, List.setIfInBounds_toArray, List.set_cons_zero, List.set_cons_succ])
            refine wpAnyH_take (i := 17) (oi := _) (v := ?_) rfl (by kernel_rfl) (by kernel_rfl) (by kernel_rfl) (fun _ _ _ h => h) (Or.inl ⟨by rfl, ?_⟩) (by assumption) ?_
            rotate_left
            · (intro w hSw; (try dsimp only at hSw); go_simp) <;> with_reducible rfl
            (try simp only [List.getElem_toArray, List.getElem_cons_zero, List.getElem_cons_succ, Act.put, List.setIfInBounds_toArray, List.set_cons_zero, List.set_cons_succ])
            refine wpAnyH_take (i := 18) (oi := _) (v := ?_) rfl (by kernel_rfl) (by kernel_rfl) (by kernel_rfl) (fun _ _ _ h => h) (Or.inl ⟨by rfl, ?_⟩) (by assumption) ?_
            rotate_left
            · (intro w hSw; (try dsimp only at hSw); go_simp) <;> with_reducible rfl
            (try simp only [List.getElem_toArray, List.getElem_cons_zero, List.getElem_cons_succ, Act.put, List.setIfInBounds_toArray, List.set_cons_zero, List.set_cons_succ])
            refine wpAnyH_ready (rs := [19]) (by kernel_rfl) (by simp) ?_
            refine AllReadyH.cons (o := _) rfl (fun K hK => ?_) AllReadyH.nil
            go_simp
            refine hK.out _ _ ?_ (fun hHeld => ?_)
            · ((try dsimp only); refine HC2.out _ ?_; repeat (first | exact HKR2.out | apply Keep.drew | apply Keep.alloc | refine Keep.setCell ?_ _ _ (fun _ => .inl rfl)))
            clear hK K
            (try simp only [List.getElem_toArray, List.getElem_cons_zero, List.getElem_cons_succ, Act.put, List.setIfInBounds_toArray, List.set_cons_zero, List.set_cons_succ])
            refine wpAnyH_done (by kernel_rfl) ?_ _
            refine NoPanic.normal ?_
            go_wp2
            go_ret2
            refine ⟨by rw [HF.out]; rfl, ⟨b, vb, vl, vc, .slice ao7 (S.tests.length + 1) cap7, .slice ao8 (S.notes.length + 1) cap8⟩, fun _ => by rw [HF.out]; exact H8.out, ?_⟩
            refine HC4.out.trans ⟨rfl, rfl, fun k hk => ?_, (HKR2.out.setCell _ _ (fun _ => .inl rfl)).mono (fun k _ e => e.elim (fun e => ⟨e ▸ H4.out.ge, .inl e⟩) (fun e => ⟨H4.out.fp_ge.2.2.2 k e, .inr (.inr (.inr (.inr (.inr e))))⟩))⟩
            rcases hk with e | e | e | e | e | e
            · exact .inl (.inl e)
            · exact .inl (.inr (.inl e))
            · exact .inl (.inr (.inr (.inl e)))
            · exact .inl (.inr (.inr (.inr (.inl e))))
            · exact .inl (.inr (.inr (.inr (.inr (.inl e)))))
            · rcases HB.out.fresh with h1 | ⟨g, h1, h2⟩
              · exact .inl (.inr (.inr (.inr (.inr (.inr (h1.symm.trans e))))))
              · have h3 : g = k := Option.some.inj (h1.symm.trans e)
                have h4 := (HKR3.out.alloc (.cells #[.string (testNote x word)] 9)).size
                have h5 : (Wc.alloc (.cells #[.string (testNote x word)] 9)).heap.size ≤ g := h2
                exact .inr (by omega)
      · go_simp
        refine hK.out _ _ ?_ (fun hHeld => ?_)
        · ((try dsimp only); refine HC.out _ ?_; repeat (first | exact HKR.out | apply Keep.drew | apply Keep.alloc | refine Keep.setCell ?_ _ _ (fun _ => ⟨HV.out.ge, .inl rfl⟩)))
        clear hK K
        (try simp only [List.getElem_toArray, List.getElem_cons_zero, List.getElem_cons_succ, Act.put, List.setIfInBounds_toArray, List.set_cons_zero, List.set_cons_succ])
        refine wpAnyH_ready (rs := [4]) (by kernel_rfl) (by simp) ?_
        refine AllReadyH.cons (o := _) rfl (fun K hK => ?_) AllReadyH.nil
        go_simp
        refine hK.out _ _ ?_ (fun hHeld => ?_)
        · ((try dsimp only); refine HC.out _ ?_; repeat (first | exact HKR.out | apply Keep.drew | apply Keep.alloc | refine Keep.setCell ?_ _ _ (fun _ => ⟨HV.out.ge, .inl rfl⟩)))
        clear hK K
        (try simp only [List.getElem_toArray, List.getElem_cons_zero, List.getElem_cons_succ, Act.put, List.setIfInBounds_toArray, List.set_cons_zero, List.set_cons_succ])
        refine wpAnyH_ready (rs := [12]) (by kernel_rfl) (by simp) ?_
        refine AllReadyH.cons (o := _) rfl (fun K hK => ?_) AllReadyH.nil
        rw [if_pos (by rfl)]
        rw [← HW2.out]
        refine oper_app (w := w2.drew) (.tmp 22) (.tmp 29) 71 71 rfl 176 zPair 2 16 Tryz.underlying71 info176 rfl HOT.out rfl HST.out rfl (by unfold maxLen; omega) (by omega) (Nat.le_trans H1.out.lt HK12.out.size) (fun v' w7 happ => ?_)
        obtain ⟨ao7, cap7, rfl, _⟩ := ownsRow_shape happ.own
        have h6 := H1.out.keep HK12.out.drew (fun _ _ h => h)
        have h7 := h6.setTests (w1 := w7) (v' := .slice ao7 (S.tests.length + 1) cap7) (ls := S.tests ++ [(x, gd)]) happ.keep (by have := happ.own; simpa [pairCells, pairCell] using this) happ.fresh
        have hb7 := h6.blk.keep happ.keep h6.tne
        have d3 := hb7.cell 3
        have f3 := hb7.free 3
        simp [StV.cells] at d3 f3
        have HKR := Lib.hid (((HK01.out.trans HK12.out.drew (fun _ _ h => h)).mono (T := fun k => base ≤ k ∧ StV.fp ⟨b, vb, vl, vc, .slice too S.tests.length tc, .slice no' S.notes.length nc'⟩ k) (fun _ _ h => h.elim)).trans happ.keep (fun k _ e => ⟨h6.fp_ge.2.2.1 k e, .inr (.inr (.inr (.inr (.inl e))))⟩))
        have HA := Lib.hid happ
        have H6 := Lib.hid h6
        have H7 := Lib.hid h7
        clear happ h6 h7 hb7
        (try dsimp only)
        refine hK.out _ _ ?_ (fun hHeld => ?_)
        · ((try dsimp only); refine HC.out _ ?_; repeat (first | exact HKR.out | apply Keep.drew | apply Keep.alloc | refine Keep.setCell ?_ _ _ (fun _ => ⟨HV.out.ge, .inl rfl⟩)))
        clear hK K
        (try simp only [List.getElem_toArray, List.getElem_cons_zero, List.getElem_cons_succ, Act.put, List.setIfInBounds_toArray, List.set_cons_zero, List.set_cons_succ])
        refine wpAnyH_take (i := 13) (oi := _) (v := ?_) rfl (by kernel_rfl) (by kernel_rfl) (by kernel_rfl) (fun _ _ _ h => h) (Or.inl ⟨by rfl, ?_⟩) (by assumption) ?_
        rotate_left
        · (intro w hSw; (try dsimp only at hSw); go_simp) <;> with_reducible rfl
        (try simp only [List.getElem_toArray, List.getElem_cons_zero, List.getElem_cons_succ, Act.put, List.setIfInBounds_toArray, List.set_cons_zero, List.set_cons_succ])
        refine wpAnyH_take (i := 14) (oi := _) (v := ?_) rfl (by kernel_rfl) (by kernel_rfl) (by kernel_rfl) (fun _ _ _ h => h) (Or.inl ⟨by rfl, ?_⟩) (by assumption) ?_
        rotate_left
        · (intro w hSw; (try dsimp only at hSw); go_simp) <;> with_reducible rfl
        (try simp only [List.getElem_toArray, List.getElem_cons_zero, List.getElem_cons_succ, Act.put, List.setIfInBounds_toArray, List.set_cons_zero, List.set_cons_succ])
        refine wpAnyH_ready (rs := [15]) (by kernel_rfl) (by simp) ?_
        refine AllReadyH.cons (o := _) rfl (fun K hK => ?_) AllReadyH.nil
        go_simp
        refine hK.out _ _ ?_ (fun hHeld => ?_)
        · ((try dsimp only); refine HC.out _ ?_; repeat (first | exact HKR.out | apply Keep.drew | apply Keep.alloc | refine Keep.setCell ?_ _ _ (fun _ => ⟨HV.out.ge, .inl rfl⟩)))
        clear hK K
        (try simp only [List.getElem_toArray, List.getElem_cons_zero, List.getElem_cons_succ, Act.put, List.setIfInBounds_toArray, List.set_cons_zero, List.set_cons_succ])
        refine wpAnyH_done (by kernel_rfl) ?_ _
        refine NoPanic.normal ?_
        go_wp2
        obtain ⟨w4, hw4⟩ : ∃ w4, w4 = w7.setCell ⟨b, 3, none⟩ (.slice ao7 (S.tests.length + 1) cap7) := ⟨_, rfl⟩
        have hch : Chg base w1 ⟨b, vb, vl, vc, .slice too S.tests.length tc, .slice no' S.notes.length nc'⟩ ⟨b, vb, vl, vc, .slice ao7 (S.tests.length + 1) cap7, .slice no' S.notes.length nc'⟩ (w7.setCell ⟨b, 3, none⟩ (.slice ao7 (S.tests.length + 1) cap7)) := by
          refine ⟨rfl, rfl, fun k hk => ?_, ((HK12.out.drew.mono (fun _ _ h => h.elim)).trans (HA.out.keep.mono (T := fun k => base ≤ k ∧ StV.fp ⟨b, vb, vl, vc, .slice too S.tests.length tc, .slice no' S.notes.length nc'⟩ k) (fun k _ e => ⟨H6.out.fp_ge.2.2.1 k e, .inr (.inr (.inr (.inr (.inl e))))⟩)) (fun _ _ h => h)).setCell _ _ (fun _ => ⟨H1.out.ge, .inl rfl⟩)⟩
          rcases hk with e | e | e | e | e | e
          · exact .inl (.inl e)
          · exact .inl (.inr (.inl e))
          · exact .inl (.inr (.inr (.inl e)))
          · exact .inl (.inr (.inr (.inr (.inl e))))
          · rcases HA.out.fresh with h1 | ⟨g, h1, h2⟩
            · exact .inl (.inr (.inr (.inr (.inr (.inl (h1.symm.trans e))))))
            · have h3 : g = k := Option.some.inj (h1.symm.trans e)
              have h4 := HK12.out.size
              have h5 : w2.heap.size ≤ g := h2
              exact .inr (by omega)
          · exact .inl (.inr (.inr (.inr (.inr (.inr e)))))
        have HC4 := Lib.hid ((Chg.before (HK0.out.trans HK01.out (fun _ _ h => h)) hch))
        have hkw4 := HKR.out.setCell ⟨b, 3, none⟩ (.slice ao7 (S.tests.length + 1) cap7) (fun _ => ⟨HV.out.ge, .inl rfl⟩)
        have H4 := H7
        rw [← hw4] at H4 HC4 hkw4
        rw [← hw4]
        have HKW4 := Lib.hid hkw4
        clear H7 hw4 d3 f3 hch hkw4
        have d4 := H4.out.blk.cell 4
        simp [StV.cells] at d4
        have HG4 := Lib.hid (hG.keep HC4.out.keep (fun i hi e => by have := e.1; omega))
        have HIT : Hid (∀ W, Keep (fun _ => False) w4 W → Calls Tryz.prog 96 #[.int .i64 x] W (ItoaPost W x)) := Lib.hid fun W hk => itoa_any (HG4.out.glob.keep hk) HX.out.1 HX.out.2
        have HKR3 : Hid (Keep (fun _ => False) w4 w4.drew) := Lib.hid (Keep.refl _ _).drew
        have HKR2 : Hid (Keep (fun k => k = b ∨ (Value.slice no' S.notes.length nc').ownBlock = some k) w4 w4.drew) := Lib.hid (Keep.refl _ _).drew
        have HC2 : Hid (∀ W, Keep (fun k => k = b ∨ (Value.slice no' S.notes.length nc').ownBlock = some k) w4 W → (fun W => W.cell? ⟨w.heap.size, 0, none⟩ = some (.slice (some ⟨nb, no, none⟩) 1 nc) ∧ W.cell? ⟨w.heap.size, 1, none⟩ = some (.string word) ∧ W.cell? ⟨nb, no, none⟩ = some (.int .i64 x)) W) := Lib.hid fun W hk => HC.out W (HKW4.out.trans hk (fun k _ e => e.elim (fun e => ⟨e ▸ HV.out.ge, .inl e⟩) (fun e => ⟨HV.out.fp_ge.2.2.2 k e, .inr (.inr (.inr (.inr (.inr e))))⟩)))
        refine wp_region_noPanic ?_
        refine wp_region_held_drew (S := fun W => W.cell? ⟨w.heap.size, 0, none⟩ = some (.slice (some ⟨nb, no, none⟩) 1 nc) ∧ W.cell? ⟨w.heap.size, 1, none⟩ = some (.string word) ∧ W.cell? ⟨nb, no, none⟩ = some (.int .i64 x)) (by kernel_rfl) (HC2.out _ HKR2.out) (fun hHeld => ?_)
        refine wpAnyH_take (i := 0) (oi := _) (v := ?_) rfl (by kernel_rfl) (by kernel_rfl) (by kernel_rfl) (fun _ _ _ h => h) (Or.inl ⟨by rfl, ?_⟩) (by assumption) ?_
        rotate_left
        · (intro w hSw; (try dsimp only at hSw); go_simp) <;> with_reducible rfl
        (try simp only [List.getElem_toArray, List.getElem_cons_zero, List.getElem_cons_succ, Act.put, List.setIfInBounds_toArray, List.set_cons_zero, List.set_cons_succ])
        refine wpAnyH_take (i := 1) (oi := _) (v := ?_) rfl (by kernel_rfl) (by kernel_rfl) (by kernel_rfl) (fun _ _ _ h => h) (Or.inl ⟨by rfl, ?_⟩) (by assumption) ?_
        rotate_left
        · (intro w hSw; (try dsimp only at hSw); go_simp) <;> with_reducible rfl
        (try simp only [List.getElem_toArray, List.getElem_cons_zero, List.getElem_cons_succ, Act.put, List.setIfInBounds_toArray, List.set_cons_zero, List.set_cons_succ])
        refine wpAnyH_take (i := 2) (oi := _) (v := ?_) rfl (by kernel_rfl) (by kernel_rfl) (by kernel_rfl) (fun _ _ _ h => h) (Or.inl ⟨by rfl, ?_⟩) (by assumption) ?_
        rotate_left
        · (intro w hSw; (try dsimp only at hSw); go_simp) <;> with_reducible rfl
        (try simp only [List.getElem_toArray, List.getElem_cons_zero, List.getElem_cons_succ, Act.put, List.setIfInBounds_toArray, List.set_cons_zero, List.set_cons_succ])
        refine wpAnyH_take (i := 3) (oi := _) (v := ?_) rfl (by kernel_rfl) (by kernel_rfl) (by kernel_rfl) (fun _ _ _ h => h) (Or.inl ⟨by rfl, ?_⟩) (by assumption) ?_
        rotate_left
        · (intro w hSw; (try dsimp only at hSw); go_simp) <;> with_reducible rfl
        (try simp only [List.getElem_toArray, List.getElem_cons_zero, List.getElem_cons_succ, Act.put, List.setIfInBounds_toArray, List.set_cons_zero, List.set_cons_succ])
        refine wpAnyH_take (i := 5) (oi := _) (v := ?_) rfl (by kernel_rfl) (by kernel_rfl) (by kernel_rfl) (fun _ _ _ h => h) (Or.inl ⟨by rfl, ?_⟩) (by assumption) ?_
        rotate_left
        · (intro w hSw; (try dsimp only at hSw); go_simp) <;> with_reducible rfl
        (try simp only [List.getElem_toArray, List.getElem_cons_zero, List.getElem_cons_succ, Act.put, List.setIfInBounds_toArray, List.set_cons_zero, List.set_cons_succ])
        refine wpAnyH_take (i := 6) (oi := _) (v := ?_) rfl (by kernel_rfl) (by kernel_rfl) (by kernel_rfl) (fun _ _ _ h => h) (Or.inl ⟨by rfl, ?_⟩) (by assumption) ?_
        rotate_left
        · (intro w hSw; (try dsimp only at hSw); go_simp) <;> with_reducible rfl
        (try simp only [List.getElem_toArray, List.getElem_cons_zero, List.getElem_cons_succ, Act.put, List.setIfInBounds_toArray, List.set_cons_zero, List.set_cons_succ])
        refine wpAnyH_take (i := 7) (oi := _) (v := ?_) rfl (by kernel_rfl) (by kernel_rfl) (by kernel_rfl) (fun _ _ _ h => h) (Or.inl ⟨by rfl, ?_⟩) (by assumption) ?_
        rotate_left
        · (intro w hSw; (try dsimp only at hSw); go_simp) <;> with_reducible rfl
        (try simp only [List.getElem_toArray, List.getElem_cons_zero, List.getElem_cons_succ, Act.put, List.setIfInBounds_toArray, List.set_cons_zero, List.set_cons_succ])
        refine wpAnyH_take (i := 8) (oi := _) (v := ?_) rfl (by kernel_rfl) (by kernel_rfl) (by kernel_rfl) (fun _ _ _ h => h) (Or.inl ⟨by rfl, ?_⟩) (by assumption) ?_
        rotate_left
        · (intro w hSw; (try dsimp only at hSw); go_simp) <;> with_reducible rfl
        (try simp only [List.getElem_toArray, List.getElem_cons_zero, List.getElem_cons_succ, Act.put, List.setIfInBounds_toArray, List.set_cons_zero, List.set_cons_succ])
        refine wpAnyH_take (i := 12) (oi := _) (v := ?_) rfl (by kernel_rfl) (by kernel_rfl) (by kernel_rfl) (fun _ _ _ h => h) (Or.inl ⟨by rfl, ?_⟩) (by assumption) ?_
        rotate_left
        · (intro w hSw; (try dsimp only at hSw); go_simp) <;> with_reducible rfl
        (try simp only [List.getElem_toArray, List.getElem_cons_zero, List.getElem_cons_succ, Act.put, List.setIfInBounds_toArray, List.set_cons_zero, List.set_cons_succ])
        refine wpAnyH_take (i := 13) (oi := _) (v := ?_) rfl (by kernel_rfl) (by kernel_rfl) (by kernel_rfl) (fun _ _ _ h => h) (Or.inl ⟨by rfl, ?_⟩) (by assumption) ?_
        rotate_left
        · (intro w hSw; (try dsimp only at hSw); go_simp) <;> with_reducible rfl
        (try simp only [List.getElem_toArray, List.getElem_cons_zero, List.getElem_cons_succ, Act.put, List.setIfInBounds_toArray, List.set_cons_zero, List.set_cons_succ])
        refine wpAnyH_ready (rs := [4, 9]) (by kernel_rfl) (by simp) ?_
        refine AllReadyH.cons (o := _) rfl (fun K hK => ?_) (AllReadyH.cons (o := _) rfl (fun K hK => ?_) AllReadyH.nil)
        · go_simp
          refine hK.out _ _ ?_ (fun hHeld => ?_)
          · ((try dsimp only); refine HC2.out _ ?_; repeat (first | exact HKR2.out | apply Keep.drew | apply Keep.alloc | refine Keep.setCell ?_ _ _ (fun _ => .inl rfl)))
          clear hK K
          (try simp only [List.getElem_toArray, List.getElem_cons_zero, List.getElem_cons_succ, Act.put, List.setIfInBounds_toArray, List.set_cons_zero, List.set_cons_succ])
          refine wpAnyH_ready (rs := [9]) (by kernel_rfl) (by simp) ?_
          refine AllReadyH.cons (o := _) rfl (fun K hK => ?_) AllReadyH.nil
          go_simp
          refine Calls.mono (HIT.out _ HKR3.out) ?_
          rintro e Wc ⟨rfl, hkc⟩
          have HKR3 := Lib.hid (HKR3.out.trans hkc (fun _ _ h => h))
          have HKR2 := Lib.hid (HKR3.out.mono (T := fun k => k = b ∨ (Value.slice no' S.notes.length nc').ownBlock = some k) (fun _ _ h => h.elim))
          have d4 := (H4.out.keep HKR3.out (fun _ _ h => h)).blk.cell 4
          simp [StV.cells] at d4
          have hlt4 : b < Wc.heap.size := (H4.out.keep HKR3.out (fun _ _ h => h)).blk.lt
          clear hkc
          (try dsimp only)
          refine hK.out _ _ ?_ (fun hHeld => ?_)
          · ((try dsimp only); refine HC2.out _ ?_; repeat (first | exact HKR2.out | apply Keep.drew | apply Keep.alloc | refine Keep.setCell ?_ _ _ (fun _ => .inl rfl)))
          clear hK K
          (try simp only [List.getElem_toArray, List.getElem_cons_zero, List.getElem_cons_succ, Act.put, List.setIfInBounds_toArray, List.set_cons_zero, List.set_cons_succ])
          refine wpAnyH_take (i := 10) (oi := _) (v := ?_) rfl (by kernel_rfl) (by kernel_rfl) (by kernel_rfl) (fun _ _ _ h => h) (Or.inl ⟨by rfl, ?_⟩) (by assumption) ?_
          rotate_left
          · (intro w hSw; (try dsimp only at hSw); go_simp) <;> with_reducible rfl
          (try simp only [List.getElem_toArray, List.getElem_cons_zero, List.getElem_cons_succ, Act.put, List.setIfInBounds_toArray, List.set_cons_zero, List.set_cons_succ])
          refine wpAnyH_take (i := 11) (oi := _) (v := ?_) rfl (by kernel_rfl) (by kernel_rfl) (by kernel_rfl) (fun _ _ _ h => h) (Or.inl ⟨by rfl, ?_⟩) (by assumption) ?_
          rotate_left
          · (intro w hSw; (try dsimp only at hSw); go_simp) <;> with_reducible rfl
          (try simp only [List.getElem_toArray, List.getElem_cons_zero, List.getElem_cons_succ, Act.put, List.setIfInBounds_toArray, List.set_cons_zero, List.set_cons_succ])
          refine wpAnyH_take (i := 14) (oi := _) (v := ?_) rfl (by kernel_rfl) (by kernel_rfl) (by kernel_rfl) (fun _ _ _ h => h) (Or.inl ⟨by rfl, ?_⟩) (by assumption) ?_
          rotate_left
          · (intro w hSw; (try dsimp only at hSw); go_simp) <;> with_reducible rfl
          (try simp only [List.getElem_toArray, List.getElem_cons_zero, List.getElem_cons_succ, Act.put, List.setIfInBounds_toArray, List.set_cons_zero, List.set_cons_succ])
          refine wpAnyH_ready (rs := [15]) (by kernel_rfl) (by simp) ?_
          refine AllReadyH.cons (o := _) rfl (fun K hK => ?_) AllReadyH.nil
          go_simp
          refine hK.out _ _ ?_ (fun hHeld => ?_)
          · ((try dsimp only); refine HC2.out _ ?_; repeat (first | exact HKR2.out | apply Keep.drew | apply Keep.alloc | refine Keep.setCell ?_ _ _ (fun _ => .inl rfl)))
          clear hK K
          (try simp only [List.getElem_toArray, List.getElem_cons_zero, List.getElem_cons_succ, Act.put, List.setIfInBounds_toArray, List.set_cons_zero, List.set_cons_succ])
          refine wpAnyH_ready (rs := [16]) (by kernel_rfl) (by simp) ?_
          refine AllReadyH.cons (o := _) rfl (fun K hK => ?_) AllReadyH.nil
          rw [if_pos (by rfl)]
          have ho6 : (Wc.alloc (.cells #[.string (testNote x word)] 9)).ownsRow base 9 1 (.slice no' S.notes.length nc') S.notes.length (strCells S.notes) := ownsRow_keep (H4.out.on) (HKR3.out.alloc (.cells #[.string (testNote x word)] 9)) (fun _ _ h => h)
          refine oper_app (.tmp 37) (.tmp 48) 44 44 rfl 9 (.string ⟨#[]⟩) 1 16 Tryz.underlying44 info9 rfl ho6 rfl ((Rd.new Wc 1 1 [.string (testNote x word)] 9 rfl (by simp [Value.oneCell']) (by unfold maxLen; omega)).src Tryz.underlying44) rfl (by unfold maxLen; omega) (by omega) (Nat.le_trans H4.out.lt (HKR3.out.alloc (.cells #[.string (testNote x word)] 9)).size) (fun v' w8 happ => ?_)
          obtain ⟨ao8, cap8, rfl, _⟩ := ownsRow_shape happ.own
          have h6 := H4.out.keep (HKR3.out.alloc (.cells #[.string (testNote x word)] 9)) (fun _ _ h => h)
          have h8 := h6.setNotes (w1 := w8) (v' := .slice ao8 (S.notes.length + 1) cap8) (ls := S.notes ++ [testNote x word]) happ.keep (by have := happ.own; simpa [strCells] using this) happ.fresh
          have hb8 := h6.blk.keep happ.keep h6.nne
          have d4 := hb8.cell 4
          have f4 := hb8.free 4
          simp [StV.cells] at d4 f4
          have HKR2 := Lib.hid (((HKR3.out.alloc (.cells #[.string (testNote x word)] 9)).mono (T := fun k => k = b ∨ (Value.slice no' S.notes.length nc').ownBlock = some k) (fun _ _ h => h.elim)).trans happ.keep (fun _ _ e => .inr e))
          have HB := Lib.hid happ
          have H5 := Lib.hid h6
          have H8 := Lib.hid h8
          clear happ h6 h8 hb8
          (try dsimp only)
          refine hK.out _ _ ?_ (fun hHeld => ?_)
          · ((try dsimp only); refine HC2.out _ ?_; repeat (first | exact HKR2.out | apply Keep.drew | apply Keep.alloc | refine Keep.setCell ?_ _ _ (fun _ => .inl rfl)))
          clear hK K
          (try simp only [List.getElem_toArray, List.getElem_cons_zero, List.getElem_cons_succ, Act.put, List.setIfInBounds_toArray, List.set_cons_zero, List.set_cons_succ])
          refine wpAnyH_take (i := 17) (oi := _) (v := ?_) rfl (by kernel_rfl) (by kernel_rfl) (by kernel_rfl) (fun _ _ _ h => h) (Or.inl ⟨by rfl, ?_⟩) (by assumption) ?_
          rotate_left
          · (intro w hSw; (try dsimp only at hSw); go_simp) <;> with_reducible rfl
          (try simp only [List.getElem_toArray, List.getElem_cons_zero, List.getElem_cons_succ, Act.put, List.setIfInBounds_toArray, List.set_cons_zero, List.set_cons_succ])
          refine wpAnyH_take (i := 18) (oi := _) (v := ?_) rfl (by kernel_rfl) (by kernel_rfl) (by kernel_rfl) (fun _ _ _ h => h) (Or.inl ⟨by rfl, ?_⟩) (by assumption) ?_
          rotate_left
          · (intro w hSw; (try dsimp only at hSw); go_simp) <;> with_reducible rfl
          (try simp only [List.getElem_toArray, List.getElem_cons_zero, List.getElem_cons_succ, Act.put, List.setIfInBounds_toArray, List.set_cons_zero, List.set_cons_succ])
          refine wpAnyH_ready (rs := [19]) (by kernel_rfl) (by simp) ?_
          refine AllReadyH.cons (o := _) rfl (fun K hK => ?_) AllReadyH.nil
          go_simp
          refine hK.out _ _ ?_ (fun hHeld => ?_)
          · ((try dsimp only); refine HC2.out _ ?_; repeat (first | exact HKR2.out | apply Keep.drew | apply Keep.alloc | refine Keep.setCell ?_ _ _ (fun _ => .inl rfl)))
          clear hK K
          (try simp only [List.getElem_toArray, List.getElem_cons_zero, List.getElem_cons_succ, Act.put, List.setIfInBounds_toArray, List.set_cons_zero, List.set_cons_succ])
          refine wpAnyH_done (by kernel_rfl) ?_ _
          refine NoPanic.normal ?_
          go_wp2
          go_ret2
          refine ⟨by rw [HF.out]; rfl, ⟨b, vb, vl, vc, .slice ao7 (S.tests.length + 1) cap7, .slice ao8 (S.notes.length + 1) cap8⟩, fun _ => by rw [HF.out]; exact H8.out, ?_⟩
          refine HC4.out.trans ⟨rfl, rfl, fun k hk => ?_, (HKR2.out.setCell _ _ (fun _ => .inl rfl)).mono (fun k _ e => e.elim (fun e => ⟨e ▸ H4.out.ge, .inl e⟩) (fun e => ⟨H4.out.fp_ge.2.2.2 k e, .inr (.inr (.inr (.inr (.inr e))))⟩))⟩
          rcases hk with e | e | e | e | e | e
          · exact .inl (.inl e)
          · exact .inl (.inr (.inl e))
          · exact .inl (.inr (.inr (.inl e)))
          · exact .inl (.inr (.inr (.inr (.inl e))))
          · exact .inl (.inr (.inr (.inr (.inr (.inl e)))))
          · rcases HB.out.fresh with h1 | ⟨g, h1, h2⟩
            · exact .inl (.inr (.inr (.inr (.inr (.inr (h1.symm.trans e))))))
            · have h3 : g = k := Option.some.inj (h1.symm.trans e)
              have h4 := (HKR3.out.alloc (.cells #[.string (testNote x word)] 9)).size
              have h5 : (Wc.alloc (.cells #[.string (testNote x word)] 9)).heap.size ≤ g := h2
              exact .inr (by omega)
        · go_simp
          refine Calls.mono (HIT.out _ HKR3.out) ?_
          rintro e Wc ⟨rfl, hkc⟩
          have HKR3 := Lib.hid (HKR3.out.trans hkc (fun _ _ h => h))
          have HKR2 := Lib.hid (HKR3.out.mono (T := fun k => k = b ∨ (Value.slice no' S.notes.length nc').ownBlock = some k) (fun _ _ h => h.elim))
          have d4 := (H4.out.keep HKR3.out (fun _ _ h => h)).blk.cell 4
          simp [StV.cells] at d4
          have hlt4 : b < Wc.heap.size := (H4.out.keep HKR3.out (fun _ _ h => h)).blk.lt
          clear hkc
          (try dsimp only)
          refine hK.out _ _ ?_ (fun hHeld => ?_)
          · ((try dsimp only); refine HC2.out _ ?_; repeat (first | exact HKR2.out | apply Keep.drew | apply Keep.alloc | refine Keep.setCell ?_ _ _ (fun _ => .inl rfl)))
          clear hK K
          (try simp only [List.getElem_toArray, List.getElem_cons_zero, List.getElem_cons_succ, Act.put, List.setIfInBounds_toArray, List.set_cons_zero, List.set_cons_succ])
          refine wpAnyH_take (i := 10) (oi := _) (v := ?_) rfl (by kernel_rfl) (by kernel_rfl) (by kernel_rfl) (fun _ _ _ h => h) (Or.inl ⟨by rfl, ?_⟩) (by assumption) ?_
          rotate_left
          · (intro w hSw; (try dsimp only at hSw); go_simp) <;> with_reducible rfl
          (try simp only [List.getElem_toArray, List.getElem_cons_zero, List.getElem_cons_succ, Act.put, List.setIfInBounds_toArray, List.set_cons_zero, List.set_cons_succ])
          refine wpAnyH_take (i := 11) (oi := _) (v := ?_) rfl (by kernel_rfl) (by kernel_rfl) (by kernel_rfl) (fun _ _ _ h => h) (Or.inl ⟨by rfl, ?_⟩) (by assumption) ?_
          rotate_left
          · (intro w hSw; (try dsimp only at hSw); go_simp) <;> with_reducible rfl
          (try simp only [List.getElem_toArray, List.getElem_cons_zero, List.getElem_cons_succ, Act.put, List.setIfInBounds_toArray, List.set_cons_zero, List.set_cons_succ])
          refine wpAnyH_take (i := 14) (oi := _) (v := ?_) rfl (by kernel_rfl) (by kernel_rfl) (by kernel_rfl) (fun _ _ _ h => h) (Or.inl ⟨by rfl, ?_⟩) (by assumption) ?_
          rotate_left
          · (intro w hSw; (try dsimp only at hSw); go_simp) <;> with_reducible rfl
          (try simp only [List.getElem_toArray, List.getElem_cons_zero, List.getElem_cons_succ, Act.put, List.setIfInBounds_toArray, List.set_cons_zero, List.set_cons_succ])
          refine wpAnyH_ready (rs := [4, 15]) (by kernel_rfl) (by simp) ?_
          refine AllReadyH.cons (o := _) rfl (fun K hK => ?_) (AllReadyH.cons (o := _) rfl (fun K hK => ?_) AllReadyH.nil)
          · go_simp
            refine hK.out _ _ ?_ (fun hHeld => ?_)
            · ((try dsimp only); refine HC2.out _ ?_; repeat (first | exact HKR2.out | apply Keep.drew | apply Keep.alloc | refine Keep.setCell ?_ _ _ (fun _ => .inl rfl)))
            clear hK K
            (try simp only [List.getElem_toArray, List.getElem_cons_zero, List.getElem_cons_succ, Act.put, List.setIfInBounds_toArray, List.set_cons_zero, List.set_cons_succ])
            refine wpAnyH_ready (rs := [15]) (by kernel_rfl) (by simp) ?_
            refine AllReadyH.cons (o := _) rfl (fun K hK => ?_) AllReadyH.nil
            go_simp
            refine hK.out _ _ ?_ (fun hHeld => ?_)
            · ((try dsimp only); refine HC2.out _ ?_; repeat (first | exact HKR2.out | apply Keep.drew | apply Keep.alloc | refine Keep.setCell ?_ _ _ (fun _ => .inl rfl)))
            clear hK K
            (try simp only [List.getElem_toArray, List.getElem_cons_zero, List.getElem_cons_succ, Act.put, List.setIfInBounds_toArray, List.set_cons_zero, List.set_cons_succ])
            refine wpAnyH_ready (rs := [16]) (by kernel_rfl) (by simp) ?_
            refine AllReadyH.cons (o := _) rfl (fun K hK => ?_) AllReadyH.nil
            rw [if_pos (by rfl)]
            have ho6 : (Wc.alloc (.cells #[.string (testNote x word)] 9)).ownsRow base 9 1 (.slice no' S.notes.length nc') S.notes.length (strCells S.notes) := ownsRow_keep (H4.out.on) (HKR3.out.alloc (.cells #[.string (testNote x word)] 9)) (fun _ _ h => h)
            refine oper_app (.tmp 37) (.tmp 48) 44 44 rfl 9 (.string ⟨#[]⟩) 1 16 Tryz.underlying44 info9 rfl ho6 rfl ((Rd.new Wc 1 1 [.string (testNote x word)] 9 rfl (by simp [Value.oneCell']) (by unfold maxLen; omega)).src Tryz.underlying44) rfl (by unfold maxLen; omega) (by omega) (Nat.le_trans H4.out.lt (HKR3.out.alloc (.cells #[.string (testNote x word)] 9)).size) (fun v' w8 happ => ?_)
            obtain ⟨ao8, cap8, rfl, _⟩ := ownsRow_shape happ.own
            have h6 := H4.out.keep (HKR3.out.alloc (.cells #[.string (testNote x word)] 9)) (fun _ _ h => h)
            have h8 := h6.setNotes (w1 := w8) (v' := .slice ao8 (S.notes.length + 1) cap8) (ls := S.notes ++ [testNote x word]) happ.keep (by have := happ.own; simpa [strCells] using this) happ.fresh
            have hb8 := h6.blk.keep happ.keep h6.nne
            have d4 := hb8.cell 4
            have f4 := hb8.free 4
            simp [StV.cells] at d4 f4
            have HKR2 := Lib.hid (((HKR3.out.alloc (.cells #[.string (testNote x word)] 9)).mono (T := fun k => k = b ∨ (Value.slice no' S.notes.length nc').ownBlock = some k) (fun _ _ h => h.elim)).trans happ.keep (fun _ _ e => .inr e))
            have HB := Lib.hid happ
            have H5 := Lib.hid h6
            have H8 := Lib.hid h8
            clear happ h6 h8 hb8
            (try dsimp only)
            refine hK.out _ _ ?_ (fun hHeld => ?_)
            · ((try dsimp only); refine HC2.out _ ?_; repeat (first | exact HKR2.out | apply Keep.drew | apply Keep.alloc | refine Keep.setCell ?_ _ _ (fun _ => .inl rfl)))
            clear hK K
            (try simp only [List.getElem_toArray, List.getElem_cons_zero, List.getElem_cons_succ, Act.put, List.setIfInBounds_toArray, List.set_cons_zero, List.set_cons_succ])
            refine wpAnyH_take (i := 17) (oi := _) (v := ?_) rfl (by kernel_rfl) (by kernel_rfl) (by kernel_rfl) (fun _ _ _ h => h) (Or.inl ⟨by rfl, ?_⟩) (by assumption) ?_
            rotate_left
            · (intro w hSw; (try dsimp only at hSw); go_simp) <;> with_reducible rfl
            (try simp only [List.getElem_toArray, List.getElem_cons_zero, List.getElem_cons_succ, Act.put, List.setIfInBounds_toArray, List.set_cons_zero, List.set_cons_succ])
            refine wpAnyH_take (i := 18) (oi := _) (v := ?_) rfl (by kernel_rfl) (by kernel_rfl) (by kernel_rfl) (fun _ _ _ h => h) (Or.inl ⟨by rfl, ?_⟩) (by assumption) ?_
            rotate_left
            · (intro w hSw; (try dsimp only at hSw); go_simp) <;> with_reducible rfl
            (try simp only [List.getElem_toArray, List.getElem_cons_zero, List.getElem_cons_succ, Act.put, List.setIfInBounds_toArray, List.set_cons_zero, List.set_cons_succ])
            refine wpAnyH_ready (rs := [19]) (by kernel_rfl) (by simp) ?_
            refine AllReadyH.cons (o := _) rfl (fun K hK => ?_) AllReadyH.nil
            go_simp
            refine hK.out _ _ ?_ (fun hHeld => ?_)
            · ((try dsimp only); refine HC2.out _ ?_; repeat (first | exact HKR2.out | apply Keep.drew | apply Keep.alloc | refine Keep.setCell ?_ _ _ (fun _ => .inl rfl)))
            clear hK K
            (try simp only [List.getElem_toArray, List.getElem_cons_zero, List.getElem_cons_succ, Act.put, List.setIfInBounds_toArray, List.set_cons_zero, List.set_cons_succ])
            refine wpAnyH_done (by kernel_rfl) ?_ _
            refine NoPanic.normal ?_
            go_wp2
            go_ret2
            refine ⟨by rw [HF.out]; rfl, ⟨b, vb, vl, vc, .slice ao7 (S.tests.length + 1) cap7, .slice ao8 (S.notes.length + 1) cap8⟩, fun _ => by rw [HF.out]; exact H8.out, ?_⟩
            refine HC4.out.trans ⟨rfl, rfl, fun k hk => ?_, (HKR2.out.setCell _ _ (fun _ => .inl rfl)).mono (fun k _ e => e.elim (fun e => ⟨e ▸ H4.out.ge, .inl e⟩) (fun e => ⟨H4.out.fp_ge.2.2.2 k e, .inr (.inr (.inr (.inr (.inr e))))⟩))⟩
            rcases hk with e | e | e | e | e | e
            · exact .inl (.inl e)
            · exact .inl (.inr (.inl e))
            · exact .inl (.inr (.inr (.inl e)))
            · exact .inl (.inr (.inr (.inr (.inl e))))
            · exact .inl (.inr (.inr (.inr (.inr (.inl e)))))
            · rcases HB.out.fresh with h1 | ⟨g, h1, h2⟩
              · exact .inl (.inr (.inr (.inr (.inr (.inr (h1.symm.trans e))))))
              · have h3 : g = k := Option.some.inj (h1.symm.trans e)
                have h4 := (HKR3.out.alloc (.cells #[.string (testNote x word)] 9)).size
                have h5 : (Wc.alloc (.cells #[.string (testNote x word)] 9)).heap.size ≤ g := h2
                exact .inr (by omega)
          · go_simp
            refine hK.out _ _ ?_ (fun hHeld => ?_)
            · ((try dsimp only); refine HC2.out _ ?_; repeat (first | exact HKR2.out | apply Keep.drew | apply Keep.alloc | refine Keep.setCell ?_ _ _ (fun _ => .inl rfl)))
            clear hK K
            (try simp only [List.getElem_toArray, List.getElem_cons_zero, List.getElem_cons_succ, Act.put, List.setIfInBounds_toArray, List.set_cons_zero, List.set_cons_succ])
            refine wpAnyH_ready (rs := [4]) (by kernel_rfl) (by simp) ?_
            refine AllReadyH.cons (o := _) rfl (fun K hK => ?_) AllReadyH.nil
            go_simp
            refine hK.out _ _ ?_ (fun hHeld => ?_)
            · ((try dsimp only); refine HC2.out _ ?_; repeat (first | exact HKR2.out | apply Keep.drew | apply Keep.alloc | refine Keep.setCell ?_ _ _ (fun _ => .inl rfl)))
            clear hK K
            (try simp only [List.getElem_toArray, List.getElem_cons_zero, List.getElem_cons_succ, Act.put, List.setIfInBounds_toArray, List.set_cons_zero, List.set_cons_succ])
            refine wpAnyH_ready (rs := [16]) (by kernel_rfl) (by simp) ?_
            refine AllReadyH.cons (o := _) rfl (fun K hK => ?_) AllReadyH.nil
            rw [if_pos (by rfl)]
            have ho6 : (Wc.alloc (.cells #[.string (testNote x word)] 9)).ownsRow base 9 1 (.slice no' S.notes.length nc') S.notes.length (strCells S.notes) := ownsRow_keep (H4.out.on) (HKR3.out.alloc (.cells #[.string (testNote x word)] 9)) (fun _ _ h => h)
            refine oper_app (.tmp 37) (.tmp 48) 44 44 rfl 9 (.string ⟨#[]⟩) 1 16 Tryz.underlying44 info9 rfl ho6 rfl ((Rd.new Wc 1 1 [.string (testNote x word)] 9 rfl (by simp [Value.oneCell']) (by unfold maxLen; omega)).src Tryz.underlying44) rfl (by unfold maxLen; omega) (by omega) (Nat.le_trans H4.out.lt (HKR3.out.alloc (.cells #[.string (testNote x word)] 9)).size) (fun v' w8 happ => ?_)
            obtain ⟨ao8, cap8, rfl, _⟩ := ownsRow_shape happ.own
            have h6 := H4.out.keep (HKR3.out.alloc (.cells #[.string (testNote x word)] 9)) (fun _ _ h => h)
            have h8 := h6.setNotes (w1 := w8) (v' := .slice ao8 (S.notes.length + 1) cap8) (ls := S.notes ++ [testNote x word]) happ.keep (by have := happ.own; simpa [strCells] using this) happ.fresh
            have hb8 := h6.blk.keep happ.keep h6.nne
            have d4 := hb8.cell 4
            have f4 := hb8.free 4
            simp [StV.cells] at d4 f4
            have HKR2 := Lib.hid (((HKR3.out.alloc (.cells #[.string (testNote x word)] 9)).mono (T := fun k => k = b ∨ (Value.slice no' S.notes.length nc').ownBlock = some k) (fun _ _ h => h.elim)).trans happ.keep (fun _ _ e => .inr e))
            have HB := Lib.hid happ
            have H5 := Lib.hid h6
            have H8 := Lib.hid h8
            clear happ h6 h8 hb8
            (try dsimp only)
            refine hK.out _ _ ?_ (fun hHeld => ?_)
            · ((try dsimp only); refine HC2.out _ ?_; repeat (first | exact HKR2.out | apply Keep.drew | apply Keep.alloc | refine Keep.setCell ?_ _ _ (fun _ => .inl rfl)))
            clear hK K
            (try simp only [List.getElem_toArray, List.getElem_cons_zero, List.getElem_cons_succ, Act.put, List.setIfInBounds_toArray, List.set_cons_zero, List.set_cons_succ])
            refine wpAnyH_take (i := 17) (oi := _) (v := ?_) rfl (by kernel_rfl) (by kernel_rfl) (by kernel_rfl) (fun _ _ _ h => h) (Or.inl ⟨by rfl, ?_⟩) (by assumption) ?_
            rotate_left
            · (intro w hSw; (try dsimp only at hSw); go_simp) <;> with_reducible rfl
            (try simp only [List.getElem_toArray, List.getElem_cons_zero, List.getElem_cons_succ, Act.put, List.setIfInBounds_toArray, List.set_cons_zero, List.set_cons_succ])
            refine wpAnyH_take (i := 18) (oi := _) (v := ?_) rfl (by kernel_rfl) (by kernel_rfl) (by kernel_rfl) (fun _ _ _ h => h) (Or.inl ⟨by rfl, ?_⟩) (by assumption) ?_
            rotate_left
            · (intro w hSw; (try dsimp only at hSw); go_simp) <;> with_reducible rfl
            (try simp only [List.getElem_toArray, List.getElem_cons_zero, List.getElem_cons_succ, Act.put, List.setIfInBounds_toArray, List.set_cons_zero, List.set_cons_succ])
            refine wpAnyH_ready (rs := [19]) (by kernel_rfl) (by simp) ?_
            refine AllReadyH.cons (o := _) rfl (fun K hK => ?_) AllReadyH.nil
            go_simp
            refine hK.out _ _ ?_ (fun hHeld => ?_)
            · ((try dsimp only); refine HC2.out _ ?_; repeat (first | exact HKR2.out | apply Keep.drew | apply Keep.alloc | refine Keep.setCell ?_ _ _ (fun _ => .inl rfl)))
            clear hK K
            (try simp only [List.getElem_toArray, List.getElem_cons_zero, List.getElem_cons_succ, Act.put, List.setIfInBounds_toArray, List.set_cons_zero, List.set_cons_succ])
            refine wpAnyH_done (by kernel_rfl) ?_ _
            refine NoPanic.normal ?_
            go_wp2
            go_ret2
            refine ⟨by rw [HF.out]; rfl, ⟨b, vb, vl, vc, .slice ao7 (S.tests.length + 1) cap7, .slice ao8 (S.notes.length + 1) cap8⟩, fun _ => by rw [HF.out]; exact H8.out, ?_⟩
            refine HC4.out.trans ⟨rfl, rfl, fun k hk => ?_, (HKR2.out.setCell _ _ (fun _ => .inl rfl)).mono (fun k _ e => e.elim (fun e => ⟨e ▸ H4.out.ge, .inl e⟩) (fun e => ⟨H4.out.fp_ge.2.2.2 k e, .inr (.inr (.inr (.inr (.inr e))))⟩))⟩
            rcases hk with e | e | e | e | e | e
            · exact .inl (.inl e)
            · exact .inl (.inr (.inl e))
            · exact .inl (.inr (.inr (.inl e)))
            · exact .inl (.inr (.inr (.inr (.inl e))))
            · exact .inl (.inr (.inr (.inr (.inr (.inl e)))))
            · rcases HB.out.fresh with h1 | ⟨g, h1, h2⟩
              · exact .inl (.inr (.inr (.inr (.inr (.inr (h1.symm.trans e))))))
              · have h3 : g = k := Option.some.inj (h1.symm.trans e)
                have h4 := (HKR3.out.alloc (.cells #[.string (testNote x word)] 9)).size
                have h5 : (Wc.alloc (.cells #[.string (testNote x word)] 9)).heap.size ≤ g := h2
                exact .inr (by omega)
end Go.Proofs.YthdkamnclbfehaaGreatDoor

/- All six commands as one function, and what they keep. -/
namespace Go.Proofs.YthdkamnclbfehaaGreatDoor
set_option linter.unusedSimpArgs false
set_option linter.unusedVariables false
set_option linter.unnecessarySimpa false
open Go.RowKit

def runF (f : Nat) (S : St) (a : FA) : Res :=
  if f = 255 then takeF S a else if f = 256 then blendF S a else if f = 257 then putF S a else if f = 258 then touchF S a else if f = 259 then testF S a else shutF S a

def numB (n : Int) : Prop := 0 ≤ n ∧ n ≤ 9223372036854775807
/-- What a line that is a change says. -/
inductive Said (f : Nat) (a : FA) : Prop where
  | take (h : f = 255) (n : Int) (w : ByteArray) (e : a = ⟨[n], w, true⟩) (hn : numB n) (hw : w.size ≤ 8)
  | blend (h : f = 256) (i j q : Int) (e : a = ⟨[i, j, q], bs [], true⟩) (hi : numB i) (hj : numB j) (hq : numB q)
  | put (h : f = 257) (i b : Int) (e : a = ⟨[i, b], bs [], true⟩) (hi : numB i) (hb : numB b)
  | touch (h : f = 258) (i j : Int) (e : a = ⟨[i, j], bs [], true⟩) (hi : numB i) (hj : numB j)
  | test (h : f = 259) (i : Int) (w : ByteArray) (e : a = ⟨[i], w, true⟩) (hi : numB i) (hw : w = goodB ∨ w = badBs)
  | close (h : f = 260) (i : Int) (e : a = ⟨[i], bs [], true⟩) (hi : numB i)

theorem step_d (a : FA) (w : ByteArray) : (stepF a (100, w)).n = a.n ++ [atoiN w] ∧ (stepF a (100, w)).word = a.word ∧ ((stepF a (100, w)).ok = true → a.ok = true ∧ numB (atoiN w)) := by
  refine ⟨rfl, rfl, fun h => ?_⟩
  have h' : (a.ok && atoiOk w && decide (w.size ≤ 6) && decide (0 ≤ atoiN w) && decide (itoaB (atoiN w) = w)) = true := h
  simp only [Bool.and_eq_true, decide_eq_true_eq] at h'
  exact ⟨h'.1.1.1.1, h'.1.2, (atoiN_bounds w).2⟩
theorem step_s (a : FA) (w : ByteArray) : (stepF a (115, w)).n = a.n ∧ (stepF a (115, w)).word = w ∧ ((stepF a (115, w)).ok = true → a.ok = true ∧ w.size ≤ 8) := by
  refine ⟨rfl, rfl, fun h => ?_⟩
  have h' : (a.ok && isSpiceB w) = true := h
  unfold isSpiceB at h'
  simp only [Bool.and_eq_true, decide_eq_true_eq] at h'
  exact ⟨h'.1, h'.2.1⟩
theorem step_t (a : FA) (w : ByteArray) : (stepF a (116, w)).n = a.n ∧ (stepF a (116, w)).word = w ∧ ((stepF a (116, w)).ok = true → a.ok = true ∧ (w = goodB ∨ w = badBs)) := by
  refine ⟨rfl, rfl, fun h => ?_⟩
  have h' : (a.ok && (decide (w = goodB) || decide (w = badBs))) = true := h
  simp only [Bool.and_eq_true, Bool.or_eq_true, decide_eq_true_eq] at h'
  exact h'
theorem FA.mk3 {a : FA} {n : List Int} {w : ByteArray} (h1 : a.n = n) (h2 : a.word = w) (h3 : a.ok = true) : a = ⟨n, w, true⟩ := by
  obtain ⟨x, y, z⟩ := a
  simp only at h1 h2 h3
  subst h1 h2 h3
  rfl
theorem fold_1 {c : UInt8} {ws : List ByteArray} (h : ws.length = 1) : ∃ w, foldF [c] ws = stepF ⟨[], bs [], true⟩ (c, w) := by
  match ws, h with
  | [w], _ => exact ⟨w, rfl⟩
theorem fold_2 {c d : UInt8} {ws : List ByteArray} (h : ws.length = 2) : ∃ w x, foldF [c, d] ws = stepF (stepF ⟨[], bs [], true⟩ (c, w)) (d, x) := by
  match ws, h with
  | [w, x], _ => exact ⟨w, x, rfl⟩
theorem fold_3 {c d e : UInt8} {ws : List ByteArray} (h : ws.length = 3) : ∃ w x y, foldF [c, d, e] ws = stepF (stepF (stepF ⟨[], bs [], true⟩ (c, w)) (d, x)) (e, y) := by
  match ws, h with
  | [w, x, y], _ => exact ⟨w, x, y, rfl⟩
theorem said_of {line : ByteArray} {so : List UInt8} {f : Nat} {a : FA} (h : formF line = some (so, f, a)) (hok : a.ok = true) : Said f a := by
  unfold formF at h
  split at h
  · split at h
    · rename_i so' f' hch
      split at h
      · rename_i hlen
        simp only [Option.some.injEq, Prod.mk.injEq] at h
        obtain ⟨rfl, rfl, rfl⟩ := h
        have htl : (words line).tail.length = so'.length := by rw [List.length_tail]; exact hlen
        unfold chF at hch
        repeat' split at hch
        all_goals first | (cases hch; done) | (simp only [Option.some.injEq, Prod.mk.injEq] at hch; obtain ⟨rfl, rfl⟩ := hch)
        · obtain ⟨w, x, e⟩ := fold_2 (c := 115) (d := 100) htl
          rw [e] at hok ⊢
          obtain ⟨a1, a2, a3⟩ := step_s ⟨[], bs [], true⟩ w
          obtain ⟨b1, b2, b3⟩ := step_d (stepF ⟨[], bs [], true⟩ (115, w)) x
          exact .take rfl _ _ (FA.mk3 (b1.trans (by rw [a1]; rfl)) (b2.trans a2) hok) (b3 hok).2 (a3 (b3 hok).1).2
        · obtain ⟨w, x, y, e⟩ := fold_3 (c := 100) (d := 100) (e := 100) htl
          rw [e] at hok ⊢
          obtain ⟨a1, a2, a3⟩ := step_d ⟨[], bs [], true⟩ w
          obtain ⟨b1, b2, b3⟩ := step_d (stepF ⟨[], bs [], true⟩ (100, w)) x
          obtain ⟨c1, c2, c3⟩ := step_d (stepF (stepF ⟨[], bs [], true⟩ (100, w)) (100, x)) y
          exact .blend rfl _ _ _ (FA.mk3 (c1.trans (by rw [b1, a1]; rfl)) (c2.trans (b2.trans a2)) hok) (a3 (b3 (c3 hok).1).1).2 (b3 (c3 hok).1).2 (c3 hok).2
        · obtain ⟨w, x, e⟩ := fold_2 (c := 100) (d := 100) htl
          rw [e] at hok ⊢
          obtain ⟨a1, a2, a3⟩ := step_d ⟨[], bs [], true⟩ w
          obtain ⟨b1, b2, b3⟩ := step_d (stepF ⟨[], bs [], true⟩ (100, w)) x
          exact .put rfl _ _ (FA.mk3 (b1.trans (by rw [a1]; rfl)) (b2.trans a2) hok) (a3 (b3 hok).1).2 (b3 hok).2
        · obtain ⟨w, x, e⟩ := fold_2 (c := 100) (d := 100) htl
          rw [e] at hok ⊢
          obtain ⟨a1, a2, a3⟩ := step_d ⟨[], bs [], true⟩ w
          obtain ⟨b1, b2, b3⟩ := step_d (stepF ⟨[], bs [], true⟩ (100, w)) x
          exact .touch rfl _ _ (FA.mk3 (b1.trans (by rw [a1]; rfl)) (b2.trans a2) hok) (a3 (b3 hok).1).2 (b3 hok).2
        · obtain ⟨w, x, e⟩ := fold_2 (c := 100) (d := 116) htl
          rw [e] at hok ⊢
          obtain ⟨a1, a2, a3⟩ := step_d ⟨[], bs [], true⟩ w
          obtain ⟨b1, b2, b3⟩ := step_t (stepF ⟨[], bs [], true⟩ (100, w)) x
          exact .test rfl _ _ (FA.mk3 (b1.trans a1) b2 hok) (a3 (b3 hok).1).2 (b3 hok).2
        · obtain ⟨w, e⟩ := fold_1 (c := 100) htl
          rw [e] at hok ⊢
          obtain ⟨a1, a2, a3⟩ := step_d ⟨[], bs [], true⟩ w
          exact .close rfl _ (FA.mk3 (a1.trans rfl) a2 hok) (a3 hok).2
      · cases h
    · cases h
  · cases h

theorem enters256 : Enters 256 := enters_of Tryz.func256 (by kernel_rfl) rfl
theorem enters257 : Enters 257 := enters_of Tryz.func257 (by kernel_rfl) rfl
theorem enters258 : Enters 258 := enters_of Tryz.func258 (by kernel_rfl) rfl
theorem enters259 : Enters 259 := enters_of Tryz.func259 (by kernel_rfl) rfl
theorem enters260 : Enters 260 := enters_of Tryz.func260 (by kernel_rfl) rfl

structure Lot.ok (x : Lot) : Prop where
  s : x.spice.size ≤ 8
  g : i64b x.grams
  b : -1 ≤ x.bay ∧ x.bay ≤ 7
structure Inv (k : Nat) (S : St) : Prop where
  b : S.bays.length = 8
  l : S.lots.length ≤ 20
  c : S.contacts.length ≤ 2 * k
  t : S.tests.length ≤ k
  n : S.notes.length ≤ 2 * k
  lo : ∀ x ∈ S.lots, x.ok
  no : ∀ x ∈ S.notes, x.size ≤ 100
theorem Inv.small {k : Nat} {S : St} (h : Inv k S) (hk : k ≤ 100000000) : S.small := ⟨by have := h.l; omega, by have := h.c; omega, by have := h.t; omega, by have := h.n; omega⟩
theorem Inv.mono {k k' : Nat} {S : St} (h : Inv k S) (hk : k ≤ k') : Inv k' S := ⟨h.b, h.l, by have := h.c; omega, by have := h.t; omega, by have := h.n; omega, h.lo, h.no⟩

theorem run_ok {k : Nat} {S : St} (h : Inv k S) (hk : k ≤ 100000000) (line : ByteArray) : RunOK runF S line := by
  intro so f a hf hok
  have hs := h.small hk
  have hl := h.l
  have hc := h.c
  have hn := h.n
  cases said_of hf hok with
  | take e n w ha hn hw => subst e ha; exact ⟨enters255, fun base w V vn hG ho hA => take_any hG ho hl hA rfl⟩
  | blend e i j q ha hi hj hq => subst e ha; exact ⟨enters256, fun base w V vn hG ho hA => blend_any hG ho hs (by omega) (by omega) hl hA rfl (by simp; exact ⟨⟨by have := hi.1; omega, hi.2⟩, ⟨by have := hj.1; omega, hj.2⟩, ⟨by have := hq.1; omega, hq.2⟩⟩)⟩
  | put e i b ha hi hb => subst e ha; exact ⟨enters257, fun base w V vn hG ho hA => put_any hG ho hs h.b hA rfl (by simp; exact ⟨hi, hb⟩)⟩
  | touch e i j ha hi hj => subst e ha; exact ⟨enters258, fun base w V vn hG ho hA => touch_any hG ho hs hA rfl (by simp; exact ⟨⟨by have := hi.1; omega, hi.2⟩, ⟨by have := hj.1; omega, hj.2⟩⟩)⟩
  | test e i w ha hi hw => subst e ha; exact ⟨enters259, fun base w' V vn hG ho hA => test_any hG ho hs hA rfl (by simp; exact ⟨by have := hi.1; omega, hi.2⟩) (by rcases hw with e | e <;> subst e <;> simp [goodB, badBs, bs, ByteArray.size])⟩
  | close e i ha hi => subst e ha; exact ⟨enters260, fun base w V vn hG ho hA => shut_any hG ho hs hA rfl⟩
end Go.Proofs.YthdkamnclbfehaaGreatDoor

/- What Open makes of the lines of a journal, with a beginning of one more line behind them: plain Lean. -/
namespace Go.Proofs.YthdkamnclbfehaaGreatDoor
set_option linter.unusedSimpArgs false
set_option linter.unusedVariables false
set_option linter.unnecessarySimpa false
open Go.RowKit

theorem index_nl : ∀ (a r : List UInt8), (10 : UInt8) ∉ a → Lib.index (a ++ 10 :: r) [10] = a.length := by
  intro a
  induction a with
  | nil => intro r _; simp [Lib.index]
  | cons x a ih =>
    intro r h
    simp only [List.mem_cons, not_or] at h
    show (if [10].isPrefixOf (x :: (a ++ 10 :: r)) then (0 : Int) else if Lib.index (a ++ 10 :: r) [10] == -1 then -1 else Lib.index (a ++ 10 :: r) [10] + 1) = _
    rw [ih r h.2]
    have h1 : ([10] : List UInt8).isPrefixOf (x :: (a ++ 10 :: r)) = false := by show ((10 : UInt8) == x && _) = false; rw [beq_eq_false_iff_ne.2 h.1]; rfl
    rw [h1]
    have h2 : ((a.length : Int) == -1) = false := beq_eq_false_iff_ne.2 (by omega)
    rw [h2]
    simp
theorem index_nonl : ∀ (a : List UInt8), (10 : UInt8) ∉ a → Lib.index a [10] = -1 := by
  intro a
  induction a with
  | nil => intro _; simp [Lib.index]
  | cons x a ih =>
    intro h
    simp only [List.mem_cons, not_or] at h
    show (if [10].isPrefixOf (x :: a) then (0 : Int) else if Lib.index a [10] == -1 then -1 else Lib.index a [10] + 1) = _
    rw [ih h.2]
    have h1 : ([10] : List UInt8).isPrefixOf (x :: a) = false := by show ((10 : UInt8) == x && _) = false; rw [beq_eq_false_iff_ne.2 h.1]; rfl
    rw [h1]
    simp
theorem cutNL_at (a r : List UInt8) (h : (10 : UInt8) ∉ a) : cutNL (a ++ 10 :: r) = some (a, r) := by
  unfold cutNL
  rw [index_nl a r h, if_pos (by omega)]
  simp
theorem cutNL_no (a : List UInt8) (h : (10 : UInt8) ∉ a) : cutNL a = none := by
  unfold cutNL
  rw [index_nonl a h, if_neg (by omega)]

theorem line_no10 {s : ByteArray} (h : isLineB s = true) : (10 : UInt8) ∉ s.data.toList := by
  unfold isLineB at h
  simp only [Bool.and_eq_true, Bool.not_eq_true', decide_eq_true_eq] at h
  intro hm
  have := List.any_eq_false.1 h.2.2 10 hm
  exact this (by decide)
theorem doF_line {F : Nat → St → FA → Res} {S : St} {s : ByteArray} (h : (doF F S s).err = 0) : isLineB s = true := by
  unfold doF formF at h
  by_cases hl : isLineB s = true
  · exact hl
  · simp [hl] at h
theorem doF_no10 {F : Nat → St → FA → Res} {S : St} {s : ByteArray} (h : (doF F S s).err = 0) : (10 : UInt8) ∉ s.data.toList := line_no10 (doF_line h)

/-- The bytes of lines. -/
def cat (ls : List ByteArray) : List UInt8 := ls.flatMap (fun l => l.data.toList ++ [10])
theorem cat_snoc (ls : List ByteArray) (s : ByteArray) : cat (ls ++ [s]) = cat ls ++ (s.data.toList ++ [10]) := by simp [cat]
/-- Lines that are done one after another, each without error. -/
inductive Rep (F : Nat → St → FA → Res) : St → List ByteArray → St → Prop
  | nil (S : St) : Rep F S [] S
  | cons {S S' : St} {s : ByteArray} {ls : List ByteArray} (h : (doF F S s).err = 0) (t : Rep F (doF F S s).st ls S') : Rep F S (s :: ls) S'
theorem Rep.snoc {F : Nat → St → FA → Res} {S S' : St} {ls : List ByteArray} (h : Rep F S ls S') {s : ByteArray} (hs : (doF F S' s).err = 0) : Rep F S (ls ++ [s]) (doF F S' s).st := by
  induction h with
  | nil S => exact .cons hs (.nil _)
  | cons h t ih => exact .cons h (ih hs)
theorem cat_length_ge {F : Nat → St → FA → Res} {S S' : St} {ls : List ByteArray} (h : Rep F S ls S') : ls.length ≤ (cat ls).length := by
  induction h with
  | nil S => simp
  | cons h t ih => simp only [cat, List.flatMap_cons, List.length_append, List.length_cons, List.length_nil] at ih ⊢; omega
theorem cat_length_le {F : Nat → St → FA → Res} {S S' : St} {ls : List ByteArray} (h : Rep F S ls S') : (cat ls).length ≤ 201 * ls.length := by
  induction h with
  | nil S => simp [cat]
  | @cons S S' s ls h t ih =>
    have h1 := doF_size h
    have h2 : s.data.toList.length = s.size := by simp
    simp only [cat, List.flatMap_cons, List.length_append, List.length_cons, List.length_nil] at ih ⊢
    omega
theorem bs_list (s : ByteArray) : bs s.data.toList = s := ByteArray.ext (by simp [bs])
/-- The loop of Open over lines of which each can be done. -/
theorem openLoop_cat {F : Nat → St → FA → Res} {S S' : St} {ls : List ByteArray} (h : Rep F S ls S') : ∀ (p : List UInt8) (acc : List ByteArray) (at_ fuel : Nat), ls.length ≤ fuel →
    openLoop F fuel (cat ls ++ p) S acc at_ = openLoop F (fuel - ls.length) p S' (acc ++ ls) (at_ + (cat ls).length) := by
  induction h with
  | nil S => intro p acc at_ fuel hf; simp [cat]
  | @cons S S' s ls h t ih =>
    intro p acc at_ fuel hf
    simp only [List.length_cons] at hf
    obtain ⟨k, rfl⟩ : ∃ k, fuel = k + 1 := ⟨fuel - 1, by omega⟩
    have e : cat (s :: ls) ++ p = s.data.toList ++ 10 :: (cat ls ++ p) := by simp [cat]
    rw [e]
    show (match cutNL (s.data.toList ++ 10 :: (cat ls ++ p)) with | none => (S, acc, at_) | some (a, b) => if (doF F S (bs a)).err = 0 then openLoop F k b (doF F S (bs a)).st (acc ++ [bs a]) (at_ + (a.length + 1)) else (S, acc, at_)) = _
    rw [cutNL_at _ _ (doF_no10 h)]
    simp only [bs_list, h, if_true]
    rw [ih p _ _ k (by omega)]
    simp only [List.length_cons, List.append_assoc, List.cons_append, List.nil_append]
    congr 1
    · omega
    · simp only [cat, List.flatMap_cons, List.length_append, List.length_cons, List.length_nil]
      omega
theorem openLoop_end {F : Nat → St → FA → Res} {S : St} {acc : List ByteArray} {at_ fuel : Nat} {p : List UInt8} (hp : (10 : UInt8) ∉ p) : openLoop F fuel p S acc at_ = (S, acc, at_) := by
  cases fuel with
  | zero => rfl
  | succ k =>
    show (match cutNL p with | none => (S, acc, at_) | some (a, b) => _) = _
    rw [cutNL_no _ hp]
/-- All lines, and nothing behind them. -/
theorem openLoop_all {F : Nat → St → FA → Res} {S S' : St} {ls : List ByteArray} (h : Rep F S ls S') {fuel : Nat} (hf : ls.length ≤ fuel) : openLoop F fuel (cat ls) S [] 0 = (S', ls, (cat ls).length) := by
  have := openLoop_cat h [] [] 0 fuel hf
  rw [List.append_nil] at this
  rw [this, openLoop_end (by simp)]
  simp
/-- All lines, and some of the bytes of one more. -/
theorem openLoop_some {F : Nat → St → FA → Res} {S S' : St} {ls : List ByteArray} (h : Rep F S ls S') {s : ByteArray} (hs : (doF F S' s).err = 0) (m : Nat) {fuel : Nat} (hf : ls.length + 1 ≤ fuel) :
    openLoop F fuel (cat ls ++ (s.data.toList ++ [10]).take m) S [] 0 = if s.size < m then ((doF F S' s).st, ls ++ [s], (cat ls).length + (s.size + 1)) else (S', ls, (cat ls).length) := by
  have hz : s.data.toList.length = s.size := by simp
  by_cases hm : s.size < m
  · rw [if_pos hm, List.take_of_length_le (by simp only [List.length_append, List.length_cons, List.length_nil]; omega), ← cat_snoc, openLoop_all (h.snoc hs) (by simp; omega), cat_snoc]
    simp only [List.length_append, List.length_cons, List.length_nil, hz, Nat.zero_add]
  · rw [if_neg hm, List.take_append_of_le_length (by omega), openLoop_cat h _ _ _ _ (by omega), openLoop_end (fun hh => doF_no10 hs (List.mem_of_mem_take hh))]
    simp

/-- A disk that has power, and the bytes of lines, all of them safe. -/
structure Good (g : List Int) (D : Dsk) (S : St) (ls : List ByteArray) : Prop where
  rep : Rep runF (S0 g) ls S
  off : D.off = false
  size : D.size = 200000
  bytes : D.bytes = cat ls
  safe : D.safe = (cat ls).length
theorem crash_all {D : Dsk} (h : D.safe = D.bytes.length) (k : Int) : crashF D k = { D with off := false, left := -1 } := by
  have : crashN D k = D.bytes.length := by unfold crashN; rw [h]; split <;> (try split) <;> omega
  unfold crashF
  rw [this, List.take_length]
  obtain ⟨a, b, c, d, e⟩ := D
  simp only at h
  subst h
  rfl
/-- Open of a disk with lines and some bytes of one more. -/
theorem open_good {g : List Int} (hg : baysB g = true) {S : St} {ls : List ByteArray} (h : Rep runF (S0 g) ls S) {p : List UInt8} {S' : St} {ls' : List ByteArray} (hloop : openLoop runF ((cat ls ++ p).length + 1) (cat ls ++ p) (S0 g) [] 0 = (S', ls', (cat ls').length)) (hr : Rep runF (S0 g) ls' S')
    (hp : cat ls' <+: cat ls ++ p) : ∃ D', openF runF ⟨false, -1, 200000, (cat ls ++ p).length, cat ls ++ p⟩ g = ⟨0, D', S', ls'⟩ ∧ Good g D' S' ls' := by
  unfold openF
  rw [hg]
  simp only [if_true, Bool.false_eq_true, if_false]
  rw [hloop]
  unfold openEnd
  simp only
  have hle := hp.length_le
  have htk : (cat ls ++ p).take (cat ls').length = cat ls' := by
    obtain ⟨q, hq⟩ := hp
    rw [← hq]; simp
  by_cases hlt : (cat ls').length < (cat ls ++ p).length
  · rw [if_pos hlt]
    have hc : cutF ⟨false, -1, 200000, (cat ls ++ p).length, cat ls ++ p⟩ (((cat ls').length : Nat) : Int) = (0, ⟨false, -1, 200000, (cat ls').length, cat ls'⟩) := by
      unfold cutF
      rw [if_neg (by simp only; omega)]
      simp [onF, htk]
    rw [hc]
    simp only [if_true]
    exact ⟨_, rfl, hr, rfl, rfl, rfl, rfl⟩
  · rw [if_neg hlt]
    have : cat ls' = cat ls ++ p := hp.eq_of_length (by omega)
    rw [← this]
    exact ⟨_, rfl, hr, rfl, rfl, rfl, rfl⟩
end Go.Proofs.YthdkamnclbfehaaGreatDoor

/- What the commands keep of a state; the system of commands. -/
namespace Go.Proofs.YthdkamnclbfehaaGreatDoor
set_option linter.unusedSimpArgs false
set_option linter.unusedVariables false
set_option linter.unnecessarySimpa false
open Go.RowKit

theorem size_bs (l : List UInt8) : (bs l).size = l.length := by simp [bs, ByteArray.size]
theorem touchNote_size {i j : Int} (hi : i64b i) (hj : i64b j) : (touchNote i j).size ≤ 100 := by
  have h1 := itoaB_size i hi.1 hi.2
  have h2 := itoaB_size j hj.1 hj.2
  unfold touchNote
  simp only [ByteArray.size_append, size_bs, List.length_cons, List.length_nil]
  omega
theorem testNote_size {i : Int} {w : ByteArray} (hi : i64b i) (hw : w.size ≤ 10) : (testNote i w).size ≤ 100 := by
  have h1 := itoaB_size i hi.1 hi.2
  unfold testNote
  simp only [ByteArray.size_append, size_bs, List.length_cons, List.length_nil]
  omega
theorem Inv.touch {k : Nat} {S : St} {i j : Int} (h : Inv k S) (hi : i64b i) (hj : i64b j) {c n : Nat} (hc : S.contacts.length ≤ c) (hn : S.notes.length ≤ n) :
    (touchS S i j).contacts.length ≤ c + 1 ∧ (touchS S i j).notes.length ≤ n + 1 ∧ ∀ x ∈ (touchS S i j).notes, x.size ≤ 100 := by
  refine ⟨by simp [touchS]; omega, by simp [touchS]; omega, fun x hx => ?_⟩
  simp only [touchS, List.mem_append, List.mem_singleton] at hx
  rcases hx with e | e
  · exact h.no x e
  · rw [e]; exact touchNote_size hi hj
theorem wrap_i64b (x : Int) : i64b (wrap64 x) := by unfold i64b wrap64; omega
theorem Lot.ok_set {l : List Lot} (h : ∀ x ∈ l, x.ok) {i : Nat} {y : Lot} (hy : y.ok) : ∀ x ∈ l.set i y, x.ok := fun x hx => (List.mem_or_eq_of_mem_set hx).elim (h x) (fun e => e ▸ hy)
theorem numB.b {n : Int} (h : numB n) : i64b n := ⟨by have := h.1; omega, h.2⟩

theorem inv_next {k : Nat} {S : St} (h : Inv k S) {line : ByteArray} (he : (doF runF S line).err = 0) : Inv (k + 1) (doF runF S line).st := by
  unfold doF at he ⊢
  cases hf : formF line with
  | none => rw [hf] at he; cases he
  | some x =>
    obtain ⟨so, f, a⟩ := x
    rw [hf] at he
    simp only at he ⊢
    cases hok : a.ok with
    | false => rw [hok] at he; cases he
    | true =>
      rw [hok] at he
      simp only [if_true] at he ⊢
      have hs := said_of hf hok
      by_cases hz : (runF f S a).err = 0
      · rw [if_pos hz]
        clear he
        cases hs with
        | take e n w ha hn hw =>
          subst e ha
          change (takeF S ⟨[n], w, true⟩).err = 0 at hz
          change Inv (k + 1) (takeF S ⟨[n], w, true⟩).st
          unfold takeF at hz ⊢
          by_cases h1 : S.lots.length = 20
          · rw [if_pos h1] at hz; cases hz
          rw [if_neg h1] at hz ⊢
          by_cases h2 : (FA.mk [n] w true).n.headD 0 = 0
          · rw [if_pos h2] at hz; cases hz
          rw [if_neg h2]
          refine ⟨h.b, by have := h.l; simp [addS]; omega, by have := h.c; simp only [addS]; omega, by have := h.t; simp only [addS]; omega, by have := h.n; simp only [addS]; omega, fun x hx => ?_, h.no⟩
          simp only [addS, List.mem_append, List.mem_singleton] at hx
          rcases hx with e | e
          · exact h.lo x e
          · rw [e]; exact ⟨hw, hn.b, by simp⟩
        | blend e i j q ha hi hj hq =>
          subst e ha
          change (blendF S ⟨[i, j, q], bs [], true⟩).err = 0 at hz
          change Inv (k + 1) (blendF S ⟨[i, j, q], bs [], true⟩).st
          unfold blendF at hz ⊢
          simp only [List.getD_cons_zero, List.getD_cons_succ] at hz ⊢
          by_cases h1 : S.lots.length = 20
          · rw [if_pos h1] at hz; cases hz
          rw [if_neg h1] at hz ⊢
          by_cases h2 : allLots S [i, j] = true
          · rw [if_pos h2] at hz ⊢
            by_cases h3 : i = j ∨ q = 0
            · rw [if_pos h3] at hz; cases hz
            rw [if_neg h3] at hz ⊢
            cases hx : S.lots[(i - 1).toNat]? with
            | none => rw [hx] at hz; cases hz
            | some x =>
              cases hy : S.lots[(j - 1).toNat]? with
              | none => rw [hx, hy] at hz; cases hz
              | some y =>
                rw [hx, hy] at hz
                simp only at hz ⊢
                by_cases h4 : (x.closed || (y.closed || decide (min x.grams y.grams < q))) = true
                · rw [if_pos h4] at hz; cases hz
                rw [if_neg h4]
                have hxo := h.lo x (List.mem_of_getElem? hx)
                have hyo := h.lo y (List.mem_of_getElem? hy)
                have hL : i64b ((S.lots.length : Int) + 1) := by have := h.l; unfold i64b; omega
                have hc := h.c
                have hn := h.n
                refine ⟨h.b, ?_, ?_, by have := h.t; show S.tests.length ≤ k + 1; omega, ?_, ?_, ?_⟩
                · have := h.l
                  simp [blendT, touchS, addS, blendS]; omega
                · simp [blendT, touchS, addS, blendS]; omega
                · simp [blendT, touchS, addS, blendS]; omega
                · intro z hz'
                  simp only [blendT, touchS, addS, List.mem_append, List.mem_singleton] at hz'
                  rcases hz' with e | e
                  · exact Lot.ok_set (y := { y with grams := wrap64 (y.grams - q) }) (Lot.ok_set (y := { x with grams := wrap64 (x.grams - q) }) h.lo ⟨hxo.s, wrap_i64b _, hxo.b⟩) ⟨hyo.s, wrap_i64b _, hyo.b⟩ z e
                  · rw [e]; exact ⟨by simp only [size_bs]; decide, wrap_i64b _, by simp⟩
                · intro z hz'
                  simp only [blendT, touchS, addS, blendS, List.mem_append, List.mem_singleton] at hz'
                  rcases hz' with (e | e) | e
                  · exact h.no z e
                  · rw [e]; exact touchNote_size hL hi.b
                  · rw [e]; exact touchNote_size hL hj.b
          · rw [if_neg h2] at hz; cases hz
        | put e i b ha hi hb =>
          subst e ha
          change (putF S ⟨[i, b], bs [], true⟩).err = 0 at hz
          change Inv (k + 1) (putF S ⟨[i, b], bs [], true⟩).st
          unfold putF at hz ⊢
          simp only [List.getD_cons_zero, List.getD_cons_succ] at hz ⊢
          by_cases h1 : hasLot S i = true
          · rw [if_pos h1] at hz ⊢
            by_cases h2 : 7 < b
            · rw [if_pos h2] at hz; cases hz
            rw [if_neg h2] at hz ⊢
            cases hx : S.lots[(i - 1).toNat]? with
            | none => rw [hx] at hz; cases hz
            | some x =>
              rw [hx] at hz
              simp only at hz ⊢
              by_cases h3 : x.closed = true
              · rw [if_pos h3] at hz; cases hz
              rw [if_neg h3] at hz ⊢
              by_cases h4 : (List.range S.lots.length).any (clashAt S i b x) = true
              · rw [if_pos h4] at hz; cases hz
              rw [if_neg h4]
              have hxo := h.lo x (List.mem_of_getElem? hx)
              exact ⟨h.b, by have := h.l; simp; omega, by have := h.c; simp only; omega, by have := h.t; simp only; omega, by have := h.n; simp only; omega, Lot.ok_set h.lo ⟨hxo.s, hxo.g, by have := hb.1; simp only; omega⟩, h.no⟩
          · rw [if_neg h1] at hz; cases hz
        | touch e i j ha hi hj =>
          subst e ha
          change (touchF S ⟨[i, j], bs [], true⟩).err = 0 at hz
          change Inv (k + 1) (touchF S ⟨[i, j], bs [], true⟩).st
          unfold touchF at hz ⊢
          simp only [List.getD_cons_zero, List.getD_cons_succ] at hz ⊢
          by_cases h1 : allLots S [i, j] = true
          · rw [if_pos h1] at hz ⊢
            by_cases h2 : i = j
            · rw [if_pos h2] at hz; cases hz
            rw [if_neg h2]
            obtain ⟨t1, t2, t3⟩ := h.touch hi.b hj.b h.c h.n
            exact ⟨h.b, h.l, by simp only; omega, by have := h.t; show S.tests.length ≤ k + 1; omega, by simp only; omega, h.lo, t3⟩
          · rw [if_neg h1] at hz; cases hz
        | test e i w ha hi hw =>
          subst e ha
          change (testF S ⟨[i], w, true⟩).err = 0 at hz
          change Inv (k + 1) (testF S ⟨[i], w, true⟩).st
          unfold testF at hz ⊢
          simp only [List.getD_cons_zero, List.getD_cons_succ] at hz ⊢
          have hwz : w.size ≤ 10 := by rcases hw with e | e <;> rw [e] <;> simp [goodB, badBs, bs, ByteArray.size]
          have hT : ∀ g, Inv (k + 1) (testS S i g w) := fun g => ⟨h.b, h.l, by have := h.c; show S.contacts.length ≤ _; omega, by have := h.t; simp [testS]; omega, by have := h.n; simp [testS]; omega, h.lo, fun x hx => by
            simp only [testS, List.mem_append, List.mem_singleton] at hx
            rcases hx with e | e
            · exact h.no x e
            · rw [e]; exact testNote_size hi.b hwz⟩
          by_cases h1 : hasLot S i = true
          · rw [if_pos h1]
            split
            · exact hT 1
            · exact hT 0
          · rw [if_neg h1] at hz; cases hz
        | close e i ha hi =>
          subst e ha
          change (shutF S ⟨[i], bs [], true⟩).err = 0 at hz
          change Inv (k + 1) (shutF S ⟨[i], bs [], true⟩).st
          unfold shutF at hz ⊢
          simp only [List.getD_cons_zero, List.getD_cons_succ] at hz ⊢
          by_cases h1 : hasLot S i = true
          · rw [if_pos h1] at hz ⊢
            cases hx : S.lots[(i - 1).toNat]? with
            | none => rw [hx] at hz; cases hz
            | some x =>
              rw [hx] at hz
              simp only at hz ⊢
              by_cases h3 : x.closed = true
              · rw [if_pos h3] at hz; cases hz
              rw [if_neg h3]
              have hxo := h.lo x (List.mem_of_getElem? hx)
              exact ⟨h.b, by have := h.l; simp; omega, by have := h.c; simp only; omega, by have := h.t; simp only; omega, by have := h.n; simp only; omega, Lot.ok_set h.lo ⟨hxo.s, hxo.g, by simp⟩, h.no⟩
          · rw [if_neg h1] at hz; cases hz
      · rw [if_neg hz] at he; exact absurd he hz
theorem sys_all {n K : Nat} (hK : K ≤ 1000000) : Sys runF Inv n K :=
  ⟨fun k S line hk h _ => run_ok h (by omega) line, fun k S hk h => h.small (by omega), fun k S line hk h _ he => inv_next h he⟩
theorem inv_S0 {g : List Int} (h : g.length = 8) : Inv 0 (S0 g) := ⟨h, by simp [S0], by simp [S0], by simp [S0], by simp [S0], by simp [S0], by simp [S0]⟩
theorem baysB_8 {g : List Int} (h : baysB g = true) : g.length = 8 := by
  unfold baysB at h
  simp only [Bool.and_eq_true, decide_eq_true_eq, beq_iff_eq] at h
  first | exact h.2 | exact h.1 | omega
theorem rep_inv {g : List Int} (hg : g.length = 8) {S : St} {ls : List ByteArray} (h : Rep runF (S0 g) ls S) : Inv ls.length S := by
  suffices ∀ S0 k, Inv k S0 → Rep runF S0 ls S → Inv (k + ls.length) S by have := this _ 0 (inv_S0 hg) h; rwa [Nat.zero_add] at this
  clear h
  induction ls with
  | nil => intro S0 k hI h; cases h; exact hI
  | cons s ls ih =>
    intro S0 k hI h
    cases h with
    | cons he t =>
      have := ih _ _ (inv_next hI he) t
      rwa [show k + (s :: ls).length = k + 1 + ls.length by simp; omega]
end Go.Proofs.YthdkamnclbfehaaGreatDoor

/- slices.Equal at []string. -/
namespace Go.Proofs.YthdkamnclbfehaaGreatDoor
set_option linter.unusedSimpArgs false
set_option linter.unusedVariables false
set_option linter.unnecessarySimpa false
open Go.RowKit

theorem strCells_length (l : List ByteArray) : (strCells l).length = l.length := by simp [strCells]
theorem strCells_get (l : List ByteArray) (j : Nat) (h : j < l.length) : (strCells l)[j]? = some (.string (l.getD j ByteArray.empty)) := by
  simp [strCells, List.getD, h]
def eqL (l m : List ByteArray) : Bool := decide (l = m)
theorem eqL_of {l m : List ByteArray} (hl : l.length = m.length) (h : ∀ i, i < l.length → l.getD i ByteArray.empty = m.getD i ByteArray.empty) : eqL l m = true := by
  unfold eqL
  refine decide_eq_true (List.ext_getElem hl fun i h1 h2 => ?_)
  have := h i h1
  simpa [List.getD, h1, h2] using this
theorem eqL_ne {l m : List ByteArray} {i : Nat} (h : l.getD i ByteArray.empty ≠ m.getD i ByteArray.empty) : eqL l m = false := decide_eq_false fun e => h (by rw [e])

set_option maxHeartbeats 1000000 in
set_option maxRecDepth 100000 in
theorem eqS_any {w : World} {u v : Value} {l m : List ByteArray} (hu : Rd w 1 u l.length (strCells l)) (hv : Rd w 1 v m.length (strCells m)) (hl : l.length < 9223372036854775807) :
    Calls Tryz.prog 21 #[u, v] w (DrawPost w (.bool (eqL l m))) := by
  obtain ⟨ao, cap, hue, _⟩ := hu.shape
  obtain ⟨bo, cap2, hve, _⟩ := hv.shape
  subst hue hve
  have HU := Lib.hid hu; clear hu
  have HV := Lib.hid hv; clear hv
  by_cases hlen : l.length = m.length
  · obtain ⟨n, hn⟩ : ∃ n, n = l.length := ⟨_, rfl⟩
    have hm : m.length = n := by omega
    rw [← hn] at hl
    have HN := Lib.hid hn
    have HM := Lib.hid hm
    rw [← hn, hm]
    clear hlen hn hm
    go_enter Tryz.func21, Tryz.ntmps21
    go_wp2
    go_loopw [13] (fun i wr => ∃ k q : Nat, k ≤ n ∧ i = .int .i64 k ∧ wr = w.drewN q ∧ ∀ i, i < k → l.getD i ByteArray.empty = m.getD i ByteArray.empty) (fun i _ => n - (intOf i).toNat)
    case atStart => exact ⟨0, 0, Nat.zero_le _, rfl, rfl, fun i h => by omega⟩
    case round =>
      obtain ⟨k, q, hk, rfl, rfl, h0⟩ := hrel
      have H0 := Lib.hid h0; clear h0
      by_cases hlt : k < n
      · obtain ⟨b, o, hao, ha⟩ : ∃ b o, ao = some ⟨b, o, none⟩ ∧ w.cell? ⟨b, o + k, none⟩ = some (.string (l.getD k ByteArray.empty)) := by
          rcases HU.out.2.2 with ⟨h, h'⟩ | ⟨b, o, c, h, _, _, hx⟩
          · have := HN.out; omega
          · cases h
            exact ⟨b, o, rfl, hx k _ (strCells_get l k (by have := HN.out; omega))⟩
        obtain ⟨b2, o2, hbo, hb⟩ : ∃ b o, bo = some ⟨b, o, none⟩ ∧ w.cell? ⟨b, o + k, none⟩ = some (.string (m.getD k ByteArray.empty)) := by
          rcases HV.out.2.2 with ⟨h, h'⟩ | ⟨b, o, c, h, _, _, hx⟩
          · have := HM.out; omega
          · cases h
            exact ⟨b, o, rfl, hx k _ (strCells_get m k (by have := HM.out; omega))⟩
        subst hao hbo
        obtain ⟨x, hx⟩ : ∃ x, l.getD k ByteArray.empty = x := ⟨_, rfl⟩
        obtain ⟨y, hy⟩ : ∃ x, m.getD k ByteArray.empty = x := ⟨_, rfl⟩
        rw [hx] at ha
        rw [hy] at hb
        have HX := Lib.hid hx
        have HY := Lib.hid hy
        clear hx hy
        have hlti : ((k : Int) < (n : Int)) = True := by simp; omega
        by_cases hne : x = y
        · have hne' : (x.toList == y.toList) = true := by rw [beq_dec]; exact decide_eq_true hne
          have HNE := Lib.hid hne; clear hne
          go_wp2
          go_quiet (fail)
          go_wp2
          go_roundw
          case rel =>
            refine ⟨k + 1, _, by omega, by go_num, rfl, fun i hi => ?_⟩
            by_cases hij : i = k
            · subst hij; rw [HX.out, HY.out]; exact HNE.out
            · exact H0.out i (by omega)
          case measure => simp [intOf]; omega
        · have hne' : (x.toList == y.toList) = false := by rw [beq_dec]; exact decide_eq_false hne
          have hF := Lib.hid (eqL_ne (l := l) (m := m) (i := k) (by rw [HX.out, HY.out]; exact hne))
          clear hne
          go_wp2
          go_quiet (fail)
          go_wp2
          go_ret
          exact ⟨by rw [hF.out]; rfl, q + nq, by simp [World.drewN, Nat.add_assoc]⟩
      · have hlti : ((k : Int) < (n : Int)) = False := by simp; omega
        have hF := Lib.hid (eqL_of (l := l) (m := m) (by rw [← HN.out, HM.out]) fun i hi => H0.out i (by have := HN.out; omega))
        go_wp2
        go_ret
        exact ⟨by rw [hF.out]; rfl, q, rfl⟩
  · have hF := Lib.hid (show eqL l m = false from decide_eq_false fun e => hlen (by rw [e]))
    have hd : ((l.length : Int) == (m.length : Int)) = false := by simp; omega
    have hd2 : ((l.length : Int) = (m.length : Int)) = False := by simp; omega
    clear hlen
    go_enter Tryz.func21, Tryz.ntmps21
    go_wp2
    go_ret
    exact ⟨by rw [hF.out]; rfl, 0, rfl⟩
end Go.Proofs.YthdkamnclbfehaaGreatDoor

/- House.Journal; the laws' own opened: a house on a new disk. -/
namespace Go.Proofs.YthdkamnclbfehaaGreatDoor
set_option linter.unusedSimpArgs false
set_option linter.unusedVariables false
set_option linter.unnecessarySimpa false
open Go.RowKit

theorem journal_any {base : Nat} {w : World} {H : HV} {D : Dsk} {S : St} {ls : List ByteArray} {lost : Bool} (h : HouseAt base w H D S ls lost) (hl : ls.length ≤ 1000000000) :
    Calls Tryz.prog 19 #[.pointer (some ⟨H.h, 0, none⟩)] w (ClonePost w 9 1 ls.length (strCells ls)) := by
  obtain ⟨lo, lc, hvl, _⟩ := ownsRow_shape h.own
  have c2 := h.blk.cell 2
  simp at c2
  rw [hvl] at c2
  have HC := Lib.hid (clone22 (ownsRow_rd h.own (strCells_one ls)) (by omega))
  rw [hvl] at HC
  have HH := Lib.hid h; clear h hvl
  go_enter Tryz.func19, Tryz.ntmps19
  go_wp2_with (first
    | (go_at_call 52; refine (hnone_any HH.out).mono ?_; rintro e w' ⟨rfl, rfl⟩)
    | (go_at_call 22; refine HC.out.mono ?_; rintro e w1 ⟨v1, rfl, ho1, hk1⟩; have HO1 := Lib.hid ho1; have HK1 := Lib.hid hk1; clear ho1 hk1))
  go_ret
  exact ⟨v1, rfl, HO1.out, HK1.out⟩

/-- A house whose disk has power and the bytes of its lines. -/
structure KHouse (base : Nat) (w : World) (g : List Int) (H : HV) (D : Dsk) (S : St) (ls : List ByteArray) : Prop where
  at_ : HouseAt base w H D S ls false
  good : Good g D S ls
  fp : ∀ k, H.V.fp k → base ≤ k
theorem HouseAt.tp_ge {base : Nat} {w : World} {H : HV} {D : Dsk} {S : St} {ls : List ByteArray} {lost : Bool} (h : HouseAt base w H D S ls lost) : ∀ k, H.tp k → base ≤ k := fun k hk => by
  rcases hk with e | e | e | e
  · rw [e]; exact h.ge
  · rw [e]; exact h.disk.ge
  · exact (ownsRow_lt h.disk.own k e).1
  · exact (ownsRow_lt h.own k e).1
theorem KHouse.keep {base : Nat} {w w' : World} {g : List Int} {H : HV} {D : Dsk} {S : St} {ls : List ByteArray} (h : KHouse base w g H D S ls) (k : Keep (fun _ => False) w w') : KHouse base w' g H D S ls := ⟨h.at_.idle k, h.good, h.fp⟩

def OpenedPost (w : World) (g : List Int) (e : Ending) (w' : World) : Prop :=
  Keep (fun _ => False) w w' ∧
  (baysB g = true → ∃ H D, e = .returned (.tuple #[.pointer (some ⟨H.h, 0, none⟩), .pointer (some ⟨H.d, 0, none⟩), .bool true]) ∧ KHouse w.heap.size w' g H D (S0 g) []) ∧
  (baysB g = false → ∃ d, e = .returned (.tuple #[.pointer none, .pointer (some ⟨d, 0, none⟩), .bool false]))
theorem open_new {g : List Int} (hg : baysB g = true) : ∃ D', openF runF (newD 200000) g = ⟨0, D', S0 g, []⟩ ∧ Good g D' (S0 g) [] :=
  open_good hg (p := []) (.nil _) (by rw [show cat [] ++ ([] : List UInt8) = [] from rfl]; exact openLoop_end (by simp)) (.nil _) (List.prefix_append _ _)
theorem open_badBays {g : List Int} (hg : baysB g = false) (D : Dsk) : openF runF D g = ⟨2, D, S0 g, []⟩ := by unfold openF; rw [hg]; rfl
set_option maxHeartbeats 1000000 in
set_option maxRecDepth 100000 in
theorem opened_any {w : World} {gv : Value} {g : List Int} (hG : Glob w) (hg : Rd w 1 gv g.length (icells g)) (hgl : g.length ≤ 9223372036854775807) : Calls Tryz.prog 16 #[gv] w (OpenedPost w (g.take 10)) := by
  have h12 := disks_any (base := w.heap.size) (w := w) 200000 (Nat.le_refl _)
  have HG := Lib.hid hG; clear hG
  have HGR := Lib.hid hg; clear hg
  have H12 := Lib.hid h12; clear h12
  cases hb : baysB (g.take 10) with
  | true =>
    obtain ⟨D', hop, hgood⟩ := open_new hb
    have HOP := Lib.hid hop; have HGD := Lib.hid hgood; have HB := Lib.hid hb
    clear hop hgood hb
    go_enter Tryz.func16, Tryz.ntmps16
    go_wp2_with (first
      | (go_at_call 12; refine H12.out.mono ?_; rintro e w1 ⟨hk1, hd1, _⟩; obtain ⟨d, x, rfl, hd, hx, hdd, _, _⟩ := hd1 (by omega); have HK1 := Lib.hid hk1; have HD := Lib.hid (show DiskAt w.heap.size w1 d (newD 200000) (.slice none 0 0) from hd); have HDD := Lib.hid hdd; clear hk1 hd1 hd hx hdd)
      | (go_at_call 25; have hh := graph_any (HGR.out.keep HK1.out (fun _ _ h => h)) hgl; refine Calls.mono hh ?_; clear hh; rintro e w3 ⟨gv3, rfl, ho3, hk3⟩; have HO3 := Lib.hid ho3; have HK3 := Lib.hid (HK1.out.trans hk3 (fun _ _ h => h)); have HK13 := Lib.hid hk3; clear ho3 hk3)
      | (go_at_call 24; have hh := open_any (F := runF) (I := Inv) (g := g.take 10) (HG.out.keep HK3.out) (HD.out.keep HK13.out (fun h => h) (fun _ _ h => h)) (ownsRow_rd HO3.out (icells_one _)) (by rw [List.length_take]; omega) (fun k e => (ownsRow_lt HO3.out k e).2) HK3.out.size (fun e => inv_S0 (baysB_8 e)) (sys_all (by decide)); rw [HOP.out] at hh; refine Calls.mono hh ?_; clear hh; rintro e w4 ⟨v4, _, _, hk4, _, hok4⟩; obtain ⟨H, rfl, hHd, hHv, hh4, hfp4, hbb4, hvl4⟩ := hok4 rfl; have HH := Lib.hid hh4; have HFP := Lib.hid hfp4; have HHD := Lib.hid hHd; have HK4 := Lib.hid (HK3.out.trans (hk4.mono (T := fun k => w.heap.size ≤ k) (fun k _ e => e.elim (fun e => e ▸ HDD.out) (fun e => by cases e))) (fun k hk e => by omega)); clear hk4 hok4 hHd hHv hh4 hfp4 hbb4 hvl4))
    go_ret3
    refine ⟨HK4.out, fun _ => ⟨H, D', by rw [HHD.out]; rfl, ⟨HH.out, HGD.out, fun k hk => by have := HFP.out k hk; have := HK3.out.size; omega⟩⟩, fun e => by rw [HB.out] at e; cases e⟩
  | false =>
    have hop := open_badBays hb (newD 200000)
    have HOP := Lib.hid hop; have HB := Lib.hid hb
    clear hop hb
    go_enter Tryz.func16, Tryz.ntmps16
    go_wp2_with (first
      | (go_at_call 12; refine H12.out.mono ?_; rintro e w1 ⟨hk1, hd1, _⟩; obtain ⟨d, x, rfl, hd, hx, hdd, _, _⟩ := hd1 (by omega); have HK1 := Lib.hid hk1; have HD := Lib.hid (show DiskAt w.heap.size w1 d (newD 200000) (.slice none 0 0) from hd); have HDD := Lib.hid hdd; clear hk1 hd1 hd hx hdd)
      | (go_at_call 25; have hh := graph_any (HGR.out.keep HK1.out (fun _ _ h => h)) hgl; refine Calls.mono hh ?_; clear hh; rintro e w3 ⟨gv3, rfl, ho3, hk3⟩; have HO3 := Lib.hid ho3; have HK3 := Lib.hid (HK1.out.trans hk3 (fun _ _ h => h)); have HK13 := Lib.hid hk3; clear ho3 hk3)
      | (go_at_call 24; have hh := open_any (F := runF) (I := Inv) (g := g.take 10) (HG.out.keep HK3.out) (HD.out.keep HK13.out (fun h => h) (fun _ _ h => h)) (ownsRow_rd HO3.out (icells_one _)) (by rw [List.length_take]; omega) (fun k e => (ownsRow_lt HO3.out k e).2) HK3.out.size (fun e => inv_S0 (baysB_8 e)) (sys_all (by decide)); rw [HOP.out] at hh; refine Calls.mono hh ?_; clear hh; rintro e w4 ⟨v4, _, _, hk4, hbad4, _⟩; obtain rfl := hbad4 (show (2 : Int) ≠ 0 by decide); have HK4 := Lib.hid (HK3.out.trans (hk4.mono (T := fun k => w.heap.size ≤ k) (fun k _ e => e.elim (fun e => e ▸ HDD.out) (fun e => by cases e))) (fun k hk e => by omega)); clear hk4 hbad4))
    go_ret3
    refine ⟨HK4.out, (fun e => by rw [HB.out] at e; cases e), fun _ => ⟨d, rfl⟩⟩
end Go.Proofs.YthdkamnclbfehaaGreatDoor
