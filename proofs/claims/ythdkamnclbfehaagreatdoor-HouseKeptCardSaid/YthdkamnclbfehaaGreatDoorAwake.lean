/- The laws' own disks, path, graph, and awake: a new house takes a lot. -/
import Derived.Test.YthdkamnclbfehaaGreatDoorHDo
import Derived.Test.YthdkamnclbfehaaGreatDoorOpen
import Derived.Test.YthdkamnclbfehaaGreatDoorDiskS
namespace Go.Proofs.YthdkamnclbfehaaGreatDoor
set_option linter.unusedSimpArgs false
set_option linter.unusedVariables false
set_option linter.unnecessarySimpa false
open Go.RowKit

def DisksPost (base : Nat) (w : World) (n : Int) (e : Ending) (w' : World) : Prop :=
  Keep (fun _ => False) w w' ∧
  (1 ≤ n ∧ n ≤ 1000000 → ∃ d x, e = .returned (.tuple #[.pointer (some ⟨d, 0, none⟩), .pointer (some ⟨x, 0, none⟩), .bool true]) ∧ DiskAt base w' d (newD n.toNat) (.slice none 0 0) ∧ RDiskAt base w' x (newD n.toNat) (.slice none 0 0) ∧ w.heap.size ≤ d ∧ w.heap.size ≤ x ∧ d ≠ x) ∧
  (¬ (1 ≤ n ∧ n ≤ 1000000) → e = .returned (.tuple #[.pointer none, .pointer none, .bool true]))
theorem disks_any {base : Nat} {w : World} (n : Int) (hb : base ≤ w.heap.size) : Calls Tryz.prog 12 #[.int .i64 n] w (DisksPost base w n) := by
  have h1 := newDisk_any (base := base) (w := w) n hb
  unfold NewPost at h1
  by_cases hn : 1 ≤ n ∧ n ≤ 1000000
  · have hn2 : ¬ (n < 1 ∨ 1000000 < n) := by omega
    simp only [if_neg hn2] at h1
    have H1 := Lib.hid h1; clear h1
    have HN := Lib.hid hn
    go_enter Tryz.func12, Tryz.ntmps12
    go_wp2_with (first
      | (go_at_call 42; refine H1.out.mono ?_; rintro e w1 ⟨rfl, hk1, hd1⟩; have HK1 := Lib.hid hk1; have HD1 := Lib.hid (hd1 HN.out.1 HN.out.2); clear hk1 hd1)
      | (go_at_call 43; have hh := rnewDisk_any (base := base) (w := w1) n (Nat.le_trans hb HK1.out.size); unfold RNewPost at hh; simp only [if_neg hn2] at hh; refine Calls.mono hh ?_; clear hh; rintro e w2 ⟨rfl, hk2, hd2⟩; have HK2 := Lib.hid hk2; have HD2 := Lib.hid (hd2 HN.out.1 HN.out.2); clear hk2 hd2))
    go_ret3
    have hz1 := HK1.out.size
    refine ⟨HK1.out.trans HK2.out (fun _ _ h => h), fun _ => ⟨w.heap.size, w1.heap.size, rfl, HD1.out.2.keep HK2.out (fun h => h) (fun _ _ h => h), HD2.out.2, Nat.le_refl _, hz1, by have := HD1.out.1; omega⟩, fun h => absurd HN.out h⟩
  · have hn2 : n < 1 ∨ 1000000 < n := by omega
    simp only [if_pos hn2] at h1
    have H1 := Lib.hid h1; clear h1
    have HN := Lib.hid hn
    have HN2 := Lib.hid hn2; clear hn hn2
    go_enter Tryz.func12, Tryz.ntmps12
    go_wp2_with (first
      | (go_at_call 42; refine H1.out.mono ?_; rintro e w1 ⟨rfl, hk1, hd1⟩; have HK1 := Lib.hid hk1; clear hk1 hd1)
      | (go_at_call 43; have hh := rnewDisk_any (base := base) (w := w1) n (Nat.le_trans hb HK1.out.size); unfold RNewPost at hh; simp only [if_pos HN2.out] at hh; refine Calls.mono hh ?_; clear hh; rintro e w2 ⟨rfl, hk2, hd2⟩; have HK2 := Lib.hid hk2; clear hk2 hd2))
    go_ret3
    exact ⟨HK1.out.trans HK2.out (fun _ _ h => h), fun h => absurd h HN.out, fun _ => rfl⟩

def pathG : List Int := [2, 5, 10, 20, 40, 80, 160, 64]
theorem path_any {w : World} : Calls Tryz.prog 44 #[] w fun e w' => e = .returned (.slice (some ⟨w.heap.size, 0, none⟩) 8 8) ∧ w' = w.alloc (.cells (icells pathG).toArray 3) := by
  go_enter Tryz.func44, Tryz.ntmps44
  go_wp2
  go_ret
  exact ⟨rfl, rfl⟩
theorem Rd.takeN {w : World} {ao : Option Addr} {n c : Nat} {xs : List Value} (h : Rd w 1 (.slice ao n c) n xs) (k : Nat) (hk : k ≤ n) : Rd w 1 (.slice ao k c) k (xs.take k) := by
  refine ⟨by have := h.1; rw [List.length_take]; omega, fun u hu => h.2.1 u (List.mem_of_mem_take hu), ?_⟩
  rcases h.2.2 with ⟨e, h0⟩ | ⟨b, o, c', e, h1, h2, hx⟩
  · injection e with e1 e2 e3
    subst e1 e3
    have : k = 0 := by omega
    subst this
    exact .inl ⟨rfl, rfl⟩
  · injection e with e1 e2 e3
    subst e1 e3
    refine .inr ⟨b, o, c, rfl, by omega, h2, fun j u hu => hx j u ?_⟩
    rw [List.getElem?_take] at hu
    split at hu
    · exact hu
    · cases hu
theorem graph_any {w : World} {v : Value} {g : List Int} (hv : Rd w 1 v g.length (icells g)) (hl : g.length ≤ 9223372036854775807) : Calls Tryz.prog 25 #[v] w (ClonePost w 3 1 (g.take 10).length (icells (g.take 10))) := by
  obtain ⟨ao, cap, hve, hlc, _⟩ := hv.shape
  subst hve
  have hm : (min (g.length : Int) 10).toNat = (g.take 10).length := by rw [List.length_take]; omega
  have hr := hv.takeN (g.take 10).length (by rw [List.length_take]; omega)
  have ht : (icells g).take (g.take 10).length = icells (g.take 10) := by
    rw [List.length_take]
    by_cases h : g.length ≤ 10
    · rw [List.take_of_length_le h, List.take_of_length_le (by rw [icells_length]; omega)]
    · rw [show min 10 g.length = 10 by omega]
      simp [icells, List.map_take]
  rw [ht] at hr
  have HC := Lib.hid (clone57 hr (by rw [List.length_take]; omega))
  have HM := Lib.hid hm
  clear hv ht hr hm
  have h0 : (0 : Int) ≤ min (g.length : Int) 10 := by omega
  have h1 : min (g.length : Int) 10 ≤ (cap : Int) := by omega
  go_enter Tryz.func25, Tryz.ntmps25
  go_wp2_with (go_at_call 57; rw [HM.out]; refine HC.out.mono ?_; rintro e w1 ⟨v', rfl, ho1, hk1⟩; have HO1 := Lib.hid ho1; have HK1 := Lib.hid hk1; clear ho1 hk1)
  go_ret
  exact ⟨_, rfl, HO1.out, HK1.out⟩

/-- The line that awake has done, read. -/
theorem form_mace : formF (bs [116, 97, 107, 101, 32, 109, 97, 99, 101, 32, 53]) = some ([115, 100], 255, ⟨[5], bs [109, 97, 99, 101], true⟩) := by kernel_rfl
theorem form_empty : formF (bs []) = none := by kernel_rfl
theorem bays_path : baysB pathG = true := by decide +kernel

def F0 (f : Nat) (S : St) (a : FA) : Res := if f = 255 then takeF S a else ⟨1, S, bs []⟩
theorem enters255 : Enters 255 := enters_of Tryz.func255 (by kernel_rfl) rfl
theorem size_zero {s : ByteArray} (h : s.size ≤ 0) : s = bs [] := ByteArray.ext (Array.eq_empty_of_size_eq_zero (Nat.le_zero.1 h))
theorem run_mace : RunOK F0 (S0 pathG) (bs [116, 97, 107, 101, 32, 109, 97, 99, 101, 32, 53]) := by
  intro so f a hf hok
  rw [form_mace] at hf
  simp only [Option.some.injEq, Prod.mk.injEq] at hf
  obtain ⟨_, rfl, rfl⟩ := hf
  refine ⟨enters255, fun base w V vn hG h ha => ?_⟩
  exact take_any hG h (by simp [S0]) ha rfl
def openE : OpenR := ⟨0, newD 100, S0 pathG, []⟩
theorem sys_empty : Sys F0 (fun _ S => S = S0 pathG) 0 0 := by
  refine ⟨fun k S line hk hS hl => ?_, fun k S hk hS => ?_, fun k S line hk hS hl he => ?_⟩
  · intro so f a hf
    have : line = bs [] := size_zero hl
    rw [this, form_empty] at hf; cases hf
  · rw [hS]; exact ⟨by simp [S0], by simp [S0], by simp [S0], by simp [S0]⟩
  · have : line = bs [] := size_zero hl
    rw [this] at he
    unfold doF at he
    rw [form_empty] at he; cases he
theorem open_path : openF F0 (newD 100) pathG = openE := by kernel_rfl
theorem do_mace : hdoF F0 (newD 100) (S0 pathG) [] false (bs [116, 97, 107, 101, 32, 109, 97, 99, 101, 32, 53]) =
    ⟨0, bs [116, 97, 107, 101, 32, 49], { newD 100 with bytes := [116, 97, 107, 101, 32, 109, 97, 99, 101, 32, 53, 10], safe := 12 }, addS (S0 pathG) ⟨bs [109, 97, 99, 101], 5, -1, false⟩, [bs [116, 97, 107, 101, 32, 109, 97, 99, 101, 32, 53]], false⟩ := by kernel_rfl

set_option maxRecDepth 100000 in
theorem awake_any {w : World} (hG : Glob w) : Calls Tryz.prog 13 #[] w (IdxPost w (.bool true)) := by
  have h12 := disks_any (base := w.heap.size) (w := w) 100 (Nat.le_refl _)
  have HG := Lib.hid hG; clear hG
  have H12 := Lib.hid h12; clear h12
  go_enter Tryz.func13, Tryz.ntmps13
  go_wp2_with (first
    | (go_at_call 12; refine H12.out.mono ?_; rintro e w1 ⟨hk1, hd1, _⟩; obtain ⟨d, x, rfl, hd, hx, hdd, _, _⟩ := hd1 (by omega); have HK1 := Lib.hid hk1; have HD := Lib.hid (show DiskAt w.heap.size w1 d (newD 100) (.slice none 0 0) from hd); have HDD := Lib.hid hdd; clear hk1 hd1 hd hx hdd)
    | (go_at_call 44; refine path_any.mono ?_; rintro e w2 ⟨rfl, rfl⟩; have hr := Rd.new w1 1 8 (icells pathG) 3 rfl (icells_one _) (by unfold maxLen; omega); have HR := Lib.hid hr; clear hr)
    | (go_at_call 25; have hh := graph_any (g := pathG) HR.out (by decide); refine Calls.mono hh ?_; clear hh; rintro e w3 ⟨gv, rfl, ho3, hk3⟩; have HO3 := Lib.hid ho3; have HK3 := Lib.hid (((HK1.out.alloc (.cells (icells pathG).toArray 3)).trans hk3 (fun _ _ h => h))); have HK13 := Lib.hid ((((Keep.refl (fun _ => False) w1).alloc (.cells (icells pathG).toArray 3)).trans hk3 (fun _ _ h => h))); clear ho3 hk3)
    | (go_at_call 24; have hh := open_any (F := F0) (I := fun _ S => S = S0 pathG) (g := pathG) (HG.out.keep HK3.out) (HD.out.keep HK13.out (fun h => h) (fun _ _ h => h)) (ownsRow_rd HO3.out (icells_one _)) (by decide) (fun k e => (ownsRow_lt HO3.out k e).2) HK3.out.size (fun _ => rfl) sys_empty; rw [open_path] at hh; refine Calls.mono hh ?_; clear hh; rintro e w4 ⟨v4, hd4, hf4, hk4, _, hok4⟩; obtain ⟨H, rfl, hHd, hHv, hh4, hfp4, hbb4, hvl4⟩ := hok4 rfl; have HH := Lib.hid hh4; have HK4 := Lib.hid (HK3.out.trans (hk4.mono (T := fun k => w.heap.size ≤ k) (fun k _ e => e.elim (fun e => e ▸ HDD.out) (fun e => by cases e))) (fun k hk e => by omega)); have HTP : Hid (∀ k, H.tp k → w.heap.size ≤ k) := Lib.hid (fun k hk => by
        have hz := HK3.out.size
        rcases hk with e | e | e | e
        · omega
        · rw [e, hHd]; exact HDD.out
        · rw [hHv] at e
          rcases hf4 with h1 | ⟨g, h1, h2⟩
          · rw [h1] at e; cases e
          · have h3 : g = k := Option.some.inj (h1.symm.trans e)
            omega
        · have := hvl4 k e; omega); clear hd4 hf4 hk4 hok4 hHd hHv hh4 hfp4 hbb4 hvl4)
    | (go_at_call 20; have hh := hdo_any (F := F0) (s := bs [116, 97, 107, 101, 32, 109, 97, 99, 101, 32, 53]) ((GW.start HG.out).keep HK4.out (fun i hi e => by omega)).glob HK4.out.size HH.out ⟨by simp [openE, S0], by simp [openE, S0], by simp [openE, S0], by simp [openE, S0]⟩ (by simp [openE]) (by decide) run_mace; rw [show hdoF F0 openE.D openE.st openE.ls false (bs [116, 97, 107, 101, 32, 109, 97, 99, 101, 32, 53]) = _ from do_mace] at hh; refine Calls.mono hh ?_; clear hh; rintro e w5 ⟨H', rfl, _, hc5⟩; have HC5 := Lib.hid hc5; clear hc5))
  go_ret
  refine ⟨?_, (HK4.out.mono (T := fun k => w.heap.size ≤ k) (fun _ _ e => e.elim)).trans HC5.out.keep (fun k _ e => HTP.out k e) |>.mono (fun k hk e => by omega)⟩
  show Ending.returned (.bool ((bs [116, 97, 107, 101, 32, 49]).toList == [116, 97, 107, 101, 32, 49])) = _
  rw [beq_iff_eq.2 ((toList_bs _ _).2 rfl)]
end Go.Proofs.YthdkamnclbfehaaGreatDoor
