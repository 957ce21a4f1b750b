/- cubebref09.read: what a line says. -/
import Derived.Test.YthdkamnclbfehaaGreatDoorO14
import Derived.Test.YthdkamnclbfehaaGreatDoorO26
import Derived.Test.YthdkamnclbfehaaGreatDoorO23
import Derived.Deep.LoopGhost
import Derived.Deep.DeepCutAuto
import Derived.Deep.CutBlock
import Derived.Test.YthdkamnclbfehaaGreatDoorO10
import Derived.Test.YthdkamnclbfehaaGreatDoorO20
import Derived.Test.YthdkamnclbfehaaGreatDoorO22
import Derived.Test.YthdkamnclbfehaaGreatDoorO25
/- cubebref09.read: what a line says. -/
namespace Go.Proofs.YthdkamnclbfehaaGreatDoor
set_option linter.unusedSimpArgs false
set_option linter.unusedVariables false
set_option linter.unnecessarySimpa false
open Go.RowKit
theorem Rd.dropN {w : World} {ao : Option Addr} {n c : Nat} {xs : List Value} (h : Rd w 1 (.slice ao n c) n xs) (i : Nat) (hi : i ≤ n) :
    Rd w 1 (.slice (if c = i then ao else ao.map (fun x => x.add i)) (n - i) (c - i)) (n - i) (xs.drop i) := by
  have hn : xs.length = n := by have := h.1; omega
  refine ⟨by rw [List.length_drop]; omega, fun u hu => h.2.1 u (List.mem_of_mem_drop hu), ?_⟩
  rcases h.2.2 with ⟨e, h0⟩ | ⟨b, o, c', e, h1, h2, hx⟩
  · injection e with e1 e2 e3
    subst e1 e3
    have : i = 0 := by omega
    subst this
    exact .inl ⟨by rw [if_pos rfl, h0], by rw [h0]⟩
  · injection e with e1 e2 e3
    subst e1 e3
    by_cases hci : c = i
    · rw [if_pos hci]
      refine .inr ⟨b, o, c - i, rfl, by omega, by omega, fun j u hu => ?_⟩
      have : (xs.drop i)[j]? = none := List.getElem?_eq_none (by rw [List.length_drop]; omega)
      rw [this] at hu; cases hu
    · rw [if_neg hci]
      refine .inr ⟨b, o + i, c - i, ?_, by omega, by omega, fun j u hu => ?_⟩
      · simp [add_lit]
      · rw [List.getElem?_drop] at hu
        rw [Nat.add_assoc]
        exact hx _ u hu
def ReadSaid (w : World) (s : ByteArray) (e : Ending) (w' : World) : Prop :=
  Keep (fun _ => False) w w' ∧ (readR s = none → ∃ x y ao n cap, e = .returned (.tuple #[.agg #[.string x, .string y, .slice ao n cap], .bool false])) ∧
  ∀ wd nm ns, readR s = some (wd, nm, ns) → ∃ vn, e = .returned (.tuple #[.agg #[.string wd, .string nm, vn], .bool true]) ∧ Rd w' 1 vn ns.length (icells ns)
theorem read_no {w w' : World} {s x y : ByteArray} {ao : Option Addr} {n cap : Nat} (h : readR s = none) (hk : Keep (fun _ => False) w w') : ReadSaid w s (.returned (.tuple #[.agg #[.string x, .string y, .slice ao n cap], .bool false])) w' :=
  ⟨hk, fun _ => ⟨x, y, ao, n, cap, rfl⟩, fun wd nm ns h2 => by rw [h] at h2; cases h2⟩
theorem read_results (tmps : Array Value) (w : World) {b1 : Nat} {v0 v1 v2 ok : Value} (h2 : tmps[2]?.getD undef = .pointer (some ⟨b1, 0, none⟩)) (h3 : tmps[3]?.getD undef = ok)
    (c0 : w.cell? ⟨b1, 0, none⟩ = some v0) (c1 : w.cell? ⟨b1, 1, none⟩ = some v1) (c2 : w.cell? ⟨b1, 2, none⟩ = some v2) :
    (results Tryz.f95 tmps).run Tryz.prog w = .ok (.tuple #[.agg #[v0, v1, v2], ok]) w := by
  have hr : Tryz.f95.results = #[.cell 2 169, .tmp 3] := by kernel_rfl
  unfold results
  rw [hr]
  simp [h2, h3, go_sem, c0, c1, c2]
  try simp [go_sem, c0, c1, c2, Result.andThen]
theorem read_back {R : Ending → World → Prop} {a : Act} {w1 : World} {b1 : Nat} {c1 : Array Value} {v0 v1 v2 ok : Value} (B1 : Blk w1 b1 c1 169) (s1 : c1.size = 3)
    (h2 : a.tmps[2]?.getD undef = .pointer (some ⟨b1, 0, none⟩)) (h3 : a.tmps[3]?.getD undef = ok) (hd : a.defers = [])
    (hR : ∀ wf, Keep (fun k => k = b1) w1 wf → R (.returned (.tuple #[.agg #[v0, v1, v2], ok])) wf) :
    bodyPost Tryz.prog Tryz.f95 R .ret a (((w1.setCell ⟨b1, 0, none⟩ v0).setCell ⟨b1, 1, none⟩ v1).setCell ⟨b1, 2, none⟩ v2) := by
  have D1 := ((B1.set 0 v0).set 1 v1).set 2 v2
  refine bodyPost_ret (read_results _ _ h2 h3 ((D1.cell 0).trans ?_) ((D1.cell 1).trans ?_) ((D1.cell 2).trans ?_)) hd (hR _ ?_)
  · simp [s1]
  · simp [s1]
  · simp [s1]
  · exact (((Keep.refl (fun k => k = b1) w1).setCell _ _ (fun _ => rfl)).setCell _ _ (fun _ => rfl)).setCell _ _ (fun _ => rfl)
def RSp (w : World) (s : ByteArray) (e : Ending) (w1 : World) : Prop :=
  e = .returned (.slice (some ⟨w.heap.size + 1, 0, none⟩) (words s).length (words s).length) ∧ Keep (fun _ => False) w w1 ∧ Blk w1 w.heap.size #[.string ⟨#[]⟩, .string ⟨#[]⟩, .slice none 0 0] 169 ∧ w1.heap.size = w.heap.size + 2 ∧ ∀ j, j < (words s).length → w1.cell? ⟨w.heap.size + 1, j, none⟩ = some (.string ((words s).getD j ByteArray.empty))
theorem rsp_any {w : World} {s : ByteArray} (hG : Glob w) (hs : s.size ≤ 4096) : Calls Tryz.prog 101 #[.string s, .string ⟨#[32]⟩] (w.alloc (.cells #[.string ⟨#[]⟩, .string ⟨#[]⟩, .slice none 0 0] 169)) (RSp w s) := by
  refine (split_any (hG.keep ((Keep.refl _ _).alloc _)) hs).mono ?_
  rintro e w1 ⟨rfl, rfl⟩
  refine ⟨by rw [World.size_alloc], ((Keep.refl _ _).alloc _).alloc _, (Blk.new _ _ _).alloc _, by rw [World.size_alloc, World.size_alloc], fun j hj => ?_⟩
  have := words_cell (w.alloc (.cells #[.string ⟨#[]⟩, .string ⟨#[]⟩, .slice none 0 0] 169)) s j hj
  rwa [Nat.zero_add, World.size_alloc] at this
def RCut (w : World) (cb : Nat) (hd : ByteArray) (ws : List ByteArray) (s6 s7 : Value) (wx : World) : Prop :=
  ∃ nm nums cnt ao cap, refParts ws = some (nm, nums, cnt) ∧ s6 = .slice ao nums.length cap ∧ s7 = .int .i64 (cnt : Nat) ∧ Rd wx 1 (.slice ao nums.length cap) nums.length (strCells nums) ∧ (∀ b, (Value.slice ao nums.length cap).ownBlock = some b → b = w.heap.size + 1) ∧ Blk wx cb #[.string hd, .string nm, .slice none 0 0] 169 ∧ Blk wx w.heap.size #[.string ⟨#[]⟩, .string ⟨#[]⟩, .slice none 0 0] 169 ∧ Keep (fun _ => False) w wx
theorem rcut_mk {w wx : World} {cb n cnt cap : Nat} {hd nm : ByteArray} {ws nums : List ByteArray} {ao : Option Addr} (hp : refParts ws = some (nm, nums, cnt)) (hn : nums.length = n) (hrd : Rd wx 1 (.slice ao n cap) n (strCells nums)) (ho : ∀ b, (Value.slice ao n cap).ownBlock = some b → b = w.heap.size + 1)
    (hb : Blk wx cb #[.string hd, .string nm, .slice none 0 0] 169) (hb0 : Blk wx w.heap.size #[.string ⟨#[]⟩, .string ⟨#[]⟩, .slice none 0 0] 169) (hk : Keep (fun _ => False) w wx) : RCut w cb hd ws (.slice ao n cap) (.int .i64 (cnt : Nat)) wx := by
  subst hn
  exact ⟨nm, nums, cnt, ao, cap, hp, rfl, rfl, hrd, ho, hb, hb0, hk⟩
theorem own_drop {B i n c c2 b : Nat} (h : (Value.slice (if c2 = i then some (⟨B, 0, none⟩ : Addr) else (some (⟨B, 0, none⟩ : Addr)).map (fun x => x.add i)) n c).ownBlock = some b) : b = B := by
  split at h
  · cases h; rfl
  · simp only [Option.map_some, Addr.add] at h
    split at h <;> (cases h; rfl)
theorem strCells_drop (ws : List ByteArray) (i : Nat) : (strCells ws).drop i = strCells (ws.drop i) := by simp [strCells]
theorem strCells_take (ws : List ByteArray) (i : Nat) : (strCells ws).take i = strCells (ws.take i) := by simp [strCells]
theorem not_or {p q : Prop} (hp : ¬ p) (hq : ¬ q) : ¬ (p ∨ q) := fun h => h.elim hp hq
def RLp (wx : World) (cb : Nat) (hd nm : ByteArray) (ns : List Int) (W : World) : Prop :=
  ∃ vn, W.ownsRow wx.heap.size 3 1 vn ns.length (icells ns) ∧ Blk W cb #[.string hd, .string nm, vn] 169 ∧ Keep (fun b => b = cb) wx W
theorem box_cells {W : World} {cb rb : Nat} {hd nm : ByteArray} {v : Value} (hb : Blk W cb #[.string hd, .string nm, v] 169) (h0 : Blk W rb #[.string ⟨#[]⟩, .string ⟨#[]⟩, .slice none 0 0] 169) :
    W.cell? ⟨cb, 0, none⟩ = some (.string hd) ∧ W.cell? ⟨cb, 1, none⟩ = some (.string nm) ∧ W.cell? ⟨cb, 2, none⟩ = some v ∧ W.cell? ⟨rb, 0, none⟩ = some (.string ⟨#[]⟩) ∧ W.cell? ⟨rb, 1, none⟩ = some (.string ⟨#[]⟩) ∧ W.cell? ⟨rb, 2, none⟩ = some (.slice none 0 0) ∧
    W.frozen? ⟨cb, 1, none⟩ = false ∧ W.frozen? ⟨cb, 2, none⟩ = false ∧ W.frozen? ⟨rb, 0, none⟩ = false ∧ W.frozen? ⟨rb, 1, none⟩ = false ∧ W.frozen? ⟨rb, 2, none⟩ = false :=
  ⟨hb.cell 0, hb.cell 1, hb.cell 2, h0.cell 0, h0.cell 1, h0.cell 2, hb.free 1, hb.free 2, h0.free 0, h0.free 1, h0.free 2⟩
theorem refParts_small {ws nums : List ByteArray} {nm : ByteArray} {cnt : Nat} (h : refParts ws = some (nm, nums, cnt)) : cnt ≤ 3 ∧ nums.length ≤ ws.length ∧ ∀ x ∈ nums, x ∈ ws := by
  unfold refParts at h
  split at h
  · split at h
    · cases h; exact ⟨by omega, by simp, fun x hx => List.mem_of_mem_drop hx⟩
    · cases h
  split at h
  · split at h
    · cases h; exact ⟨by omega, by simp; omega, fun x hx => List.mem_of_mem_drop (List.mem_of_mem_take hx)⟩
    · cases h
  split at h
  · cases h; exact ⟨by omega, by simp, fun x hx => List.mem_of_mem_drop hx⟩
  split at h
  · cases h; exact ⟨by omega, by simp, fun x hx => List.mem_of_mem_drop hx⟩
  split at h
  · cases h; exact ⟨by omega, by simp, fun x hx => List.mem_of_mem_drop hx⟩
  split at h
  · cases h; exact ⟨by omega, by simp, fun x hx => List.mem_of_mem_drop hx⟩
  · cases h
theorem lit_eq (x : ByteArray) (l : List UInt8) (h : x.data.toList = l) : (x.toList == l) = true := by rw [beq_iff_eq, Lib.toList_data]; exact h
theorem lit_ne (x : ByteArray) (l : List UInt8) (h : x.data.toList ≠ l) : (x.toList == l) = false := by rw [beq_eq_false_iff_ne, Lib.toList_data]; exact h
set_option maxHeartbeats 3000000 in
set_option maxRecDepth 100000 in
theorem rread_any {w : World} {s : ByteArray} (hG : Glob w) (hs : s.size ≤ 4096) : Calls Tryz.prog 95 #[.string s] w (ReadSaid w s) := by
  have H101 := Lib.hid (rsp_any hG hs)
  have H133 := Lib.hid (fun W (hk : Keep (fun _ => False) w W) => line_any (hG.keep hk) hs)
  have HG := Lib.hid hG; have HS := Lib.hid hs
  have hL1 : 1 ≤ (words s).length := by rw [words_length]; omega
  have hL2 : (words s).length ≤ 4097 := by
    have := Lib.countB_le ⟨#[32]⟩ (by decide) s.size s (Nat.le_refl _)
    rw [words_length]; omega
  have hWZ : ∀ x ∈ words s, x.size ≤ 4096 := fun x hx => Nat.le_trans (splitB_size _ _ _ _ x hx) hs
  unfold RSp at H101
  have HR := Lib.hid (show readR s = match refParts (words s) with
    | none => none
    | some (nm, nums, cnt) => if isLineB s = true ∧ nums.length = cnt ∧ nums.all numOk = true then some ((words s).headD (bs []), nm, nums.map atoiN) else none from rfl)
  obtain ⟨ws, hws⟩ : ∃ ws, words s = ws := ⟨_, rfl⟩
  rw [hws] at H101 hL1 hL2 hWZ HR
  have HWZ := Lib.hid hWZ
  obtain ⟨hd, hhd⟩ : ∃ hd, ws.getD 0 ByteArray.empty = hd := ⟨_, rfl⟩
  have hhd2 : ws.headD (bs []) = hd := by
    cases ws with
    | nil => simp at hL1
    | cons a r => rw [← hhd]; rfl
  rw [hhd2] at HR
  have HHD := Lib.hid hhd; have HHD2 := Lib.hid hhd2
  obtain ⟨L, hLL⟩ : ∃ L, ws.length = L := ⟨_, rfl⟩
  rw [hLL] at H101 hL1 hL2
  have HLL := Lib.hid hLL
  have hle1 : (1 : Int) ≤ (L : Int) := by omega
  obtain ⟨sa, hsa⟩ : ∃ sa, (if L = 1 then some (⟨w.heap.size + 1, 0, none⟩ : Addr) else (some (⟨w.heap.size + 1, 0, none⟩ : Addr)).map (fun x => x.add 1)) = sa := ⟨_, rfl⟩
  have hsl : ∀ W, (Instr.slice 44 (.slice (some ⟨w.heap.size + 1, 0, none⟩) L L) (some (.int .i64 1)) none none).run Tryz.prog W = .ok (.slice sa (L - 1) (L - 1)) W := fun W => by
    rw [run_slice_l W 44 (some ⟨w.heap.size + 1, 0, none⟩) L L (by kernel_rfl) .i64 1 (by omega) hle1]
    have h1 : (sizeOf (Tryz.prog.elem 44)).run Tryz.prog W = .ok 1 W := by kernel_rfl
    rw [h1]
    rw [← hsa]
    rfl
  have HSA := Lib.hid hsa; clear hG hs hws hWZ hhd hhd2 hLL hsa
  go_enter Tryz.func95, Tryz.ntmps95
  go_upto_block 0 with (go_at_call 101; refine H101.out.mono ?_; rintro e w1 ⟨rfl, hk1, hb1, hz1, hc1⟩; have HK1 := Lib.hid hk1; have HB1 := Lib.hid hb1; have HZ1 := Lib.hid hz1; have HC1 := Lib.hid hc1; have cw0 := hc1 0 (by omega); rw [HHD.out] at cw0; clear hk1 hb1 hz1 hc1)
  have hB2 : Blk (w1.alloc (.cells #[.string hd, .string ⟨#[]⟩, .slice none 0 0] 169)) w1.heap.size #[.string hd, .string ⟨#[]⟩, .slice none 0 0] 169 := Blk.new _ _ _
  have hK12 : Keep (fun _ => False) w1 (w1.alloc (.cells #[.string hd, .string ⟨#[]⟩, .slice none 0 0] 169)) := (Keep.refl _ _).alloc _
  obtain ⟨w2, hw2⟩ : ∃ w2, w2 = w1.alloc (.cells #[.string hd, .string ⟨#[]⟩, .slice none 0 0] 169) := ⟨_, rfl⟩
  rw [← hw2] at hB2 hK12
  rw [← hw2]
  have hz2 := HZ1.out
  have HB0 := Lib.hid (HB1.out.keep hK12 (fun h => h))
  have HC2 : Hid (∀ j, j < L → w2.cell? ⟨w.heap.size + 1, j, none⟩ = some (.string (ws.getD j ByteArray.empty))) := Lib.hid fun j hj => (hK12.cell (p := ⟨w.heap.size + 1, j, none⟩) (show w.heap.size + 1 < w1.heap.size by omega) (fun h => h)).trans (HC1.out j hj)
  have HK2 := Lib.hid (HK1.out.trans hK12 (fun _ _ h => h))
  obtain ⟨cb, hcb⟩ : ∃ cb, w1.heap.size = cb := ⟨_, rfl⟩
  rw [hcb] at hB2
  rw [hcb]
  have HCB := Lib.hid (show cb = w.heap.size + 2 by omega)
  have HB2 := Lib.hid hB2
  have HRD : Hid (Rd w2 1 (.slice (some ⟨w.heap.size + 1, 0, none⟩) L L) L (strCells ws)) := Lib.hid ⟨by rw [strCells_length, HLL.out]; omega, strCells_one _, .inr ⟨w.heap.size + 1, 0, L, rfl, Nat.le_refl _, by unfold maxLen; omega, fun j u hu => by
    have hj : j < ws.length := by have := (List.getElem?_eq_some_iff.1 hu).1; rwa [strCells_length] at this
    rw [strCells_get ws j hj] at hu
    cases hu
    rw [Nat.zero_add]
    exact HC2.out j (by rw [← HLL.out]; exact hj)⟩⟩
  clear hw2 hz2 cw0 hB2 hK12 hcb
  go_cut [6, 7] (RCut w cb hd ws)
  case first =>
    have HRN : Hid (refParts ws = none → readR s = none) := Lib.hid fun h => by rw [HR.out, h]
    have HRP : Hid (refParts ws = _) := Lib.hid (by unfold refParts; rw [HHD2.out, HLL.out])
    obtain ⟨b0, b1, b2, a0, a1, a2, f1, f2, g0, g1, g2⟩ := box_cells HB2.out HB0.out
    by_cases h1 : hd.data.toList = [116, 97, 107, 101]
    · have c1 := lit_eq _ _ h1
      by_cases h3 : L = 3
      · have hne : ((L : Int) != 3) = false := by rw [h3]; rfl
        have h1L : 1 < L := by omega
        have h1I : (1 : Int) < (L : Int) := by omega
        have h2L : (2 : Int) ≤ (L : Int) := by omega
        have cx := HC2.out 1 h1L
        obtain ⟨x, hx⟩ : ∃ x, ws.getD 1 ByteArray.empty = x := ⟨_, rfl⟩
        rw [hx] at cx
        have hx2 : ws.getD 1 (bs []) = x := hx
        have hxm : x ∈ ws := by rw [← hx]; simp [List.getD, List.getElem?_eq_getElem (show 1 < ws.length by rw [HLL.out]; exact h1L)]
        have H132 := Lib.hid (spice_any (w := w2) (s := x) (by have := HWZ.out x hxm; omega))
        cases hsp : (decide (1 ≤ x.size) && isSpiceB x) with
        | false =>
          rw [hsp] at H132
          have HPN : Hid (refParts ws = none) := Lib.hid (by rw [HRP.out, if_pos h1, hx2, if_neg (fun h => by have := h.2; unfold spiceOk at this; rw [hsp] at this; cases this)])
          clear h1 h3 hx hx2 hxm hsp hsl
          go_wp2_with (go_at_call 132; refine H132.out.mono ?_; rintro e w3 ⟨rfl, hk3⟩; obtain ⟨b0, b1, b2, a0, a1, a2, f1, f2, g0, g1, g2⟩ := box_cells (HB2.out.keep hk3 (fun h => h)) (HB0.out.keep hk3 (fun h => h)); have HK3 := Lib.hid hk3; clear hk3)
          (try simp only [Exit.inBlock, Exit.then])
          refine read_back (HB0.out.keep HK3.out (fun h => h)) rfl rfl rfl rfl (fun wf hkf => ?_)
          exact read_no (HRN.out HPN.out) ((HK2.out.trans HK3.out (fun _ _ h => h)).trans hkf (fun k hk e => by omega))
        | true =>
          rw [hsp] at H132
          have HPN : Hid (refParts ws = some (x, ws.drop 2, 1)) := Lib.hid (by rw [HRP.out, if_pos h1, hx2, if_pos ⟨h3, hsp⟩])
          obtain ⟨sb, hsb⟩ : ∃ sb, (if L = 2 then some (⟨w.heap.size + 1, 0, none⟩ : Addr) else (some (⟨w.heap.size + 1, 0, none⟩ : Addr)).map (fun x => x.add 2)) = sb := ⟨_, rfl⟩
          have hsl2 : ∀ W, (Instr.slice 44 (.slice (some ⟨w.heap.size + 1, 0, none⟩) L L) (some (.int .i64 2)) none none).run Tryz.prog W = .ok (.slice sb (L - 2) (L - 2)) W := fun W => by
            rw [run_slice_l W 44 (some ⟨w.heap.size + 1, 0, none⟩) L L (by kernel_rfl) .i64 2 (by omega) h2L]
            have h1 : (sizeOf (Tryz.prog.elem 44)).run Tryz.prog W = .ok 1 W := by kernel_rfl
            rw [h1, ← hsb]
            rfl
          have HRD2 : Hid (Rd w2 1 (.slice sb (L - 2) (L - 2)) (L - 2) (strCells (ws.drop 2))) := Lib.hid (by rw [← hsb, ← strCells_drop]; exact HRD.out.dropN 2 (by omega))
          have HOW : Hid (∀ b, (Value.slice sb (L - 2) (L - 2)).ownBlock = some b → b = w.heap.size + 1) := Lib.hid fun b hb => by rw [← hsb] at hb; exact own_drop hb
          have hcx : w.heap.size + 1 < w2.heap.size := World.block_lt_of_cell? w2 _ cx
          have HSX : Hid (∀ W, Keep (fun k => k = cb) w2 W → W.cell? ⟨w.heap.size + 1, 1, none⟩ = some (.string x)) := Lib.hid fun W hk => (hk.cell (p := ⟨w.heap.size + 1, 1, none⟩) hcx (by have := HCB.out; show ¬ w.heap.size + 1 = cb; omega)).trans cx
          clear h1 h3 hx hx2 hxm hsp hsl hsb hcx
          go_upto_region 11 with (go_at_call 132; refine H132.out.mono ?_; rintro e w3 ⟨rfl, hk3⟩; obtain ⟨b0, b1, b2, a0, a1, a2, f1, f2, g0, g1, g2⟩ := box_cells (HB2.out.keep hk3 (fun h => h)) (HB0.out.keep hk3 (fun h => h)); have HK3 := Lib.hid hk3; have HSX := Lib.hid (fun W (hk : Keep (fun k => k = cb) w3 W) => HSX.out W ((hk3.mono (fun _ _ h => h.elim)).trans hk (fun _ _ h => h))); clear hk3)
          refine wp_region_held_drew (S := fun W => W.cell? ⟨w.heap.size + 1, 1, none⟩ = some (.string x)) (by kernel_rfl) (HSX.out _ (Keep.refl _ _).drew) (fun hHeld => ?_)
          refine wpAnyH_take (i := 0) (oi := _) (v := ?_) rfl (by kernel_rfl) (by kernel_rfl) (by kernel_rfl) (fun _ _ _ h => h) (Or.inl ⟨by rfl, ?_⟩) (by assumption) ?_
          rotate_left
          · (intro w hSw; (try dsimp only at hSw); go_simp) <;> with_reducible rfl
          (try simp only [List.getElem_toArray, List.getElem_cons_zero, List.getElem_cons_succ, Act.put, List.setIfInBounds_toArray, List.set_cons_zero, List.set_cons_succ])
          refine wpAnyH_take (i := 1) (oi := _) (v := ?_) rfl (by kernel_rfl) (by kernel_rfl) (by kernel_rfl) (fun _ _ _ h => h) (Or.inl ⟨by rfl, ?_⟩) (by assumption) ?_
          rotate_left
          · (intro w hSw; (try dsimp only at hSw); go_simp) <;> with_reducible rfl
          (try simp only [List.getElem_toArray, List.getElem_cons_zero, List.getElem_cons_succ, Act.put, List.setIfInBounds_toArray, List.set_cons_zero, List.set_cons_succ])
          refine wpAnyH_take (i := 2) (oi := _) (v := ?_) rfl (by kernel_rfl) (by kernel_rfl) (by kernel_rfl) (fun _ _ _ h => h) (Or.inl ⟨by rfl, ?_⟩) (by assumption) ?_
          rotate_left
          · (intro w hSw; (try dsimp only at hSw); go_simp) <;> with_reducible rfl
          (try simp only [List.getElem_toArray, List.getElem_cons_zero, List.getElem_cons_succ, Act.put, List.setIfInBounds_toArray, List.set_cons_zero, List.set_cons_succ])
          refine wpAnyH_take (i := 3) (oi := _) (v := ?_) rfl (by kernel_rfl) (by kernel_rfl) (by kernel_rfl) (fun _ _ _ h => h) (Or.inl ⟨by rfl, ?_⟩) (by assumption) ?_
          rotate_left
          · (intro w hSw; (try dsimp only at hSw); go_simp) <;> with_reducible rfl
          (try simp only [List.getElem_toArray, List.getElem_cons_zero, List.getElem_cons_succ, Act.put, List.setIfInBounds_toArray, List.set_cons_zero, List.set_cons_succ])
          refine wpAnyH_take (i := 4) (oi := _) (v := ?_) rfl (by kernel_rfl) (by kernel_rfl) (by kernel_rfl) (fun _ _ _ h => h) (Or.inl ⟨by rfl, ?_⟩) (by assumption) ?_
          rotate_left
          · (intro w hSw; (try dsimp only at hSw); go_simp) <;> with_reducible rfl
          (try simp only [List.getElem_toArray, List.getElem_cons_zero, List.getElem_cons_succ, Act.put, List.setIfInBounds_toArray, List.set_cons_zero, List.set_cons_succ])
          refine wpAnyH_take (i := 5) (oi := _) (v := ?_) rfl (by kernel_rfl) (by kernel_rfl) (by kernel_rfl) (fun _ _ _ h => h) (Or.inl ⟨by rfl, ?_⟩) (by assumption) ?_
          rotate_left
          · (intro w hSw; (try dsimp only at hSw); go_simp) <;> with_reducible rfl
          (try simp only [List.getElem_toArray, List.getElem_cons_zero, List.getElem_cons_succ, Act.put, List.setIfInBounds_toArray, List.set_cons_zero, List.set_cons_succ])
          refine wpAnyH_ready (rs := [6]) (by kernel_rfl) (by simp) ?_; refine AllReadyH.cons (o := _) rfl (fun K hK => ?_) AllReadyH.nil
          go_simp
          refine hK.out _ _ ?_ (fun hHeld => ?_)
          · (refine HSX.out _ ?_; repeat (first | exact Keep.refl _ _ | apply Keep.drew | apply Keep.alloc | refine Keep.setCell ?_ _ _ (fun _ => rfl)))
          clear hK K
          (try simp only [List.getElem_toArray, List.getElem_cons_zero, List.getElem_cons_succ, Act.put, List.setIfInBounds_toArray, List.set_cons_zero, List.set_cons_succ])
          refine wpAnyH_take (i := 7) (oi := _) (v := ?_) rfl (by kernel_rfl) (by kernel_rfl) (by kernel_rfl) (fun _ _ _ h => h) (Or.inl ⟨by rfl, ?_⟩) (by assumption) ?_
          rotate_left
          · (intro w hSw; (try dsimp only at hSw); go_simp) <;> with_reducible rfl
          (try simp only [List.getElem_toArray, List.getElem_cons_zero, List.getElem_cons_succ, Act.put, List.setIfInBounds_toArray, List.set_cons_zero, List.set_cons_succ])
          refine wpAnyH_done (by kernel_rfl) ?_ _
          go_wp2_with fail
          go_meet
          have hkn := HK3.out.drew
          have hne0 : ¬ cb = w.heap.size := by have := HCB.out; omega
          exact rcut_mk HPN.out (by rw [List.length_drop, HLL.out]) ((HRD2.out.keep hkn (fun _ _ h => h)).keep ((Keep.refl (fun k => k = cb) _).setCell _ _ (fun _ => rfl)) (fun b hb h => by have h1 := HOW.out b hb; have h2 := HCB.out; have h3 : b = cb := h; omega)) HOW.out
            ((HB2.out.keep hkn (fun h => h)).set 1 (.string x)) ((HB0.out.keep hkn (fun h => h)).setOther ⟨cb, 1, none⟩ _ (fun h => hne0 h.symm)) ((HK2.out.trans hkn (fun _ _ h => h)).setCell _ _ (fun h => by have := HCB.out; have h2 : cb < w.heap.size := h; omega))
      · have hne : ((L : Int) != 3) = true := by simp; omega
        have HPN : Hid (refParts ws = none) := Lib.hid (by rw [HRP.out, if_pos h1, if_neg (fun h => h3 h.1)])
        clear h1 h3 hsl
        go_wp2_with fail
        (try simp only [Exit.inBlock, Exit.then])
        refine read_back HB0.out rfl rfl rfl rfl (fun wf hkf => ?_)
        exact read_no (HRN.out HPN.out) (HK2.out.trans hkf (fun k hk e => by omega))
    have hn1 : ¬ hd.data.toList = [116, 97, 107, 101] := h1
    have c1 := lit_ne _ _ h1
    by_cases h2 : hd.data.toList = [116, 101, 115, 116]
    · have c2 := lit_eq _ _ h2
      by_cases h3 : L = 3
      · have hne : ((L : Int) != 3) = false := by rw [h3]; rfl
        have h1L : 2 < L := by omega
        have h1I : (2 : Int) < (L : Int) := by omega
        have h2L : (2 : Int) ≤ (L : Int) := by omega
        have cx := HC2.out 2 h1L
        obtain ⟨x, hx⟩ : ∃ x, ws.getD 2 ByteArray.empty = x := ⟨_, rfl⟩
        rw [hx] at cx
        have hx2 : ws.getD 2 (bs []) = x := hx
        obtain ⟨sb, hsb⟩ : ∃ sb, (if L = 1 then some (⟨w.heap.size + 1, 0, none⟩ : Addr) else (some (⟨w.heap.size + 1, 0, none⟩ : Addr)).map (fun x => x.add 1)) = sb := ⟨_, rfl⟩
        have hsl2 : ∀ W, (Instr.slice 44 (.slice (some ⟨w.heap.size + 1, 0, none⟩) L L) (some (.int .i64 1)) (some (.int .i64 2)) none).run Tryz.prog W = .ok (.slice sb 1 (L - 1)) W := fun W => by
          rw [run_slice_lh W 44 (some ⟨w.heap.size + 1, 0, none⟩) L L (by kernel_rfl) .i64 .i64 1 2 (by omega) (by omega) h2L]
          have h1 : (sizeOf (Tryz.prog.elem 44)).run Tryz.prog W = .ok 1 W := by kernel_rfl
          rw [h1, ← hsb]
          rfl
        have HRD2 : Hid (Rd w2 1 (.slice sb 1 (L - 1)) 1 (strCells ((ws.drop 1).take 1))) := Lib.hid (by rw [← hsb, ← strCells_take, ← strCells_drop]; exact (HRD.out.dropN 1 (by omega)).takeN 1 (by omega))
        have HOW : Hid (∀ b, (Value.slice sb 1 (L - 1)).ownBlock = some b → b = w.heap.size + 1) := Lib.hid fun b hb => by rw [← hsb] at hb; exact own_drop hb
        have hcx : w.heap.size + 1 < w2.heap.size := World.block_lt_of_cell? w2 _ cx
        have HSX : Hid (∀ W, Keep (fun k => k = cb) w2 W → W.cell? ⟨w.heap.size + 1, 2, none⟩ = some (.string x)) := Lib.hid fun W hk => (hk.cell (p := ⟨w.heap.size + 1, 2, none⟩) hcx (by have := HCB.out; show ¬ w.heap.size + 1 = cb; omega)).trans cx
        have HWL := Lib.hid (show ((ws.drop 1).take 1).length = 1 by rw [List.length_take, List.length_drop, HLL.out, h3]; rfl)
        by_cases hg : x = goodB
        · have hg1 : (x.toList == [103, 111, 111, 100]) = true := beq_iff_eq.2 ((toList_bs _ _).2 hg)
          have hg2 : (x.toList != [103, 111, 111, 100]) = false := by rw [bne, hg1]; rfl
          have hg3 : (x.toList = [103, 111, 111, 100]) = True := eq_true ((toList_bs _ _).2 hg)
          have HPN : Hid (refParts ws = some (x, (ws.drop 1).take 1, 1)) := Lib.hid (by rw [HRP.out, if_neg hn1, if_pos h2, hx2, if_pos ⟨h3, .inl hg⟩])
          clear h1 hn1 h2 h3 hx hx2 hsl hsb hcx hg
          go_upto_region 16 with fail
          refine wp_region_held_drew (S := fun W => W.cell? ⟨w.heap.size + 1, 2, none⟩ = some (.string x)) (by kernel_rfl) (HSX.out _ (Keep.refl _ _).drew) (fun hHeld => ?_)
          refine wpAnyH_take (i := 0) (oi := _) (v := ?_) rfl (by kernel_rfl) (by kernel_rfl) (by kernel_rfl) (fun _ _ _ h => h) (Or.inl ⟨by rfl, ?_⟩) (by assumption) ?_
          rotate_left
          · (intro w hSw; (try dsimp only at hSw); go_simp) <;> with_reducible rfl
          (try simp only [List.getElem_toArray, List.getElem_cons_zero, List.getElem_cons_succ, Act.put, List.setIfInBounds_toArray, List.set_cons_zero, List.set_cons_succ])
          refine wpAnyH_take (i := 1) (oi := _) (v := ?_) rfl (by kernel_rfl) (by kernel_rfl) (by kernel_rfl) (fun _ _ _ h => h) (Or.inl ⟨by rfl, ?_⟩) (by assumption) ?_
          rotate_left
          · (intro w hSw; (try dsimp only at hSw); go_simp) <;> with_reducible rfl
          (try simp only [List.getElem_toArray, List.getElem_cons_zero, List.getElem_cons_succ, Act.put, List.setIfInBounds_toArray, List.set_cons_zero, List.set_cons_succ])
          refine wpAnyH_take (i := 2) (oi := _) (v := ?_) rfl (by kernel_rfl) (by kernel_rfl) (by kernel_rfl) (fun _ _ _ h => h) (Or.inl ⟨by rfl, ?_⟩) (by assumption) ?_
          rotate_left
          · (intro w hSw; (try dsimp only at hSw); go_simp) <;> with_reducible rfl
          (try simp only [List.getElem_toArray, List.getElem_cons_zero, List.getElem_cons_succ, Act.put, List.setIfInBounds_toArray, List.set_cons_zero, List.set_cons_succ])
          refine wpAnyH_take (i := 3) (oi := _) (v := ?_) rfl (by kernel_rfl) (by kernel_rfl) (by kernel_rfl) (fun _ _ _ h => h) (Or.inl ⟨by rfl, ?_⟩) (by assumption) ?_
          rotate_left
          · (intro w hSw; (try dsimp only at hSw); go_simp) <;> with_reducible rfl
          (try simp only [List.getElem_toArray, List.getElem_cons_zero, List.getElem_cons_succ, Act.put, List.setIfInBounds_toArray, List.set_cons_zero, List.set_cons_succ])
          refine wpAnyH_take (i := 4) (oi := _) (v := ?_) rfl (by kernel_rfl) (by kernel_rfl) (by kernel_rfl) (fun _ _ _ h => h) (Or.inl ⟨by rfl, ?_⟩) (by assumption) ?_
          rotate_left
          · (intro w hSw; (try dsimp only at hSw); go_simp) <;> with_reducible rfl
          (try simp only [List.getElem_toArray, List.getElem_cons_zero, List.getElem_cons_succ, Act.put, List.setIfInBounds_toArray, List.set_cons_zero, List.set_cons_succ])
          refine wpAnyH_take (i := 5) (oi := _) (v := ?_) rfl (by kernel_rfl) (by kernel_rfl) (by kernel_rfl) (fun _ _ _ h => h) (Or.inl ⟨by rfl, ?_⟩) (by assumption) ?_
          rotate_left
          · (intro w hSw; (try dsimp only at hSw); go_simp) <;> with_reducible rfl
          (try simp only [List.getElem_toArray, List.getElem_cons_zero, List.getElem_cons_succ, Act.put, List.setIfInBounds_toArray, List.set_cons_zero, List.set_cons_succ])
          refine wpAnyH_ready (rs := [6]) (by kernel_rfl) (by simp) ?_; refine AllReadyH.cons (o := _) rfl (fun K hK => ?_) AllReadyH.nil
          go_simp
          refine hK.out _ _ ?_ (fun hHeld => ?_)
          · (refine HSX.out _ ?_; repeat (first | exact Keep.refl _ _ | apply Keep.drew | apply Keep.alloc | refine Keep.setCell ?_ _ _ (fun _ => rfl)))
          clear hK K
          (try simp only [List.getElem_toArray, List.getElem_cons_zero, List.getElem_cons_succ, Act.put, List.setIfInBounds_toArray, List.set_cons_zero, List.set_cons_succ])
          refine wpAnyH_take (i := 7) (oi := _) (v := ?_) rfl (by kernel_rfl) (by kernel_rfl) (by kernel_rfl) (fun _ _ _ h => h) (Or.inl ⟨by rfl, ?_⟩) (by assumption) ?_
          rotate_left
          · (intro w hSw; (try dsimp only at hSw); go_simp) <;> with_reducible rfl
          (try simp only [List.getElem_toArray, List.getElem_cons_zero, List.getElem_cons_succ, Act.put, List.setIfInBounds_toArray, List.set_cons_zero, List.set_cons_succ])
          refine wpAnyH_done (by kernel_rfl) ?_ _
          go_wp2_with fail
          go_meet
          have hkn := (Keep.refl (fun _ => False) w2).drew
          have hne0 : ¬ cb = w.heap.size := by have := HCB.out; omega
          exact rcut_mk HPN.out HWL.out ((HRD2.out.keep hkn (fun _ _ h => h)).keep ((Keep.refl (fun k => k = cb) _).setCell _ _ (fun _ => rfl)) (fun b hb h => by have h1 := HOW.out b hb; have h2 := HCB.out; have h3 : b = cb := h; omega)) HOW.out
            ((HB2.out.keep hkn (fun h => h)).set 1 (.string x)) ((HB0.out.keep hkn (fun h => h)).setOther ⟨cb, 1, none⟩ _ (fun h => hne0 h.symm)) ((HK2.out.trans hkn (fun _ _ h => h)).setCell _ _ (fun h => by have := HCB.out; have h2 : cb < w.heap.size := h; omega))
        · have hg1 : (x.toList == [103, 111, 111, 100]) = false := beq_eq_false_iff_ne.2 (fun h => hg ((toList_bs _ _).1 h))
          have hg2 : (x.toList != [103, 111, 111, 100]) = true := by rw [bne, hg1]; rfl
          have hg3 : (x.toList = [103, 111, 111, 100]) = False := eq_false (fun h => hg ((toList_bs _ _).1 h))
          by_cases hb : x = badBs
          · have hq1 : (x.toList == [98, 97, 100]) = true := beq_iff_eq.2 ((toList_bs _ _).2 hb)
            have hq2 : (x.toList != [98, 97, 100]) = false := by rw [bne, hq1]; rfl
            have hq3 : (x.toList = [98, 97, 100]) = True := eq_true ((toList_bs _ _).2 hb)
            have HPN : Hid (refParts ws = some (x, (ws.drop 1).take 1, 1)) := Lib.hid (by rw [HRP.out, if_neg hn1, if_pos h2, hx2, if_pos ⟨h3, .inr hb⟩])
            clear h1 hn1 h2 h3 hx hx2 hsl hsb hcx hg hb
            go_upto_region 16 with fail
            refine wp_region_held_drew (S := fun W => W.cell? ⟨w.heap.size + 1, 2, none⟩ = some (.string x)) (by kernel_rfl) (HSX.out _ (Keep.refl _ _).drew) (fun hHeld => ?_)
            refine wpAnyH_take (i := 0) (oi := _) (v := ?_) rfl (by kernel_rfl) (by kernel_rfl) (by kernel_rfl) (fun _ _ _ h => h) (Or.inl ⟨by rfl, ?_⟩) (by assumption) ?_
            rotate_left
            · (intro w hSw; (try dsimp only at hSw); go_simp) <;> with_reducible rfl
            (try simp only [List.getElem_toArray, List.getElem_cons_zero, List.getElem_cons_succ, Act.put, List.setIfInBounds_toArray, List.set_cons_zero, List.set_cons_succ])
            refine wpAnyH_take (i := 1) (oi := _) (v := ?_) rfl (by kernel_rfl) (by kernel_rfl) (by kernel_rfl) (fun _ _ _ h => h) (Or.inl ⟨by rfl, ?_⟩) (by assumption) ?_
            rotate_left
            · (intro w hSw; (try dsimp only at hSw); go_simp) <;> with_reducible rfl
            (try simp only [List.getElem_toArray, List.getElem_cons_zero, List.getElem_cons_succ, Act.put, List.setIfInBounds_toArray, List.set_cons_zero, List.set_cons_succ])
            refine wpAnyH_take (i := 2) (oi := _) (v := ?_) rfl (by kernel_rfl) (by kernel_rfl) (by kernel_rfl) (fun _ _ _ h => h) (Or.inl ⟨by rfl, ?_⟩) (by assumption) ?_
            rotate_left
            · (intro w hSw; (try dsimp only at hSw); go_simp) <;> with_reducible rfl
            (try simp only [List.getElem_toArray, List.getElem_cons_zero, List.getElem_cons_succ, Act.put, List.setIfInBounds_toArray, List.set_cons_zero, List.set_cons_succ])
            refine wpAnyH_take (i := 3) (oi := _) (v := ?_) rfl (by kernel_rfl) (by kernel_rfl) (by kernel_rfl) (fun _ _ _ h => h) (Or.inl ⟨by rfl, ?_⟩) (by assumption) ?_
            rotate_left
            · (intro w hSw; (try dsimp only at hSw); go_simp) <;> with_reducible rfl
            (try simp only [List.getElem_toArray, List.getElem_cons_zero, List.getElem_cons_succ, Act.put, List.setIfInBounds_toArray, List.set_cons_zero, List.set_cons_succ])
            refine wpAnyH_take (i := 4) (oi := _) (v := ?_) rfl (by kernel_rfl) (by kernel_rfl) (by kernel_rfl) (fun _ _ _ h => h) (Or.inl ⟨by rfl, ?_⟩) (by assumption) ?_
            rotate_left
            · (intro w hSw; (try dsimp only at hSw); go_simp) <;> with_reducible rfl
            (try simp only [List.getElem_toArray, List.getElem_cons_zero, List.getElem_cons_succ, Act.put, List.setIfInBounds_toArray, List.set_cons_zero, List.set_cons_succ])
            refine wpAnyH_take (i := 5) (oi := _) (v := ?_) rfl (by kernel_rfl) (by kernel_rfl) (by kernel_rfl) (fun _ _ _ h => h) (Or.inl ⟨by rfl, ?_⟩) (by assumption) ?_
            rotate_left
            · (intro w hSw; (try dsimp only at hSw); go_simp) <;> with_reducible rfl
            (try simp only [List.getElem_toArray, List.getElem_cons_zero, List.getElem_cons_succ, Act.put, List.setIfInBounds_toArray, List.set_cons_zero, List.set_cons_succ])
            refine wpAnyH_ready (rs := [6]) (by kernel_rfl) (by simp) ?_; refine AllReadyH.cons (o := _) rfl (fun K hK => ?_) AllReadyH.nil
            go_simp
            refine hK.out _ _ ?_ (fun hHeld => ?_)
            · (refine HSX.out _ ?_; repeat (first | exact Keep.refl _ _ | apply Keep.drew | apply Keep.alloc | refine Keep.setCell ?_ _ _ (fun _ => rfl)))
            clear hK K
            (try simp only [List.getElem_toArray, List.getElem_cons_zero, List.getElem_cons_succ, Act.put, List.setIfInBounds_toArray, List.set_cons_zero, List.set_cons_succ])
            refine wpAnyH_take (i := 7) (oi := _) (v := ?_) rfl (by kernel_rfl) (by kernel_rfl) (by kernel_rfl) (fun _ _ _ h => h) (Or.inl ⟨by rfl, ?_⟩) (by assumption) ?_
            rotate_left
            · (intro w hSw; (try dsimp only at hSw); go_simp) <;> with_reducible rfl
            (try simp only [List.getElem_toArray, List.getElem_cons_zero, List.getElem_cons_succ, Act.put, List.setIfInBounds_toArray, List.set_cons_zero, List.set_cons_succ])
            refine wpAnyH_done (by kernel_rfl) ?_ _
            go_wp2_with fail
            go_meet
            have hkn := (Keep.refl (fun _ => False) w2).drew
            have hne0 : ¬ cb = w.heap.size := by have := HCB.out; omega
            exact rcut_mk HPN.out HWL.out ((HRD2.out.keep hkn (fun _ _ h => h)).keep ((Keep.refl (fun k => k = cb) _).setCell _ _ (fun _ => rfl)) (fun b hb h => by have h1 := HOW.out b hb; have h2 := HCB.out; have h3 : b = cb := h; omega)) HOW.out
              ((HB2.out.keep hkn (fun h => h)).set 1 (.string x)) ((HB0.out.keep hkn (fun h => h)).setOther ⟨cb, 1, none⟩ _ (fun h => hne0 h.symm)) ((HK2.out.trans hkn (fun _ _ h => h)).setCell _ _ (fun h => by have := HCB.out; have h2 : cb < w.heap.size := h; omega))
          · have hq1 : (x.toList == [98, 97, 100]) = false := beq_eq_false_iff_ne.2 (fun h => hb ((toList_bs _ _).1 h))
            have hq2 : (x.toList != [98, 97, 100]) = true := by rw [bne, hq1]; rfl
            have hq3 : (x.toList = [98, 97, 100]) = False := eq_false (fun h => hb ((toList_bs _ _).1 h))
            have HPN : Hid (refParts ws = none) := Lib.hid (by rw [HRP.out, if_neg hn1, if_pos h2, hx2, if_neg (fun h => h.2.elim hg hb)])
            clear h1 hn1 h2 h3 hx hx2 hsl hsb hcx hg hb
            go_wp2_with fail
            (try simp only [Exit.inBlock, Exit.then])
            refine read_back HB0.out rfl rfl rfl rfl (fun wf hkf => ?_)
            exact read_no (HRN.out HPN.out) (HK2.out.trans hkf (fun k hk e => by omega))
      · have hne : ((L : Int) != 3) = true := by simp; omega
        have HPN : Hid (refParts ws = none) := Lib.hid (by rw [HRP.out, if_neg hn1, if_pos h2, if_neg (fun h => h3 h.1)])
        clear h1 hn1 h2 h3 hsl
        go_wp2_with fail
        (try simp only [Exit.inBlock, Exit.then])
        refine read_back HB0.out rfl rfl rfl rfl (fun wf hkf => ?_)
        exact read_no (HRN.out HPN.out) (HK2.out.trans hkf (fun k hk e => by omega))
    have c2 := lit_ne _ _ h2
    have HRD2 : Hid (Rd w2 1 (.slice sa (L - 1) (L - 1)) (L - 1) (strCells (ws.drop 1))) := Lib.hid (by rw [← HSA.out, ← strCells_drop]; exact HRD.out.dropN 1 (by omega))
    have HOW : Hid (∀ b, (Value.slice sa (L - 1) (L - 1)).ownBlock = some b → b = w.heap.size + 1) := Lib.hid fun b hb => by rw [← HSA.out] at hb; exact own_drop hb
    by_cases h3 : hd.data.toList = [98, 108, 101, 110, 100]
    · have c3 := lit_eq _ _ h3
      have HPN : Hid (refParts ws = some (bs [], ws.drop 1, 3)) := Lib.hid (by rw [HRP.out, if_neg h1, if_neg h2, if_pos h3])
      clear h1 h2 h3 hn1 hsl
      go_wp2_with fail
      go_meet
      exact rcut_mk HPN.out (by rw [List.length_drop, HLL.out]) HRD2.out HOW.out HB2.out HB0.out HK2.out
    have c3 := lit_ne _ _ h3
    by_cases h4 : hd.data.toList = [112, 117, 116]
    · have c4 := lit_eq _ _ h4
      have HPN : Hid (refParts ws = some (bs [], ws.drop 1, 2)) := Lib.hid (by rw [HRP.out, if_neg h1, if_neg h2, if_neg h3, if_pos h4])
      clear h1 h2 h3 h4 hn1 hsl
      go_wp2_with fail
      go_meet
      exact rcut_mk HPN.out (by rw [List.length_drop, HLL.out]) HRD2.out HOW.out HB2.out HB0.out HK2.out
    have c4 := lit_ne _ _ h4
    by_cases h5 : hd.data.toList = [116, 111, 117, 99, 104]
    · have c5 := lit_eq _ _ h5
      have HPN : Hid (refParts ws = some (bs [], ws.drop 1, 2)) := Lib.hid (by rw [HRP.out, if_neg h1, if_neg h2, if_neg h3, if_neg h4, if_pos h5])
      clear h1 h2 h3 h4 h5 hn1 hsl
      go_wp2_with fail
      go_meet
      exact rcut_mk HPN.out (by rw [List.length_drop, HLL.out]) HRD2.out HOW.out HB2.out HB0.out HK2.out
    have c5 := lit_ne _ _ h5
    by_cases h6 : hd.data.toList = [99, 108, 111, 115, 101]
    · have c6 := lit_eq _ _ h6
      have HPN : Hid (refParts ws = some (bs [], ws.drop 1, 1)) := Lib.hid (by rw [HRP.out, if_neg h1, if_neg h2, if_neg h3, if_neg h4, if_neg h5, if_pos h6])
      clear h1 h2 h3 h4 h5 h6 hn1 hsl
      go_wp2_with fail
      go_meet
      exact rcut_mk HPN.out (by rw [List.length_drop, HLL.out]) HRD2.out HOW.out HB2.out HB0.out HK2.out
    have c6 := lit_ne _ _ h6
    have HPN : Hid (refParts ws = none) := Lib.hid (by rw [HRP.out, if_neg h1, if_neg h2, if_neg h3, if_neg h4, if_neg h5, if_neg h6])
    clear h1 h2 h3 h4 h5 h6 hn1 hsl
    go_wp2_with fail
    (try simp only [Exit.inBlock, Exit.then])
    refine read_back HB0.out rfl rfl rfl rfl (fun wf hkf => ?_)
    exact read_no (HRN.out HPN.out) (HK2.out.trans hkf (fun k hk e => by omega))
  case rest =>
    obtain ⟨nm, nums, cnt, ao, cap, hp, rfl, rfl, hrd, ho, hb, hb0, hk⟩ := hcut
    have hsm := refParts_small hp
    rw [hp] at HR
    have HP := Lib.hid hp; have HRDX := Lib.hid hrd; have HOX := Lib.hid ho; have HB := Lib.hid hb; have HB0X := Lib.hid hb0; have HK := Lib.hid hk
    have hnl : nums.length ≤ 4097 := by have h1 := hsm.2.1; have h2 := HLL.out; omega
    have HNW := Lib.hid (fun x (hx : x ∈ nums) => HWZ.out x (hsm.2.2 x hx))
    have hc3 := hsm.1
    have H133X := Lib.hid (H133.out _ hk)
    clear hp hrd ho hb hb0 hk hsm hsl
    have hlz := HCB.out
    have HCB2 := Lib.hid hlz; clear hlz
    cases hl : isLineB s with
    | false =>
      rw [hl] at H133X
      have HRN : Hid (readR s = none) := Lib.hid (by rw [HR.out]; simp [hl])
      clear hl
      go_wp2_with (go_at_call 133; refine H133X.out.mono ?_; rintro e w3 ⟨rfl, hk3⟩; obtain ⟨b0, b1, b2, a0, a1, a2, f1, f2, g0, g1, g2⟩ := box_cells (HB.out.keep hk3 (fun h => h)) (HB0X.out.keep hk3 (fun h => h)); have HK3 := Lib.hid hk3; clear hk3)
      (try simp only [Exit.inBlock, Exit.then])
      refine read_back (HB0X.out.keep HK3.out (fun h => h)) rfl rfl rfl rfl (fun wf hkf => ?_)
      exact read_no HRN.out ((HK.out.trans HK3.out (fun _ _ h => h)).trans hkf (fun k hk e => by omega))
    | true =>
      rw [hl] at H133X
      by_cases hn : nums.length = cnt
      · subst hn
        have HRX : Hid (readR s = if nums.all numOk = true then some (hd, nm, nums.map atoiN) else none) := Lib.hid (by rw [HR.out]; simp [hl])
        have hnn : ((nums.length : Int) != (nums.length : Int)) = false := by simp
        clear hl
        go_upto_block 1 with (go_at_call 133; refine H133X.out.mono ?_; rintro e w3 ⟨rfl, hk3⟩; have HK3 := Lib.hid hk3; clear hk3)
        clear hnn
        have HNIL := Lib.hid (World.ownsRow_nil w3 w3.heap.size 3 1)
        have HB3 := Lib.hid (HB.out.keep HK3.out (fun h => h))
        have hz3 := HK3.out.size
        have hz0 := HK.out.size
        have hblt := HB0X.out.lt
        have hclt := HB.out.lt
        have HZ := Lib.hid (show w.heap.size < w3.heap.size ∧ cb < w3.heap.size ∧ w.heap.size ≤ w3.heap.size from ⟨by omega, by omega, by omega⟩)
        clear hz3 hz0 hblt hclt
        go_wp2_with fail
        go_loopg [85] nums.length (fun gh s85 W => ∃ k : Nat, gh = nums.length - k ∧ k ≤ nums.length ∧ s85 = .int .i64 (k : Nat) ∧ (nums.take k).all numOk = true ∧ RLp w3 cb hd nm ((nums.take k).map atoiN) W)
        case atStart => exact ⟨0, rfl, Nat.zero_le _, rfl, rfl, .slice none 0 0, HNIL.out, HB3.out, Keep.refl _ _⟩
        case round =>
          obtain ⟨k, rfl, hk, rfl, hall, vn, hown, hbc, hkr⟩ := hrel
          have hlen : ((nums.take k).map atoiN).length = k := by rw [List.length_map, List.length_take]; omega
          rw [hlen] at hown
          have HALL := Lib.hid hall; have HOWN := Lib.hid hown; have HBC := Lib.hid hbc; have HKR := Lib.hid hkr; have HLEN := Lib.hid hlen
          have hkw : Keep (fun _ => False) w wr := ((HK.out.trans HK3.out (fun _ _ h => h)).mono (fun _ _ h => h.elim)).trans hkr (fun b h1 h2 => by have := HCB.out; omega)
          have HKW := Lib.hid hkw
          have hne0 : ¬ w.heap.size = cb := by have := HCB.out; omega
          have HB0R := Lib.hid ((HB0X.out.keep HK3.out (fun h => h)).keep hkr hne0)
          obtain ⟨vo, vc, hve, _⟩ := ownsRow_shape hown
          subst hve
          by_cases hlt : k < nums.length
          · have hjl : ((k : Int) < (nums.length : Int)) = True := by simp; omega
            have hrd := (HRDX.out.keep HK3.out (fun _ _ h => h)).keep hkr (fun b hb h => by have h1 := HOX.out b hb; have h2 := HCB.out; omega)
            obtain ⟨b, o, hao, hcell⟩ : ∃ b o, ao = some ⟨b, o, none⟩ ∧ wr.cell? ⟨b, o + k, none⟩ = some (.string (nums.getD k ByteArray.empty)) := by
              rcases hrd.2.2 with ⟨h, h'⟩ | ⟨b, o, c, h, _, _, hx⟩
              · omega
              · injection h with h1 h2 h3
                exact ⟨b, o, h1, hx _ _ (strCells_get nums k hlt)⟩
            subst hao
            have hxm : nums.getD k ByteArray.empty ∈ nums := by simp [List.getD, List.getElem?_eq_getElem hlt]
            have hxe : nums.take (k + 1) = nums.take k ++ [nums.getD k ByteArray.empty] := by rw [List.take_add_one, List.getElem?_eq_getElem hlt]; simp [List.getD, List.getElem?_eq_getElem hlt]
            have hxs := HNW.out _ hxm
            have HXA : Hid (nums.all numOk = true → numOk (nums.getD k ByteArray.empty) = true) := Lib.hid fun h => List.all_eq_true.1 h _ hxm
            obtain ⟨x, hx⟩ : ∃ x, nums.getD k ByteArray.empty = x := ⟨_, rfl⟩
            rw [hx] at hcell hxe hxs HXA
            have HXE := Lib.hid hxe
            have H134 := Lib.hid (decimal_any (HG.out.keep hkw) (s := x) (by omega))
            unfold DecPost at H134
            cases hok : decOk x.data.toList with
            | false =>
              rw [hok] at H134
              have HRN : Hid (readR s = none) := Lib.hid (by rw [HRX.out, if_neg (fun h => by have := HXA.out h; unfold numOk at this; rw [hok] at this; cases this)])
              clear hok hx hxe hxm hrd hall hown hbc hkr hkw hne0 hlen hxs
              go_wp2_with (go_at_call 134; refine H134.out.mono ?_; rintro e w5 ⟨rfl, hk5⟩; simp only [Bool.false_eq_true, if_false]; obtain ⟨b0, b1, b2, a0, a1, a2, f1, f2, g0, g1, g2⟩ := box_cells (HBC.out.keep hk5 (fun h => h)) (HB0R.out.keep hk5 (fun h => h)); have HK5 := Lib.hid hk5; clear hk5)
              (try simp only [Exit.inBlock, Exit.then])
              refine read_back (HB0R.out.keep HK5.out (fun h => h)) rfl rfl rfl rfl (fun wf hkf => ?_)
              exact read_no HRN.out ((HKW.out.trans HK5.out (fun _ _ h => h)).trans hkf (fun k hk e => by omega))
            | true =>
              rw [hok] at H134
              have HOK := Lib.hid hok; clear hok hx hxe hxm hrd hall hown hbc hkr hkw hne0 hlen hxs
              go_wp2_with (first
                | (go_at_call 134; refine H134.out.mono ?_; rintro e w5 ⟨rfl, hk5⟩; simp only [if_true]; obtain ⟨b0, b1, b2, a0, a1, a2, f1, f2, g0, g1, g2⟩ := box_cells (HBC.out.keep hk5 (fun h => h)) (HB0R.out.keep hk5 (fun h => h)); have HK5 := Lib.hid hk5; clear hk5)
                | (at_builtin; refine wpList_app (w := w5.alloc (.cells #[.int .i64 (atoiN x)] 3)) rfl (.tmp 98) (.tmp 100) 34 34 rfl 3 (.int .i64 0) 1 8 Tryz.underlying34 info3' rfl ((ownsRow_keep HOWN.out HK5.out (fun _ _ h => h)).alloc _) rfl (Src.new (P := Tryz.prog) Tryz.underlying34 w5 1 [.int .i64 (atoiN x)] 3 rfl (by simp [Value.oneCell'])) rfl ?hb1 ?hb2 ?hb3 ?hgo))
              case hb1 => first | omega | (simp; omega) | (unfold maxLen; omega) | (unfold maxLen; simp; omega)
              case hb2 => first | omega | (simp; omega) | (unfold maxLen; omega) | (unfold maxLen; simp; omega)
              case hb3 => have z2 := HK5.out.size; have z4 := HKR.out.size; simp; omega
              case hgo =>
              intro v' w7 happ
              obtain ⟨ao7, cap7, rfl, _⟩ := ownsRow_shape happ.own
              have hb7 := ((HBC.out.keep HK5.out (fun h => h)).alloc (.cells #[.int .i64 (atoiN x)] 3)).keep happ.keep (fun e => by have h1 := (ownsRow_lt HOWN.out _ e).1; have h2 := HZ.out; omega)
              have h07 := ((HB0R.out.keep HK5.out (fun h => h)).alloc (.cells #[.int .i64 (atoiN x)] 3)).keep happ.keep (fun e => by have h1 := (ownsRow_lt HOWN.out _ e).1; have h2 := HZ.out; omega)
              have hne7 : ∀ b, (Value.slice ao7 (k + 1) cap7).ownBlock = some b → b ≠ cb := fun b hb e => by
                rcases happ.fresh with h1 | ⟨g, h1, h2⟩
                · have h3 := (ownsRow_lt HOWN.out b (h1 ▸ hb)).1; have h4 := HZ.out; omega
                · have h5 : g = b := Option.some.inj (h1.symm.trans hb)
                  have z1 := HBC.out.lt; have z2 := HK5.out.size; rw [World.size_alloc] at h2
                  omega
              have hkf : Keep (fun b => b = cb) w3 w7 := ((HKR.out.trans HK5.out (fun _ _ h => h.elim)).alloc _).trans happ.keep (fun g hg e => by have h3 := ownsRow_lt HOWN.out g e; omega)
              obtain ⟨b0, b1, b2, a0, a1, a2, f1, f2, g0, g1, g2⟩ := box_cells hb7 h07
              have HB7 := Lib.hid hb7; have HNE7 := Lib.hid hne7; have HKF := Lib.hid hkf
              have HAP := Lib.hid happ.own
              clear hb7 h07 hne7 hkf happ
              go_wp2_with fail
              go_roundg (nums.length - (k + 1))
              case measure => omega
              case rel =>
                refine ⟨k + 1, rfl, by omega, by go_num, by rw [HXE.out, List.all_append, HALL.out]; simp [numOk, HOK.out], ?_⟩
                have hl2 : ((nums.take (k + 1)).map atoiN) = (nums.take k).map atoiN ++ [atoiN x] := by rw [HXE.out, List.map_append]; rfl
                rw [hl2]
                refine ⟨_, ?_, HB7.out.set 2 _, HKF.out.setCell _ _ (fun _ => rfl)⟩
                have h3 : ((nums.take k).map atoiN ++ [atoiN x]).length = k + 1 := by rw [List.length_append, HLEN.out]; rfl
                rw [h3]
                have h4 : icells ((nums.take k).map atoiN ++ [atoiN x]) = icells ((nums.take k).map atoiN) ++ [.int .i64 (atoiN x)] := by simp [icells]
                rw [h4]
                have hap := HAP.out
                (try rw [← List.map_take] at hap)
                exact ownsRow_setCell hap ⟨cb, 2, none⟩ _ (fun e => HNE7.out cb e rfl)
          · have hke : k = nums.length := by omega
            subst hke
            have hjl : ((nums.length : Int) < (nums.length : Int)) = False := by simp
            have HRY : Hid (readR s = some (hd, nm, nums.map atoiN)) := Lib.hid (by rw [HRX.out, if_pos (by rw [← HALL.out, List.take_length])])
            obtain ⟨b0, b1, b2, a0, a1, a2, f1, f2, g0, g1, g2⟩ := box_cells HBC.out HB0R.out
            clear hall hown hbc hkr hkw hne0 hlen
            go_wp2_with fail
            (try simp only [Exit.inBlock, Exit.then])
            refine read_back HB0R.out rfl rfl rfl rfl (fun wf hkf => ?_)
            refine ⟨HKW.out.trans hkf (fun k hk e => by omega), fun h => (by rw [HRY.out] at h; cases h), fun wd nm' ns h => ?_⟩
            rw [HRY.out] at h
            cases h
            rw [List.take_length] at HOWN
            refine ⟨_, rfl, ?_⟩
            rw [List.length_map]
            exact (ownsRow_rd HOWN.out (icells_one _)).keep hkf (fun b hb e => by have h1 := (ownsRow_lt HOWN.out b hb).1; have h2 := HZ.out; omega)
      · have hnn : ((nums.length : Int) != (cnt : Int)) = true := by simp; omega
        have HRN : Hid (readR s = none) := Lib.hid (by rw [HR.out]; simp only; rw [if_neg (fun h => hn h.2.1)])
        clear hl hn
        go_wp2_with (go_at_call 133; refine H133X.out.mono ?_; rintro e w3 ⟨rfl, hk3⟩; obtain ⟨b0, b1, b2, a0, a1, a2, f1, f2, g0, g1, g2⟩ := box_cells (HB.out.keep hk3 (fun h => h)) (HB0X.out.keep hk3 (fun h => h)); have HK3 := Lib.hid hk3; clear hk3)
        (try simp only [Exit.inBlock, Exit.then])
        refine read_back (HB0X.out.keep HK3.out (fun h => h)) rfl rfl rfl rfl (fun wf hkf => ?_)
        exact read_no HRN.out ((HK.out.trans HK3.out (fun _ _ h => h)).trans hkf (fun k hk e => by omega))
end Go.Proofs.YthdkamnclbfehaaGreatDoor
/- cubebref09.Do: its state, its results, the copy that it makes. -/
namespace Go.Proofs.YthdkamnclbfehaaGreatDoor
set_option linter.unusedSimpArgs false
set_option linter.unusedVariables false
set_option linter.unnecessarySimpa false
open Go.RowKit
def rtestCell (p : Int × Int) : List Value := [.int .i64 p.1, .bool (p.2 == 1)]
def rtestCells (l : List (Int × Int)) : List Value := l.flatMap rtestCell
theorem rtestCells_one (l : List (Int × Int)) : ∀ u ∈ rtestCells l, u.oneCell' = true := by
  intro u hu
  obtain ⟨p, _, hp⟩ := List.mem_flatMap.1 hu
  simp [rtestCell] at hp
  rcases hp with rfl | rfl <;> rfl
structure RSt (w : World) (vl vc vt vn : Value) (S : St) : Prop where
  l : Rd w 4 vl S.lots.length (lotCells S.lots)
  c : Rd w 2 vc S.contacts.length (pairCells S.contacts)
  t : Rd w 2 vt S.tests.length (rtestCells S.tests)
  n : Rd w 1 vn S.notes.length (strCells S.notes)
theorem RSt.keep {w w' : World} {vl vc vt vn : Value} {S : St} (h : RSt w vl vc vt vn S) (k : Keep (fun _ => False) w w') : RSt w' vl vc vt vn S :=
  ⟨h.l.keep k (fun _ _ h => h), h.c.keep k (fun _ _ h => h), h.t.keep k (fun _ _ h => h), h.n.keep k (fun _ _ h => h)⟩
structure RO (base : Nat) (w : World) (nb : Nat) (vl vc vt vn : Value) (S : St) : Prop where
  ge : base ≤ nb
  blk : Blk w nb #[vl, vc, vt, vn] 74
  l : w.ownsRow base 174 4 vl S.lots.length (lotCells S.lots)
  c : w.ownsRow base 176 2 vc S.contacts.length (pairCells S.contacts)
  t : w.ownsRow base 178 2 vt S.tests.length (rtestCells S.tests)
  n : w.ownsRow base 9 1 vn S.notes.length (strCells S.notes)
theorem RO.keep {base : Nat} {w w' : World} {nb : Nat} {vl vc vt vn : Value} {S : St} (h : RO base w nb vl vc vt vn S) {T : Nat → Prop} (k : Keep T w w') (hT : ∀ b, T b → b < base) : RO base w' nb vl vc vt vn S :=
  ⟨h.ge, h.blk.keep k (fun e => by have := hT _ e; have := h.ge; omega), ownsRow_keep h.l k (fun b e f => by have h1 := (ownsRow_lt h.l b e).1; have h2 := hT b f; omega), ownsRow_keep h.c k (fun b e f => by have h1 := (ownsRow_lt h.c b e).1; have h2 := hT b f; omega),
    ownsRow_keep h.t k (fun b e f => by have h1 := (ownsRow_lt h.t b e).1; have h2 := hT b f; omega), ownsRow_keep h.n k (fun b e f => by have h1 := (ownsRow_lt h.n b e).1; have h2 := hT b f; omega)⟩
theorem RO.st {base : Nat} {w : World} {nb : Nat} {vl vc vt vn : Value} {S : St} (h : RO base w nb vl vc vt vn S) : RSt w vl vc vt vn S :=
  ⟨ownsRow_rd h.l (lotCells_one _), ownsRow_rd h.c (pairCells_one _), ownsRow_rd h.t (rtestCells_one _), ownsRow_rd h.n (strCells_one _)⟩
def RDoPost (w : World) (r : Res) (e : Ending) (w' : World) : Prop :=
  ∃ ul uc ut un, e = .returned (.tuple #[.agg #[ul, uc, ut, un], .string r.out, .int .i64 r.err]) ∧ RSt w' ul uc ut un r.st ∧ Keep (fun _ => False) w w' ∧ (r.err = 0 → ∃ nb, RO w.heap.size w' nb ul uc ut un r.st)
theorem rdo_results (tmps : Array Value) (w : World) {b1 : Nat} {v0 v1 v2 v3 told er : Value} (h2 : tmps[6]?.getD undef = .pointer (some ⟨b1, 0, none⟩)) (h3 : tmps[7]?.getD undef = told) (h4 : tmps[8]?.getD undef = er)
    (c0 : w.cell? ⟨b1, 0, none⟩ = some v0) (c1 : w.cell? ⟨b1, 1, none⟩ = some v1) (c2 : w.cell? ⟨b1, 2, none⟩ = some v2) (c3 : w.cell? ⟨b1, 3, none⟩ = some v3) :
    (results Tryz.f67 tmps).run Tryz.prog w = .ok (.tuple #[.agg #[v0, v1, v2, v3], told, er]) w := by
  have hr : Tryz.f67.results = #[.cell 6 74, .tmp 7, .tmp 8] := by kernel_rfl
  unfold results
  rw [hr]
  simp [h2, h3, h4, go_sem, c0, c1, c2, c3]
  try simp [go_sem, c0, c1, c2, c3, Result.andThen]
theorem rdo_back {R : Ending → World → Prop} {a : Act} {w1 : World} {b1 : Nat} {c1 : Array Value} {v0 v1 v2 v3 told er : Value} (B1 : Blk w1 b1 c1 74) (s1 : c1.size = 4)
    (h2 : a.tmps[6]?.getD undef = .pointer (some ⟨b1, 0, none⟩)) (h3 : a.tmps[7]?.getD undef = told) (h4 : a.tmps[8]?.getD undef = er) (hd : a.defers = [])
    (hR : ∀ wf, Keep (fun k => k = b1) w1 wf → R (.returned (.tuple #[.agg #[v0, v1, v2, v3], told, er])) wf) :
    bodyPost Tryz.prog Tryz.f67 R .ret a ((((w1.setCell ⟨b1, 0, none⟩ v0).setCell ⟨b1, 1, none⟩ v1).setCell ⟨b1, 2, none⟩ v2).setCell ⟨b1, 3, none⟩ v3) := by
  have D1 := (((B1.set 0 v0).set 1 v1).set 2 v2).set 3 v3
  refine bodyPost_ret (rdo_results _ _ h2 h3 h4 ((D1.cell 0).trans ?_) ((D1.cell 1).trans ?_) ((D1.cell 2).trans ?_) ((D1.cell 3).trans ?_)) hd (hR _ ?_)
  · simp [s1]
  · simp [s1]
  · simp [s1]
  · simp [s1]
  · exact ((((Keep.refl (fun k => k = b1) w1).setCell _ _ (fun _ => rfl)).setCell _ _ (fun _ => rfl)).setCell _ _ (fun _ => rfl)).setCell _ _ (fun _ => rfl)
theorem rdo_cells {W : World} {tb rb : Nat} {vl vc vt vn : Value} (hb : Blk W tb #[vl, vc, vt, vn] 74) (h0 : Blk W rb #[.slice none 0 0, .slice none 0 0, .slice none 0 0, .slice none 0 0] 74) :
    W.cell? ⟨tb, 0, none⟩ = some vl ∧ W.cell? ⟨tb, 1, none⟩ = some vc ∧ W.cell? ⟨tb, 2, none⟩ = some vt ∧ W.cell? ⟨tb, 3, none⟩ = some vn ∧ W.cell? ⟨rb, 0, none⟩ = some (.slice none 0 0) ∧ W.cell? ⟨rb, 1, none⟩ = some (.slice none 0 0) ∧ W.cell? ⟨rb, 2, none⟩ = some (.slice none 0 0) ∧ W.cell? ⟨rb, 3, none⟩ = some (.slice none 0 0) ∧
    W.frozen? ⟨rb, 0, none⟩ = false ∧ W.frozen? ⟨rb, 1, none⟩ = false ∧ W.frozen? ⟨rb, 2, none⟩ = false ∧ W.frozen? ⟨rb, 3, none⟩ = false :=
  ⟨hb.cell 0, hb.cell 1, hb.cell 2, hb.cell 3, h0.cell 0, h0.cell 1, h0.cell 2, h0.cell 3, h0.free 0, h0.free 1, h0.free 2, h0.free 3⟩
theorem read_do {s wd nm : ByteArray} {ns : List Int} (h : readR s = some (wd, nm, ns)) : ∃ so f a, formF s = some (so, f, a) ∧ a.ok = true ∧ a.word = nm ∧ a.n = ns ∧ chF wd.data.toList = some (so, f) := by
  rw [read_same] at h
  unfold readF at h
  split at h
  · cases h
  · rename_i so f a hf
    split at h
    · rename_i hok
      simp only [Option.some.injEq, Prod.mk.injEq] at h
      obtain ⟨h1, h2, h3⟩ := h
      obtain ⟨w0, rest, hws, hc, _⟩ := form_words hf
      refine ⟨so, f, a, hf, hok, h2, h3, ?_⟩
      rw [← h1, hws]
      exact hc
    · cases h
theorem read_do_none {s : ByteArray} (F : Nat → St → FA → Res) (S : St) (h : readR s = none) : doF F S s = ⟨4, S, bs []⟩ := by
  rw [read_same] at h
  unfold readF at h
  unfold doF
  split at h
  · rename_i hf; rw [hf]
  · rename_i so f a hf
    rw [hf]
    split at h
    · cases h
    · rename_i hok; simp only; rw [if_neg hok]
theorem do_of {s : ByteArray} {S : St} {so : List UInt8} {f : Nat} {a : FA} (h : formF s = some (so, f, a)) (hok : a.ok = true) : doF runF S s = if (runF f S a).err = 0 then runF f S a else ⟨(runF f S a).err, S, bs []⟩ := by
  unfold doF; rw [h]; simp only; rw [if_pos hok]
theorem ch_word {l so : List UInt8} {f : Nat} (h : chF l = some (so, f)) : (f = 255 → l = [116, 97, 107, 101]) ∧ (f = 256 → l = [98, 108, 101, 110, 100]) ∧ (f = 257 → l = [112, 117, 116]) ∧ (f = 258 → l = [116, 111, 117, 99, 104]) ∧ (f = 259 → l = [116, 101, 115, 116]) ∧ (f = 260 → l = [99, 108, 111, 115, 101]) := by
  unfold chF at h
  repeat' split at h
  all_goals first | (cases h; done) | (rename_i e; simp only [Option.some.injEq, Prod.mk.injEq] at h; obtain ⟨_, rfl⟩ := h; refine ⟨?_, ?_, ?_, ?_, ?_, ?_⟩ <;> intro h2 <;> first | exact e | omega)
def Ch (w0 w : World) (e : TypeId) (size n : Nat) (xs : List Value) (b0 b1 : Bool) (v0 v1 : Value) : Prop :=
  (b0 = true → b1 = false → w.ownsRow w0.heap.size e size v0 0 []) ∧ (b1 = true → b0 = true ∧ w.ownsRow w0.heap.size e size v1 n xs)
theorem Ch.keep {w0 w w' : World} {e : TypeId} {size n : Nat} {xs : List Value} {b0 b1 : Bool} {v0 v1 : Value} (h : Ch w0 w e size n xs b0 b1 v0 v1) (k : Keep (fun _ => False) w w') : Ch w0 w' e size n xs b0 b1 v0 v1 :=
  ⟨fun h0 h1 => ownsRow_keep (h.1 h0 h1) k (fun _ _ h => h), fun h1 => ⟨(h.2 h1).1, ownsRow_keep (h.2 h1).2 k (fun _ _ h => h)⟩⟩
theorem Ch.app {w0 w w' : World} {e e2 : TypeId} {size n s2 n2 : Nat} {xs x2 : List Value} {b0 b1 : Bool} {v0 v1 u : Value} (h : Ch w0 w e size n xs b0 b1 v0 v1) (ho : w.ownsRow w0.heap.size e2 s2 u n2 x2) (k : Keep (fun b => u.ownBlock = some b) w w') (hne : e ≠ e2) : Ch w0 w' e size n xs b0 b1 v0 v1 :=
  ⟨fun h0 h1 => ownsRow_keep (h.1 h0 h1) k (fun b e => ownsRow_types (h.1 h0 h1) ho hne b e), fun h1 => ⟨(h.2 h1).1, ownsRow_keep (h.2 h1).2 k (fun b e => ownsRow_types (h.2 h1).2 ho hne b e)⟩⟩
theorem owns_empty (w : World) (base : Nat) (e : TypeId) (size : Nat) (hb : base ≤ w.heap.size) : (w.alloc (.cells #[] e)).ownsRow base e size (.slice (some ⟨w.heap.size, 0, none⟩) 0 0) 0 [] :=
  ⟨by simp, .inr ⟨w.heap.size, 0, #[], rfl, hb, heap_alloc_new w _, Nat.le_refl _, by unfold maxLen; omega, by simp, by simp⟩⟩
theorem acyc {ops : Array Oper} (h : ((List.range ops.size).all fun i => match ops[i]? with | some o => o.after.all (fun e => decide (e.on < i)) | none => true) = true) : ∀ (i : Nat) (o : Oper), ops[i]? = some o → ∀ e ∈ o.after, e.on < i := fun i o ho e he => by
  have hi : i < ops.size := (Array.getElem?_eq_some_iff.1 ho).1
  have h1 := List.all_eq_true.1 h i (List.mem_range.2 hi)
  rw [ho] at h1
  exact of_decide_eq_true (Array.all_eq_true_iff_forall_mem.1 h1 e he)
theorem no_of {b : Bool} {p : Prop} (h : b = false) : b = true → p := fun h2 => by rw [h] at h2; cases h2
theorem Ch.none {w0 w : World} {e : TypeId} {size n : Nat} {xs : List Value} {b0 b1 : Bool} {v0 v1 : Value} (h0 : b0 = false) (h1 : b1 = false) : Ch w0 w e size n xs b0 b1 v0 v1 := ⟨no_of h0, no_of h1⟩
theorem set_here {l : Array Bool} {i : Nat} (h : l.getD i true = false) : (l.setIfInBounds i true).getD i false = true := by
  have hi : i < l.size := by
    rcases Nat.lt_or_ge i l.size with h1 | h1
    · exact h1
    · simp [Array.getD_eq_getD_getElem?, Array.getElem?_eq_none h1] at h
  simp [hi]
theorem getD_false {l : Array Bool} {i : Nat} (h : l.getD i true = false) : l.getD i false = false := by
  have hi : i < l.size := by
    rcases Nat.lt_or_ge i l.size with h1 | h1
    · exact h1
    · simp [Array.getD_eq_getD_getElem?, Array.getElem?_eq_none h1] at h
  simp [Array.getD_eq_getD_getElem?, hi] at h ⊢
  exact h
theorem Ch.other {w0 w : World} {e : TypeId} {size n : Nat} {xs : List Value} {l : Array Bool} {i j k : Nat} {v0 v1 : Value} (h : Ch w0 w e size n xs (l.getD j false) (l.getD k false) v0 v1) (hj : i ≠ j) (hk : i ≠ k) :
    Ch w0 w e size n xs ((l.setIfInBounds i true).getD j false) ((l.setIfInBounds i true).getD k false) v0 v1 := by
  rw [getD_set_ne false hj, getD_set_ne false hk]; exact h
theorem Ch.first {w0 w : World} {e : TypeId} {size n : Nat} {xs : List Value} {l : Array Bool} {j k : Nat} {v0 v1 : Value} (h : Ch w0 w e size n xs (l.getD j false) (l.getD k false) v0 v1) (hk : j ≠ k) {v : Value} (hv : w.ownsRow w0.heap.size e size v 0 []) (hkf : l.getD k false = false) :
    Ch w0 w e size n xs ((l.setIfInBounds j true).getD j false) ((l.setIfInBounds j true).getD k false) v v1 := by
  rw [getD_set_ne false hk]; exact ⟨fun _ _ => hv, no_of hkf⟩
theorem Ch.second {w0 w : World} {e : TypeId} {size n : Nat} {xs : List Value} {l : Array Bool} {j k : Nat} {v0 v : Value} (h0 : l.getD k true = false) (hj : l.getD j false = true) (hv : w.ownsRow w0.heap.size e size v n xs) :
    Ch w0 w e size n xs ((l.setIfInBounds k true).getD j false) ((l.setIfInBounds k true).getD k false) v0 v := by
  rw [set_here h0]; exact ⟨(fun _ h => by cases h), fun _ => ⟨getD_set_true hj, hv⟩⟩
theorem info174 : (Tryz.prog.info? 174).map (fun i => (i.zero, i.size, i.bytes)) = some (some (.agg #[.string ⟨#[]⟩, .int .i64 0, .int .i64 0, .bool false]), 4, 40) := by kernel_rfl
theorem info178 : (Tryz.prog.info? 178).map (fun i => (i.zero, i.size, i.bytes)) = some (some (.agg #[.int .i64 0, .bool false]), 2, 16) := by kernel_rfl
end Go.Proofs.YthdkamnclbfehaaGreatDoor
/- The copy in cubebref09.Do: its slots, its operations, its end. -/
namespace Go.Proofs.YthdkamnclbfehaaGreatDoor
set_option linter.unusedSimpArgs false
set_option linter.unusedVariables false
set_option linter.unnecessarySimpa false
open Go.RowKit
section
variable {a : Act} {v30 v33 v34 v37 v38 v41 v42 v45 v46 v11 : Value} (h : a.tmps.size = 438)
include h in
include h in
include h in
include h in
include h in
include h in
include h in
include h in
include h in
include h in
end
theorem op_empty70 {n : Nat} {ty : TypeId} {pos : String} {af : Array Edge} {a : Act} {w : World} {K : Act → World → Prop} {Q : Exit → Act → World → Prop} (h : K (a.put (some n) (.slice (some ⟨w.heap.size, 0, none⟩) 0 0)) (w.alloc (.cells #[] 174))) : Oper.wp Tryz.prog { dst := some n, op := .buildSlice 70 0 #[], type := ty, pos := pos, after := af, guard := none } a w K Q := by
  go_simp
  exact h
theorem op_empty71 {n : Nat} {ty : TypeId} {pos : String} {af : Array Edge} {a : Act} {w : World} {K : Act → World → Prop} {Q : Exit → Act → World → Prop} (h : K (a.put (some n) (.slice (some ⟨w.heap.size, 0, none⟩) 0 0)) (w.alloc (.cells #[] 176))) : Oper.wp Tryz.prog { dst := some n, op := .buildSlice 71 0 #[], type := ty, pos := pos, after := af, guard := none } a w K Q := by
  go_simp
  exact h
theorem op_empty72 {n : Nat} {ty : TypeId} {pos : String} {af : Array Edge} {a : Act} {w : World} {K : Act → World → Prop} {Q : Exit → Act → World → Prop} (h : K (a.put (some n) (.slice (some ⟨w.heap.size, 0, none⟩) 0 0)) (w.alloc (.cells #[] 178))) : Oper.wp Tryz.prog { dst := some n, op := .buildSlice 72 0 #[], type := ty, pos := pos, after := af, guard := none } a w K Q := by
  go_simp
  exact h
theorem op_empty44 {n : Nat} {ty : TypeId} {pos : String} {af : Array Edge} {a : Act} {w : World} {K : Act → World → Prop} {Q : Exit → Act → World → Prop} (h : K (a.put (some n) (.slice (some ⟨w.heap.size, 0, none⟩) 0 0)) (w.alloc (.cells #[] 9))) : Oper.wp Tryz.prog { dst := some n, op := .buildSlice 44 0 #[], type := ty, pos := pos, after := af, guard := none } a w K Q := by
  go_simp
  exact h
theorem op_build {n : Nat} {ty : TypeId} {pos : String} {af : Array Edge} {a : Act} {w : World} {K : Act → World → Prop} {Q : Exit → Act → World → Prop} {a0 a1 a2 a3 : Option Addr} {n0 n1 n2 n3 p0 p1 p2 p3 : Nat}
  (h0 : a.tmps[33]?.getD undef = .slice a0 n0 p0) (h1 : a.tmps[37]?.getD undef = .slice a1 n1 p1) (h2 : a.tmps[41]?.getD undef = .slice a2 n2 p2) (h3 : a.tmps[45]?.getD undef = .slice a3 n3 p3)
  (h : K (a.put (some n) (.agg #[.slice a0 n0 p0, .slice a1 n1 p1, .slice a2 n2 p2, .slice a3 n3 p3])) w) : Oper.wp Tryz.prog { dst := some n, op := .build 74 #[(0, .tmp 33), (1, .tmp 37), (2, .tmp 41), (3, .tmp 45)], type := ty, pos := pos, after := af, guard := none } a w K Q := by
  go_simp
  exact h
theorem op_alloc {n : Nat} {ty : TypeId} {pos : String} {af : Array Edge} {a : Act} {w : World} {K : Act → World → Prop} {Q : Exit → Act → World → Prop} (h : K (a.put (some n) (.pointer (some ⟨w.heap.size, 0, none⟩))) (w.alloc (.cells #[.slice none 0 0, .slice none 0 0, .slice none 0 0, .slice none 0 0] 74))) : Oper.wp Tryz.prog { dst := some n, op := .alloc 74, type := ty, pos := pos, after := af, guard := none } a w K Q := by
  go_simp
  exact h
theorem op_store {ty : TypeId} {pos : String} {af : Array Edge} {a : Act} {w : World} {K : Act → World → Prop} {Q : Exit → Act → World → Prop} {nb : Nat} {a0 a1 a2 a3 : Option Addr} {n0 n1 n2 n3 p0 p1 p2 p3 : Nat} (h0 : a.tmps[11]?.getD undef = .pointer (some ⟨nb, 0, none⟩)) (h1 : a.tmps[46]?.getD undef = .agg #[.slice a0 n0 p0, .slice a1 n1 p1, .slice a2 n2 p2, .slice a3 n3 p3])
  (hb : Blk w nb #[.slice none 0 0, .slice none 0 0, .slice none 0 0, .slice none 0 0] 74)
  (h : K a ((((w.setCell ⟨nb, 0, none⟩ (.slice a0 n0 p0)).setCell ⟨nb, 1, none⟩ (.slice a1 n1 p1)).setCell ⟨nb, 2, none⟩ (.slice a2 n2 p2)).setCell ⟨nb, 3, none⟩ (.slice a3 n3 p3))) : Oper.wp Tryz.prog { dst := none, op := .store 74 (.tmp 11) (.tmp 46), type := ty, pos := pos, after := af, guard := none } a w K Q := by
  have z0 := hb.cell 0
  have z1 := hb.cell 1
  have z2 := hb.cell 2
  have z3 := hb.cell 3
  have y0 := hb.free 0
  have y1 := hb.free 1
  have y2 := hb.free 2
  have y3 := hb.free 3
  simp at z0 z1 z2 z3
  clear hb
  go_simp
  exact h
theorem evals {a : Act} {k : Nat} {v : Value} (h : a.tmps[k]?.getD undef = v) : a.eval (.tmp k) = v := by rw [← h]; simp [Act.eval]
theorem Ch.keep2 {w0 w w' : World} {e : TypeId} {size n nb : Nat} {xs : List Value} {b0 b1 : Bool} {v0 v1 : Value} (h : Ch w0 w e size n xs b0 b1 v0 v1) (k : Keep (fun k => k = nb) w w') (h1 : b1 = true) (hne : v1.ownBlock ≠ some nb) : Ch w0 w' e size n xs b0 b1 v0 v1 :=
  ⟨(fun _ h0 => by rw [h1] at h0; cases h0), fun h1 => ⟨(h.2 h1).1, ownsRow_keep (h.2 h1).2 k (fun b e e2 => hne (by rw [e, e2]))⟩⟩
end Go.Proofs.YthdkamnclbfehaaGreatDoor
/- cubebref09.Do: what it computes is what the commands compute. -/
namespace Go.Proofs.YthdkamnclbfehaaGreatDoor
set_option linter.unusedSimpArgs false
set_option linter.unusedVariables false
set_option linter.unnecessarySimpa false
open Go.RowKit
theorem run_err {f : Nat} {S : St} {a : FA} : (runF f S a).err ≠ 0 → ⟨(runF f S a).err, S, bs []⟩ = runF f S a := by
  unfold runF takeF blendF putF touchF testF shutF
  repeat' split
  all_goals first | (intro _; rfl) | (intro h; exact absurd rfl h)
theorem do_run {s : ByteArray} {S : St} {so : List UInt8} {f : Nat} {a : FA} (h : formF s = some (so, f, a)) (hok : a.ok = true) : doF runF S s = runF f S a := by
  rw [do_of h hok]
  split
  · rfl
  · rename_i he; exact run_err he
theorem read_cases {s wd nm : ByteArray} {ns : List Int} (S : St) (h : readR s = some (wd, nm, ns)) :
    (wd.data.toList = [116, 97, 107, 101] ∧ ∃ n, ns = [n] ∧ numB n ∧ doF runF S s = takeF S ⟨ns, nm, true⟩) ∨
    (wd.data.toList = [98, 108, 101, 110, 100] ∧ ∃ i j q, ns = [i, j, q] ∧ numB i ∧ numB j ∧ numB q ∧ doF runF S s = blendF S ⟨ns, nm, true⟩) ∨
    (wd.data.toList = [112, 117, 116] ∧ ∃ i b, ns = [i, b] ∧ numB i ∧ numB b ∧ doF runF S s = putF S ⟨ns, nm, true⟩) ∨
    (wd.data.toList = [116, 111, 117, 99, 104] ∧ ∃ i j, ns = [i, j] ∧ numB i ∧ numB j ∧ s = touchNote i j ∧ doF runF S s = touchF S ⟨ns, nm, true⟩) ∨
    (wd.data.toList = [116, 101, 115, 116] ∧ ∃ i, ns = [i] ∧ numB i ∧ (nm = goodB ∨ nm = badBs) ∧ s = testNote i nm ∧ doF runF S s = testF S ⟨ns, nm, true⟩) ∨
    (wd.data.toList = [99, 108, 111, 115, 101] ∧ ∃ i, ns = [i] ∧ numB i ∧ doF runF S s = shutF S ⟨ns, nm, true⟩) := by
  obtain ⟨so, f, a, hf, hok, rfl, rfl, hc⟩ := read_do h
  have hd := do_run (S := S) hf hok
  have hw := ch_word hc
  have ha : a = ⟨a.n, a.word, true⟩ := by cases a; simp only at hok; subst hok; rfl
  rw [← ha]
  cases said_of hf hok with
  | take e n w ea hn hw8 =>
    subst e
    exact .inl ⟨hw.1 rfl, n, by rw [ea], hn, hd⟩
  | blend e i j q ea hi hj hq =>
    subst e
    exact .inr (.inl ⟨hw.2.1 rfl, i, j, q, by rw [ea], hi, hj, hq, hd⟩)
  | put e i b ea hi hb =>
    subst e
    exact .inr (.inr (.inl ⟨hw.2.2.1 rfl, i, b, by rw [ea], hi, hb, hd⟩))
  | touch e i j ea hi hj =>
    subst e
    have hl := touch_line hf hok
    rw [ea] at hl
    exact .inr (.inr (.inr (.inl ⟨hw.2.2.2.1 rfl, i, j, by rw [ea], hi, hj, hl, hd⟩)))
  | test e i w ea hi hw2 =>
    subst e
    have hl := test_line hf hok
    rw [ea] at hl
    exact .inr (.inr (.inr (.inr (.inl ⟨hw.2.2.2.2.1 rfl, i, by rw [ea], hi, by rw [ea]; exact hw2, by rw [ea]; exact hl, hd⟩))))
  | close e i ea hi =>
    subst e
    exact .inr (.inr (.inr (.inr (.inr ⟨hw.2.2.2.2.2 rfl, i, by rw [ea], hi, hd⟩))))
end Go.Proofs.YthdkamnclbfehaaGreatDoor
/- The copy in cubebref09.Do, in whatever order. -/
namespace Go.Proofs.YthdkamnclbfehaaGreatDoor
set_option linter.unusedSimpArgs false
set_option linter.unusedVariables false
set_option linter.unnecessarySimpa false
open Go.RowKit
theorem op_fa0 {n k : Nat} {ty : TypeId} {pos : String} {af : Array Edge} {a : Act} {w : World} {K : Act → World → Prop} {Q : Exit → Act → World → Prop} {tb : Nat} (h4 : a.tmps[k]?.getD undef = .pointer (some ⟨tb, 0, none⟩)) (h : K (a.put (some n) (.pointer (some ⟨tb, 0, none⟩))) w) : Oper.wp Tryz.prog { dst := some n, op := .fieldAddr 74 (.tmp k) 0, type := ty, pos := pos, after := af, guard := none } a w K Q := by
  go_simp
  exact h
theorem op_fa1 {n k : Nat} {ty : TypeId} {pos : String} {af : Array Edge} {a : Act} {w : World} {K : Act → World → Prop} {Q : Exit → Act → World → Prop} {tb : Nat} (h4 : a.tmps[k]?.getD undef = .pointer (some ⟨tb, 0, none⟩)) (h : K (a.put (some n) (.pointer (some ⟨tb, 1, none⟩))) w) : Oper.wp Tryz.prog { dst := some n, op := .fieldAddr 74 (.tmp k) 1, type := ty, pos := pos, after := af, guard := none } a w K Q := by
  go_simp
  exact h
theorem op_fa2 {n k : Nat} {ty : TypeId} {pos : String} {af : Array Edge} {a : Act} {w : World} {K : Act → World → Prop} {Q : Exit → Act → World → Prop} {tb : Nat} (h4 : a.tmps[k]?.getD undef = .pointer (some ⟨tb, 0, none⟩)) (h : K (a.put (some n) (.pointer (some ⟨tb, 2, none⟩))) w) : Oper.wp Tryz.prog { dst := some n, op := .fieldAddr 74 (.tmp k) 2, type := ty, pos := pos, after := af, guard := none } a w K Q := by
  go_simp
  exact h
theorem op_fa3 {n k : Nat} {ty : TypeId} {pos : String} {af : Array Edge} {a : Act} {w : World} {K : Act → World → Prop} {Q : Exit → Act → World → Prop} {tb : Nat} (h4 : a.tmps[k]?.getD undef = .pointer (some ⟨tb, 0, none⟩)) (h : K (a.put (some n) (.pointer (some ⟨tb, 3, none⟩))) w) : Oper.wp Tryz.prog { dst := some n, op := .fieldAddr 74 (.tmp k) 3, type := ty, pos := pos, after := af, guard := none } a w K Q := by
  go_simp
  exact h
theorem op_ld70 {n k : Nat} {ty : TypeId} {pos : String} {af : Array Edge} {a : Act} {w : World} {K : Act → World → Prop} {Q : Exit → Act → World → Prop} {p : Addr} {o : Option Addr} {m c : Nat} (h4 : a.tmps[k]?.getD undef = .pointer (some p)) (hc : w.cell? p = some (.slice o m c)) (h : K (a.put (some n) (.slice o m c)) w) : Oper.wp Tryz.prog { dst := some n, op := .load 70 (.tmp k), type := ty, pos := pos, after := af, guard := none } a w K Q := by
  go_simp
  exact h
theorem op_ld71 {n k : Nat} {ty : TypeId} {pos : String} {af : Array Edge} {a : Act} {w : World} {K : Act → World → Prop} {Q : Exit → Act → World → Prop} {p : Addr} {o : Option Addr} {m c : Nat} (h4 : a.tmps[k]?.getD undef = .pointer (some p)) (hc : w.cell? p = some (.slice o m c)) (h : K (a.put (some n) (.slice o m c)) w) : Oper.wp Tryz.prog { dst := some n, op := .load 71 (.tmp k), type := ty, pos := pos, after := af, guard := none } a w K Q := by
  go_simp
  exact h
theorem op_ld72 {n k : Nat} {ty : TypeId} {pos : String} {af : Array Edge} {a : Act} {w : World} {K : Act → World → Prop} {Q : Exit → Act → World → Prop} {p : Addr} {o : Option Addr} {m c : Nat} (h4 : a.tmps[k]?.getD undef = .pointer (some p)) (hc : w.cell? p = some (.slice o m c)) (h : K (a.put (some n) (.slice o m c)) w) : Oper.wp Tryz.prog { dst := some n, op := .load 72 (.tmp k), type := ty, pos := pos, after := af, guard := none } a w K Q := by
  go_simp
  exact h
theorem op_ld44 {n k : Nat} {ty : TypeId} {pos : String} {af : Array Edge} {a : Act} {w : World} {K : Act → World → Prop} {Q : Exit → Act → World → Prop} {p : Addr} {o : Option Addr} {m c : Nat} (h4 : a.tmps[k]?.getD undef = .pointer (some p)) (hc : w.cell? p = some (.slice o m c)) (h : K (a.put (some n) (.slice o m c)) w) : Oper.wp Tryz.prog { dst := some n, op := .load 44 (.tmp k), type := ty, pos := pos, after := af, guard := none } a w K Q := by
  go_simp
  exact h
structure CopyOps (ops : Array Oper) : Prop where
  size : ops.size = 19
  acyc : ((List.range ops.size).all fun i => match ops[i]? with | some o => o.after.all (fun e => decide (e.on < i)) | none => true) = true
  o0 : ∃ ty ps, ops[0]? = some { dst := some 30, op := .buildSlice 70 0 #[], type := ty, pos := ps, after := #[], guard := none }
  o1 : ∃ ty ps, ops[1]? = some { dst := some 31, op := .fieldAddr 74 (.tmp 4) 0, type := ty, pos := ps, after := #[], guard := none }
  o2 : ∃ ty ps, ops[2]? = some { dst := some 32, op := .load 70 (.tmp 31), type := ty, pos := ps, after := #[⟨1, .data⟩], guard := none }
  o3 : ∃ ty ps, ops[3]? = some { dst := some 33, op := .call { callee := .builtin .append, args := #[.tmp 30, .tmp 32], argTypes := #[70, 70] }, type := ty, pos := ps, after := #[⟨0, .data⟩, ⟨2, .data⟩], guard := none }
  o4 : ∃ ty ps, ops[4]? = some { dst := some 34, op := .buildSlice 71 0 #[], type := ty, pos := ps, after := #[], guard := none }
  o5 : ∃ ty ps, ops[5]? = some { dst := some 35, op := .fieldAddr 74 (.tmp 4) 1, type := ty, pos := ps, after := #[], guard := none }
  o6 : ∃ ty ps, ops[6]? = some { dst := some 36, op := .load 71 (.tmp 35), type := ty, pos := ps, after := #[⟨5, .data⟩], guard := none }
  o7 : ∃ ty ps, ops[7]? = some { dst := some 37, op := .call { callee := .builtin .append, args := #[.tmp 34, .tmp 36], argTypes := #[71, 71] }, type := ty, pos := ps, after := #[⟨4, .data⟩, ⟨6, .data⟩, ⟨3, .chain⟩], guard := none }
  o8 : ∃ ty ps, ops[8]? = some { dst := some 38, op := .buildSlice 72 0 #[], type := ty, pos := ps, after := #[], guard := none }
  o9 : ∃ ty ps, ops[9]? = some { dst := some 39, op := .fieldAddr 74 (.tmp 4) 2, type := ty, pos := ps, after := #[], guard := none }
  o10 : ∃ ty ps, ops[10]? = some { dst := some 40, op := .load 72 (.tmp 39), type := ty, pos := ps, after := #[⟨9, .data⟩], guard := none }
  o11 : ∃ ty ps, ops[11]? = some { dst := some 41, op := .call { callee := .builtin .append, args := #[.tmp 38, .tmp 40], argTypes := #[72, 72] }, type := ty, pos := ps, after := #[⟨8, .data⟩, ⟨10, .data⟩, ⟨7, .chain⟩], guard := none }
  o12 : ∃ ty ps, ops[12]? = some { dst := some 42, op := .buildSlice 44 0 #[], type := ty, pos := ps, after := #[], guard := none }
  o13 : ∃ ty ps, ops[13]? = some { dst := some 43, op := .fieldAddr 74 (.tmp 4) 3, type := ty, pos := ps, after := #[], guard := none }
  o14 : ∃ ty ps, ops[14]? = some { dst := some 44, op := .load 44 (.tmp 43), type := ty, pos := ps, after := #[⟨13, .data⟩], guard := none }
  o15 : ∃ ty ps, ops[15]? = some { dst := some 45, op := .call { callee := .builtin .append, args := #[.tmp 42, .tmp 44], argTypes := #[44, 44] }, type := ty, pos := ps, after := #[⟨12, .data⟩, ⟨14, .data⟩, ⟨11, .chain⟩], guard := none }
  o16 : ∃ ty ps, ops[16]? = some { dst := some 46, op := .build 74 #[(0, .tmp 33), (1, .tmp 37), (2, .tmp 41), (3, .tmp 45)], type := ty, pos := ps, after := #[⟨3, .data⟩, ⟨7, .data⟩, ⟨11, .data⟩, ⟨15, .data⟩], guard := none }
  o17 : ∃ ty ps, ops[17]? = some { dst := some 11, op := .alloc 74, type := ty, pos := ps, after := #[], guard := none }
  o18 : ∃ ty ps af, ops[18]? = some { dst := none, op := .store 74 (.tmp 11) (.tmp 46), type := ty, pos := ps, after := af, guard := none } ∧ ((List.range 18).all fun k => af.any fun e => Nat.beq e.on k && Region.binds .any e) = true
def copyKs : List Nat := [30, 31, 32, 33, 34, 35, 36, 37, 38, 39, 40, 41, 42, 43, 44, 45, 46, 11]
structure CF (w0 : World) (S : St) (tb : Nat) (lo co to_ no : Option Addr) (lc cc tc nc : Nat) (l : Array Bool) (f : Nat → Value) (w : World) : Prop where
  q1 : Qt l 1 (f 31) (.pointer (some ⟨tb, 0, none⟩))
  q2 : Qt l 2 (f 32) (.slice lo S.lots.length lc)
  c1 : Ch w0 w 174 4 S.lots.length (lotCells S.lots) (l.getD 0 false) (l.getD 3 false) (f 30) (f 33)
  q5 : Qt l 5 (f 35) (.pointer (some ⟨tb, 1, none⟩))
  q6 : Qt l 6 (f 36) (.slice co S.contacts.length cc)
  c2 : Ch w0 w 176 2 S.contacts.length (pairCells S.contacts) (l.getD 4 false) (l.getD 7 false) (f 34) (f 37)
  q9 : Qt l 9 (f 39) (.pointer (some ⟨tb, 2, none⟩))
  q10 : Qt l 10 (f 40) (.slice to_ S.tests.length tc)
  c3 : Ch w0 w 178 2 S.tests.length (rtestCells S.tests) (l.getD 8 false) (l.getD 11 false) (f 38) (f 41)
  q13 : Qt l 13 (f 43) (.pointer (some ⟨tb, 3, none⟩))
  q14 : Qt l 14 (f 44) (.slice no S.notes.length nc)
  c4 : Ch w0 w 9 1 S.notes.length (strCells S.notes) (l.getD 12 false) (l.getD 15 false) (f 42) (f 45)
  b : l.getD 16 false = true → (l.getD 3 false = true ∧ l.getD 7 false = true ∧ l.getD 11 false = true ∧ l.getD 15 false = true) ∧ f 46 = .agg #[f 33, f 37, f 41, f 45]
  s : l.getD 18 false = true → l.getD 17 false = true ∧ l.getD 16 false = true
  o : l.getD 17 false = true → ∃ nb, f 11 = .pointer (some ⟨nb, 0, none⟩) ∧ w0.heap.size ≤ nb ∧ Blk w nb (if l.getD 18 false then #[f 33, f 37, f 41, f 45] else #[.slice none 0 0, .slice none 0 0, .slice none 0 0, .slice none 0 0]) 74
theorem not_yet {l : Array Bool} {i j : Nat} (hp : l.getD j false = true → l.getD i false = true) (h0 : l.getD i true = false) : l.getD j false = false := by
  cases h : l.getD j false with
  | false => rfl
  | true => have := hp h; rw [getD_false h0] at this; cases this
set_option maxHeartbeats 4000000 in
set_option maxRecDepth 100000 in
theorem rdo_copy {id : Nat} {ops : Array Oper} {Q : Exit → Act → World → Prop} (hops : CopyOps ops) {a0 : Act} {w w3 : World} {S : St} {tb : Nat} {lo co to_ no : Option Addr} {lc cc tc nc : Nat} (hs : a0.tmps.size = 438) (h4 : a0.tmps[4]?.getD undef = .pointer (some ⟨tb, 0, none⟩))
    (hl20 : S.lots.length ≤ 1000000000) (hc2 : S.contacts.length ≤ 1000000000) (ht2 : S.tests.length ≤ 1000000000) (hn2 : S.notes.length ≤ 1000000000) (hK3 : Keep (fun _ => False) w w3)
    (hST : RSt w (.slice lo S.lots.length lc) (.slice co S.contacts.length cc) (.slice to_ S.tests.length tc) (.slice no S.notes.length nc) S)
    (hSX : ∀ W, Keep (fun _ => False) w3 W → W.cell? ⟨tb, 0, none⟩ = some (.slice lo S.lots.length lc) ∧ W.cell? ⟨tb, 1, none⟩ = some (.slice co S.contacts.length cc) ∧ W.cell? ⟨tb, 2, none⟩ = some (.slice to_ S.tests.length tc) ∧ W.cell? ⟨tb, 3, none⟩ = some (.slice no S.notes.length nc))
    (hQ : ∀ f w' nb, f 11 = .pointer (some ⟨nb, 0, none⟩) → RO w3.heap.size w' nb (f 33) (f 37) (f 41) (f 45) S → Keep (fun _ => False) w3 w' → Q .normal (updL a0 f copyKs) w') :
    (Code.region id ops true).wp Tryz.prog Q a0 w3 := by
  have HSX := Lib.hid hSX; have HST := Lib.hid hST; have HK3 := Lib.hid hK3; clear hSX hST hK3
  refine region_inv (by kernel_rfl) (fun l a W => Keep (fun _ => False) w3 W ∧ ∃ f, a = updL a0 f copyKs ∧ CF w3 S tb lo co to_ no lc cc tc nc l f W) (acyc hops.acyc) ?_ ?_ ?_
  · refine ⟨(Keep.refl _ _).drew, fun k => a0.tmps[k]?.getD undef, (updL_self _ _).symm, ?_⟩
    have r := rep_false ops.size
    exact ⟨no_of (r 1), no_of (r 2), Ch.none (r 0) (r 3), no_of (r 5), no_of (r 6), Ch.none (r 4) (r 7), no_of (r 9), no_of (r 10), Ch.none (r 8) (r 11), no_of (r 13), no_of (r 14), Ch.none (r 12) (r 15), no_of (r 16), no_of (r 18), no_of (r 17)⟩
  · rintro l a w' hall ⟨hk, f, rfl, F⟩
    have hsz := hops.size
    have hh : ∀ i, i < 19 → l.getD i false = true := fun i hi => hall i (by omega)
    obtain ⟨nb, hv11, hge, hb⟩ := F.o (hh 17 (by decide))
    rw [hh 18 (by decide)] at hb
    exact hQ f w' nb hv11 ⟨hge, hb, (F.c1.2 (hh 3 (by decide))).2, (F.c2.2 (hh 7 (by decide))).2, (F.c3.2 (hh 11 (by decide))).2, (F.c4.2 (hh 15 (by decide))).2⟩ hk
  · rintro l a w' i o ⟨hk, f, ha, F⟩ h0 ho hall K hK
    have HA := Lib.hid ha; clear ha
    have hi : i < 19 := by rw [← hops.size]; exact (Array.getElem?_eq_some_iff.1 ho).1
    rcases (show i = 0 ∨ i = 1 ∨ i = 2 ∨ i = 3 ∨ i = 4 ∨ i = 5 ∨ i = 6 ∨ i = 7 ∨ i = 8 ∨ i = 9 ∨ i = 10 ∨ i = 11 ∨ i = 12 ∨ i = 13 ∨ i = 14 ∨ i = 15 ∨ i = 16 ∨ i = 17 ∨ i = 18 by omega) with rfl | rfl | rfl | rfl | rfl | rfl | rfl | rfl | rfl | rfl | rfl | rfl | rfl | rfl | rfl | rfl | rfl | rfl | rfl
    · obtain ⟨ty, ps, e⟩ := hops.o0
      rw [e] at ho
      injection ho with ho
      subst ho
      simp only [Region.wanted, if_true]
      have hf : l.getD 3 false = false := not_yet (fun e => (F.c1.2 e).1) h0
      have kk : Keep (fun _ => False) w' (w'.alloc (.cells #[] 174)) := (Keep.refl _ _).alloc _
      refine op_empty70 (hK _ _ ?_)
      exact ⟨hk.trans kk (fun _ _ h => h), upd1 f 30 (.slice (some ⟨w'.heap.size, 0, none⟩) 0 0), uPut HA (by rfl), ⟨F.q1.other (by decide), F.q2.other (by decide), (F.c1.keep kk).first (by decide) (owns_empty w' w3.heap.size 174 4 hk.size) hf, F.q5.other (by decide), F.q6.other (by decide), (F.c2.keep kk).other (by decide) (by decide), F.q9.other (by decide), F.q10.other (by decide), (F.c3.keep kk).other (by decide) (by decide), F.q13.other (by decide), F.q14.other (by decide), (F.c4.keep kk).other (by decide) (by decide), (by rw [getD_set_ne false (by decide), getD_set_ne false (by decide), getD_set_ne false (by decide), getD_set_ne false (by decide), getD_set_ne false (by decide)]; exact F.b), (by rw [getD_set_ne false (by decide), getD_set_ne false (by decide), getD_set_ne false (by decide)]; exact F.s), (by rw [getD_set_ne false (by decide), getD_set_ne false (by decide)]; intro h; obtain ⟨nb, e, hge, hb⟩ := F.o h; exact ⟨nb, e, hge, hb.keep kk (fun h => h)⟩)⟩⟩
    · obtain ⟨ty, ps, e⟩ := hops.o1
      rw [e] at ho
      injection ho with ho
      subst ho
      simp only [Region.wanted, if_true]
      refine op_fa0 (uOff HA h4 (by rfl)) (hK _ _ ?_)
      exact ⟨hk, upd1 f 31 (.pointer (some ⟨tb, 0, none⟩)), uPut HA (by rfl), ⟨Qt.here rfl, F.q2.other (by decide), F.c1.other (by decide) (by decide), F.q5.other (by decide), F.q6.other (by decide), F.c2.other (by decide) (by decide), F.q9.other (by decide), F.q10.other (by decide), F.c3.other (by decide) (by decide), F.q13.other (by decide), F.q14.other (by decide), F.c4.other (by decide) (by decide), (by rw [getD_set_ne false (by decide), getD_set_ne false (by decide), getD_set_ne false (by decide), getD_set_ne false (by decide), getD_set_ne false (by decide)]; exact F.b), (by rw [getD_set_ne false (by decide), getD_set_ne false (by decide), getD_set_ne false (by decide)]; exact F.s), (by rw [getD_set_ne false (by decide), getD_set_ne false (by decide)]; exact F.o)⟩⟩
    · obtain ⟨ty, ps, e⟩ := hops.o2
      rw [e] at ho
      injection ho with ho
      subst ho
      simp only [Region.wanted, if_true]
      have hd : l.getD 1 false = true := hall ⟨1, .data⟩ (by simp) rfl
      refine op_ld70 ((uAt HA hs (by rfl)).trans (F.q1 hd)) (HSX.out _ hk).1 (hK _ _ ?_)
      exact ⟨hk, upd1 f 32 (.slice lo S.lots.length lc), uPut HA (by rfl), ⟨F.q1.other (by decide), Qt.here rfl, F.c1.other (by decide) (by decide), F.q5.other (by decide), F.q6.other (by decide), F.c2.other (by decide) (by decide), F.q9.other (by decide), F.q10.other (by decide), F.c3.other (by decide) (by decide), F.q13.other (by decide), F.q14.other (by decide), F.c4.other (by decide) (by decide), (by rw [getD_set_ne false (by decide), getD_set_ne false (by decide), getD_set_ne false (by decide), getD_set_ne false (by decide), getD_set_ne false (by decide)]; exact F.b), (by rw [getD_set_ne false (by decide), getD_set_ne false (by decide), getD_set_ne false (by decide)]; exact F.s), (by rw [getD_set_ne false (by decide), getD_set_ne false (by decide)]; exact F.o)⟩⟩
    · obtain ⟨ty, ps, e⟩ := hops.o3
      rw [e] at ho
      injection ho with ho
      subst ho
      simp only [Region.wanted, if_true]
      have hd0 : l.getD 0 false = true := hall ⟨0, .data⟩ (by simp) rfl
      have hd2 : l.getD 2 false = true := hall ⟨2, .data⟩ (by simp) rfl
      have hd1 : l.getD 3 false = false := getD_false h0
      have hf16 : l.getD 16 false = false := not_yet (fun e => (F.b e).1.1) h0
      have hf18 : l.getD 18 false = false := by
        cases h : l.getD 18 false with
        | false => rfl
        | true => have h1 := (F.s h).2; rw [hf16] at h1; cases h1
      refine oper_app (.tmp 30) (.tmp 32) 70 70 rfl 174 (.agg #[.string ⟨#[]⟩, .int .i64 0, .int .i64 0, .bool false]) 4 40 Tryz.underlying70 info174 rfl (F.c1.1 hd0 hd1) (evals (uAt HA hs (by rfl))) ((HST.out.l.keep (HK3.out.trans hk (fun _ _ h => h)) (fun _ _ h => h)).src Tryz.underlying70) (evals ((uAt HA hs (by rfl)).trans (F.q2 hd2))) (by simp only [maxLen]; omega) (by omega) hk.size (fun v' wa happ => ?_)
      have hown := happ.own
      rw [Nat.zero_add, List.nil_append] at hown
      have hkw : Keep (fun _ => False) w3 wa := hk.trans happ.keep (fun b hb e => by have := (ownsRow_lt (F.c1.1 hd0 hd1) b e).1; omega)
      refine hK _ _ ?_
      exact ⟨hkw, upd1 f 33 v', uPut HA (by rfl), ⟨F.q1.other (by decide), F.q2.other (by decide), Ch.second h0 hd0 hown, F.q5.other (by decide), F.q6.other (by decide), (F.c2.app (F.c1.1 hd0 hd1) happ.keep (by decide)).other (by decide) (by decide), F.q9.other (by decide), F.q10.other (by decide), (F.c3.app (F.c1.1 hd0 hd1) happ.keep (by decide)).other (by decide) (by decide), F.q13.other (by decide), F.q14.other (by decide), (F.c4.app (F.c1.1 hd0 hd1) happ.keep (by decide)).other (by decide) (by decide), (no_of (by rw [getD_set_ne false (by decide)]; exact hf16)), (by rw [getD_set_ne false (by decide), getD_set_ne false (by decide), getD_set_ne false (by decide)]; exact F.s), (by rw [getD_set_ne false (by decide), getD_set_ne false (by decide)]; intro h; obtain ⟨nb, e, hge, hb⟩ := F.o h; rw [hf18] at hb ⊢; exact ⟨nb, e, hge, hb.keep happ.keep (fun e2 => ownsRow_blk (F.c1.1 hd0 hd1) hb (by decide) e2)⟩)⟩⟩
    · obtain ⟨ty, ps, e⟩ := hops.o4
      rw [e] at ho
      injection ho with ho
      subst ho
      simp only [Region.wanted, if_true]
      have hf : l.getD 7 false = false := not_yet (fun e => (F.c2.2 e).1) h0
      have kk : Keep (fun _ => False) w' (w'.alloc (.cells #[] 176)) := (Keep.refl _ _).alloc _
      refine op_empty71 (hK _ _ ?_)
      exact ⟨hk.trans kk (fun _ _ h => h), upd1 f 34 (.slice (some ⟨w'.heap.size, 0, none⟩) 0 0), uPut HA (by rfl), ⟨F.q1.other (by decide), F.q2.other (by decide), (F.c1.keep kk).other (by decide) (by decide), F.q5.other (by decide), F.q6.other (by decide), (F.c2.keep kk).first (by decide) (owns_empty w' w3.heap.size 176 2 hk.size) hf, F.q9.other (by decide), F.q10.other (by decide), (F.c3.keep kk).other (by decide) (by decide), F.q13.other (by decide), F.q14.other (by decide), (F.c4.keep kk).other (by decide) (by decide), (by rw [getD_set_ne false (by decide), getD_set_ne false (by decide), getD_set_ne false (by decide), getD_set_ne false (by decide), getD_set_ne false (by decide)]; exact F.b), (by rw [getD_set_ne false (by decide), getD_set_ne false (by decide), getD_set_ne false (by decide)]; exact F.s), (by rw [getD_set_ne false (by decide), getD_set_ne false (by decide)]; intro h; obtain ⟨nb, e, hge, hb⟩ := F.o h; exact ⟨nb, e, hge, hb.keep kk (fun h => h)⟩)⟩⟩
    · obtain ⟨ty, ps, e⟩ := hops.o5
      rw [e] at ho
      injection ho with ho
      subst ho
      simp only [Region.wanted, if_true]
      refine op_fa1 (uOff HA h4 (by rfl)) (hK _ _ ?_)
      exact ⟨hk, upd1 f 35 (.pointer (some ⟨tb, 1, none⟩)), uPut HA (by rfl), ⟨F.q1.other (by decide), F.q2.other (by decide), F.c1.other (by decide) (by decide), Qt.here rfl, F.q6.other (by decide), F.c2.other (by decide) (by decide), F.q9.other (by decide), F.q10.other (by decide), F.c3.other (by decide) (by decide), F.q13.other (by decide), F.q14.other (by decide), F.c4.other (by decide) (by decide), (by rw [getD_set_ne false (by decide), getD_set_ne false (by decide), getD_set_ne false (by decide), getD_set_ne false (by decide), getD_set_ne false (by decide)]; exact F.b), (by rw [getD_set_ne false (by decide), getD_set_ne false (by decide), getD_set_ne false (by decide)]; exact F.s), (by rw [getD_set_ne false (by decide), getD_set_ne false (by decide)]; exact F.o)⟩⟩
    · obtain ⟨ty, ps, e⟩ := hops.o6
      rw [e] at ho
      injection ho with ho
      subst ho
      simp only [Region.wanted, if_true]
      have hd : l.getD 5 false = true := hall ⟨5, .data⟩ (by simp) rfl
      refine op_ld71 ((uAt HA hs (by rfl)).trans (F.q5 hd)) (HSX.out _ hk).2.1 (hK _ _ ?_)
      exact ⟨hk, upd1 f 36 (.slice co S.contacts.length cc), uPut HA (by rfl), ⟨F.q1.other (by decide), F.q2.other (by decide), F.c1.other (by decide) (by decide), F.q5.other (by decide), Qt.here rfl, F.c2.other (by decide) (by decide), F.q9.other (by decide), F.q10.other (by decide), F.c3.other (by decide) (by decide), F.q13.other (by decide), F.q14.other (by decide), F.c4.other (by decide) (by decide), (by rw [getD_set_ne false (by decide), getD_set_ne false (by decide), getD_set_ne false (by decide), getD_set_ne false (by decide), getD_set_ne false (by decide)]; exact F.b), (by rw [getD_set_ne false (by decide), getD_set_ne false (by decide), getD_set_ne false (by decide)]; exact F.s), (by rw [getD_set_ne false (by decide), getD_set_ne false (by decide)]; exact F.o)⟩⟩
    · obtain ⟨ty, ps, e⟩ := hops.o7
      rw [e] at ho
      injection ho with ho
      subst ho
      simp only [Region.wanted, if_true]
      have hd0 : l.getD 4 false = true := hall ⟨4, .data⟩ (by simp) rfl
      have hd2 : l.getD 6 false = true := hall ⟨6, .data⟩ (by simp) rfl
      have hd1 : l.getD 7 false = false := getD_false h0
      have hf16 : l.getD 16 false = false := not_yet (fun e => (F.b e).1.2.1) h0
      have hf18 : l.getD 18 false = false := by
        cases h : l.getD 18 false with
        | false => rfl
        | true => have h1 := (F.s h).2; rw [hf16] at h1; cases h1
      refine oper_app (.tmp 34) (.tmp 36) 71 71 rfl 176 (.agg #[.int .i64 0, .int .i64 0]) 2 16 Tryz.underlying71 info176 rfl (F.c2.1 hd0 hd1) (evals (uAt HA hs (by rfl))) ((HST.out.c.keep (HK3.out.trans hk (fun _ _ h => h)) (fun _ _ h => h)).src Tryz.underlying71) (evals ((uAt HA hs (by rfl)).trans (F.q6 hd2))) (by simp only [maxLen]; omega) (by omega) hk.size (fun v' wa happ => ?_)
      have hown := happ.own
      rw [Nat.zero_add, List.nil_append] at hown
      have hkw : Keep (fun _ => False) w3 wa := hk.trans happ.keep (fun b hb e => by have := (ownsRow_lt (F.c2.1 hd0 hd1) b e).1; omega)
      refine hK _ _ ?_
      exact ⟨hkw, upd1 f 37 v', uPut HA (by rfl), ⟨F.q1.other (by decide), F.q2.other (by decide), (F.c1.app (F.c2.1 hd0 hd1) happ.keep (by decide)).other (by decide) (by decide), F.q5.other (by decide), F.q6.other (by decide), Ch.second h0 hd0 hown, F.q9.other (by decide), F.q10.other (by decide), (F.c3.app (F.c2.1 hd0 hd1) happ.keep (by decide)).other (by decide) (by decide), F.q13.other (by decide), F.q14.other (by decide), (F.c4.app (F.c2.1 hd0 hd1) happ.keep (by decide)).other (by decide) (by decide), (no_of (by rw [getD_set_ne false (by decide)]; exact hf16)), (by rw [getD_set_ne false (by decide), getD_set_ne false (by decide), getD_set_ne false (by decide)]; exact F.s), (by rw [getD_set_ne false (by decide), getD_set_ne false (by decide)]; intro h; obtain ⟨nb, e, hge, hb⟩ := F.o h; rw [hf18] at hb ⊢; exact ⟨nb, e, hge, hb.keep happ.keep (fun e2 => ownsRow_blk (F.c2.1 hd0 hd1) hb (by decide) e2)⟩)⟩⟩
    · obtain ⟨ty, ps, e⟩ := hops.o8
      rw [e] at ho
      injection ho with ho
      subst ho
      simp only [Region.wanted, if_true]
      have hf : l.getD 11 false = false := not_yet (fun e => (F.c3.2 e).1) h0
      have kk : Keep (fun _ => False) w' (w'.alloc (.cells #[] 178)) := (Keep.refl _ _).alloc _
      refine op_empty72 (hK _ _ ?_)
      exact ⟨hk.trans kk (fun _ _ h => h), upd1 f 38 (.slice (some ⟨w'.heap.size, 0, none⟩) 0 0), uPut HA (by rfl), ⟨F.q1.other (by decide), F.q2.other (by decide), (F.c1.keep kk).other (by decide) (by decide), F.q5.other (by decide), F.q6.other (by decide), (F.c2.keep kk).other (by decide) (by decide), F.q9.other (by decide), F.q10.other (by decide), (F.c3.keep kk).first (by decide) (owns_empty w' w3.heap.size 178 2 hk.size) hf, F.q13.other (by decide), F.q14.other (by decide), (F.c4.keep kk).other (by decide) (by decide), (by rw [getD_set_ne false (by decide), getD_set_ne false (by decide), getD_set_ne false (by decide), getD_set_ne false (by decide), getD_set_ne false (by decide)]; exact F.b), (by rw [getD_set_ne false (by decide), getD_set_ne false (by decide), getD_set_ne false (by decide)]; exact F.s), (by rw [getD_set_ne false (by decide), getD_set_ne false (by decide)]; intro h; obtain ⟨nb, e, hge, hb⟩ := F.o h; exact ⟨nb, e, hge, hb.keep kk (fun h => h)⟩)⟩⟩
    · obtain ⟨ty, ps, e⟩ := hops.o9
      rw [e] at ho
      injection ho with ho
      subst ho
      simp only [Region.wanted, if_true]
      refine op_fa2 (uOff HA h4 (by rfl)) (hK _ _ ?_)
      exact ⟨hk, upd1 f 39 (.pointer (some ⟨tb, 2, none⟩)), uPut HA (by rfl), ⟨F.q1.other (by decide), F.q2.other (by decide), F.c1.other (by decide) (by decide), F.q5.other (by decide), F.q6.other (by decide), F.c2.other (by decide) (by decide), Qt.here rfl, F.q10.other (by decide), F.c3.other (by decide) (by decide), F.q13.other (by decide), F.q14.other (by decide), F.c4.other (by decide) (by decide), (by rw [getD_set_ne false (by decide), getD_set_ne false (by decide), getD_set_ne false (by decide), getD_set_ne false (by decide), getD_set_ne false (by decide)]; exact F.b), (by rw [getD_set_ne false (by decide), getD_set_ne false (by decide), getD_set_ne false (by decide)]; exact F.s), (by rw [getD_set_ne false (by decide), getD_set_ne false (by decide)]; exact F.o)⟩⟩
    · obtain ⟨ty, ps, e⟩ := hops.o10
      rw [e] at ho
      injection ho with ho
      subst ho
      simp only [Region.wanted, if_true]
      have hd : l.getD 9 false = true := hall ⟨9, .data⟩ (by simp) rfl
      refine op_ld72 ((uAt HA hs (by rfl)).trans (F.q9 hd)) (HSX.out _ hk).2.2.1 (hK _ _ ?_)
      exact ⟨hk, upd1 f 40 (.slice to_ S.tests.length tc), uPut HA (by rfl), ⟨F.q1.other (by decide), F.q2.other (by decide), F.c1.other (by decide) (by decide), F.q5.other (by decide), F.q6.other (by decide), F.c2.other (by decide) (by decide), F.q9.other (by decide), Qt.here rfl, F.c3.other (by decide) (by decide), F.q13.other (by decide), F.q14.other (by decide), F.c4.other (by decide) (by decide), (by rw [getD_set_ne false (by decide), getD_set_ne false (by decide), getD_set_ne false (by decide), getD_set_ne false (by decide), getD_set_ne false (by decide)]; exact F.b), (by rw [getD_set_ne false (by decide), getD_set_ne false (by decide), getD_set_ne false (by decide)]; exact F.s), (by rw [getD_set_ne false (by decide), getD_set_ne false (by decide)]; exact F.o)⟩⟩
    · obtain ⟨ty, ps, e⟩ := hops.o11
      rw [e] at ho
      injection ho with ho
      subst ho
      simp only [Region.wanted, if_true]
      have hd0 : l.getD 8 false = true := hall ⟨8, .data⟩ (by simp) rfl
      have hd2 : l.getD 10 false = true := hall ⟨10, .data⟩ (by simp) rfl
      have hd1 : l.getD 11 false = false := getD_false h0
      have hf16 : l.getD 16 false = false := not_yet (fun e => (F.b e).1.2.2.1) h0
      have hf18 : l.getD 18 false = false := by
        cases h : l.getD 18 false with
        | false => rfl
        | true => have h1 := (F.s h).2; rw [hf16] at h1; cases h1
      refine oper_app (.tmp 38) (.tmp 40) 72 72 rfl 178 (.agg #[.int .i64 0, .bool false]) 2 16 Tryz.underlying72 info178 rfl (F.c3.1 hd0 hd1) (evals (uAt HA hs (by rfl))) ((HST.out.t.keep (HK3.out.trans hk (fun _ _ h => h)) (fun _ _ h => h)).src Tryz.underlying72) (evals ((uAt HA hs (by rfl)).trans (F.q10 hd2))) (by simp only [maxLen]; omega) (by omega) hk.size (fun v' wa happ => ?_)
      have hown := happ.own
      rw [Nat.zero_add, List.nil_append] at hown
      have hkw : Keep (fun _ => False) w3 wa := hk.trans happ.keep (fun b hb e => by have := (ownsRow_lt (F.c3.1 hd0 hd1) b e).1; omega)
      refine hK _ _ ?_
      exact ⟨hkw, upd1 f 41 v', uPut HA (by rfl), ⟨F.q1.other (by decide), F.q2.other (by decide), (F.c1.app (F.c3.1 hd0 hd1) happ.keep (by decide)).other (by decide) (by decide), F.q5.other (by decide), F.q6.other (by decide), (F.c2.app (F.c3.1 hd0 hd1) happ.keep (by decide)).other (by decide) (by decide), F.q9.other (by decide), F.q10.other (by decide), Ch.second h0 hd0 hown, F.q13.other (by decide), F.q14.other (by decide), (F.c4.app (F.c3.1 hd0 hd1) happ.keep (by decide)).other (by decide) (by decide), (no_of (by rw [getD_set_ne false (by decide)]; exact hf16)), (by rw [getD_set_ne false (by decide), getD_set_ne false (by decide), getD_set_ne false (by decide)]; exact F.s), (by rw [getD_set_ne false (by decide), getD_set_ne false (by decide)]; intro h; obtain ⟨nb, e, hge, hb⟩ := F.o h; rw [hf18] at hb ⊢; exact ⟨nb, e, hge, hb.keep happ.keep (fun e2 => ownsRow_blk (F.c3.1 hd0 hd1) hb (by decide) e2)⟩)⟩⟩
    · obtain ⟨ty, ps, e⟩ := hops.o12
      rw [e] at ho
      injection ho with ho
      subst ho
      simp only [Region.wanted, if_true]
      have hf : l.getD 15 false = false := not_yet (fun e => (F.c4.2 e).1) h0
      have kk : Keep (fun _ => False) w' (w'.alloc (.cells #[] 9)) := (Keep.refl _ _).alloc _
      refine op_empty44 (hK _ _ ?_)
      exact ⟨hk.trans kk (fun _ _ h => h), upd1 f 42 (.slice (some ⟨w'.heap.size, 0, none⟩) 0 0), uPut HA (by rfl), ⟨F.q1.other (by decide), F.q2.other (by decide), (F.c1.keep kk).other (by decide) (by decide), F.q5.other (by decide), F.q6.other (by decide), (F.c2.keep kk).other (by decide) (by decide), F.q9.other (by decide), F.q10.other (by decide), (F.c3.keep kk).other (by decide) (by decide), F.q13.other (by decide), F.q14.other (by decide), (F.c4.keep kk).first (by decide) (owns_empty w' w3.heap.size 9 1 hk.size) hf, (by rw [getD_set_ne false (by decide), getD_set_ne false (by decide), getD_set_ne false (by decide), getD_set_ne false (by decide), getD_set_ne false (by decide)]; exact F.b), (by rw [getD_set_ne false (by decide), getD_set_ne false (by decide), getD_set_ne false (by decide)]; exact F.s), (by rw [getD_set_ne false (by decide), getD_set_ne false (by decide)]; intro h; obtain ⟨nb, e, hge, hb⟩ := F.o h; exact ⟨nb, e, hge, hb.keep kk (fun h => h)⟩)⟩⟩
    · obtain ⟨ty, ps, e⟩ := hops.o13
      rw [e] at ho
      injection ho with ho
      subst ho
      simp only [Region.wanted, if_true]
      refine op_fa3 (uOff HA h4 (by rfl)) (hK _ _ ?_)
      exact ⟨hk, upd1 f 43 (.pointer (some ⟨tb, 3, none⟩)), uPut HA (by rfl), ⟨F.q1.other (by decide), F.q2.other (by decide), F.c1.other (by decide) (by decide), F.q5.other (by decide), F.q6.other (by decide), F.c2.other (by decide) (by decide), F.q9.other (by decide), F.q10.other (by decide), F.c3.other (by decide) (by decide), Qt.here rfl, F.q14.other (by decide), F.c4.other (by decide) (by decide), (by rw [getD_set_ne false (by decide), getD_set_ne false (by decide), getD_set_ne false (by decide), getD_set_ne false (by decide), getD_set_ne false (by decide)]; exact F.b), (by rw [getD_set_ne false (by decide), getD_set_ne false (by decide), getD_set_ne false (by decide)]; exact F.s), (by rw [getD_set_ne false (by decide), getD_set_ne false (by decide)]; exact F.o)⟩⟩
    · obtain ⟨ty, ps, e⟩ := hops.o14
      rw [e] at ho
      injection ho with ho
      subst ho
      simp only [Region.wanted, if_true]
      have hd : l.getD 13 false = true := hall ⟨13, .data⟩ (by simp) rfl
      refine op_ld44 ((uAt HA hs (by rfl)).trans (F.q13 hd)) (HSX.out _ hk).2.2.2 (hK _ _ ?_)
      exact ⟨hk, upd1 f 44 (.slice no S.notes.length nc), uPut HA (by rfl), ⟨F.q1.other (by decide), F.q2.other (by decide), F.c1.other (by decide) (by decide), F.q5.other (by decide), F.q6.other (by decide), F.c2.other (by decide) (by decide), F.q9.other (by decide), F.q10.other (by decide), F.c3.other (by decide) (by decide), F.q13.other (by decide), Qt.here rfl, F.c4.other (by decide) (by decide), (by rw [getD_set_ne false (by decide), getD_set_ne false (by decide), getD_set_ne false (by decide), getD_set_ne false (by decide), getD_set_ne false (by decide)]; exact F.b), (by rw [getD_set_ne false (by decide), getD_set_ne false (by decide), getD_set_ne false (by decide)]; exact F.s), (by rw [getD_set_ne false (by decide), getD_set_ne false (by decide)]; exact F.o)⟩⟩
    · obtain ⟨ty, ps, e⟩ := hops.o15
      rw [e] at ho
      injection ho with ho
      subst ho
      simp only [Region.wanted, if_true]
      have hd0 : l.getD 12 false = true := hall ⟨12, .data⟩ (by simp) rfl
      have hd2 : l.getD 14 false = true := hall ⟨14, .data⟩ (by simp) rfl
      have hd1 : l.getD 15 false = false := getD_false h0
      have hf16 : l.getD 16 false = false := not_yet (fun e => (F.b e).1.2.2.2) h0
      have hf18 : l.getD 18 false = false := by
        cases h : l.getD 18 false with
        | false => rfl
        | true => have h1 := (F.s h).2; rw [hf16] at h1; cases h1
      refine oper_app (.tmp 42) (.tmp 44) 44 44 rfl 9 (.string ⟨#[]⟩) 1 16 Tryz.underlying44 info9 rfl (F.c4.1 hd0 hd1) (evals (uAt HA hs (by rfl))) ((HST.out.n.keep (HK3.out.trans hk (fun _ _ h => h)) (fun _ _ h => h)).src Tryz.underlying44) (evals ((uAt HA hs (by rfl)).trans (F.q14 hd2))) (by simp only [maxLen]; omega) (by omega) hk.size (fun v' wa happ => ?_)
      have hown := happ.own
      rw [Nat.zero_add, List.nil_append] at hown
      have hkw : Keep (fun _ => False) w3 wa := hk.trans happ.keep (fun b hb e => by have := (ownsRow_lt (F.c4.1 hd0 hd1) b e).1; omega)
      refine hK _ _ ?_
      exact ⟨hkw, upd1 f 45 v', uPut HA (by rfl), ⟨F.q1.other (by decide), F.q2.other (by decide), (F.c1.app (F.c4.1 hd0 hd1) happ.keep (by decide)).other (by decide) (by decide), F.q5.other (by decide), F.q6.other (by decide), (F.c2.app (F.c4.1 hd0 hd1) happ.keep (by decide)).other (by decide) (by decide), F.q9.other (by decide), F.q10.other (by decide), (F.c3.app (F.c4.1 hd0 hd1) happ.keep (by decide)).other (by decide) (by decide), F.q13.other (by decide), F.q14.other (by decide), Ch.second h0 hd0 hown, (no_of (by rw [getD_set_ne false (by decide)]; exact hf16)), (by rw [getD_set_ne false (by decide), getD_set_ne false (by decide), getD_set_ne false (by decide)]; exact F.s), (by rw [getD_set_ne false (by decide), getD_set_ne false (by decide)]; intro h; obtain ⟨nb, e, hge, hb⟩ := F.o h; rw [hf18] at hb ⊢; exact ⟨nb, e, hge, hb.keep happ.keep (fun e2 => ownsRow_blk (F.c4.1 hd0 hd1) hb (by decide) e2)⟩)⟩⟩
    · obtain ⟨ty, ps, e⟩ := hops.o16
      rw [e] at ho
      injection ho with ho
      subst ho
      simp only [Region.wanted, if_true]
      have hd3 : l.getD 3 false = true := hall ⟨3, .data⟩ (by simp) rfl
      have hd7 : l.getD 7 false = true := hall ⟨7, .data⟩ (by simp) rfl
      have hd11 : l.getD 11 false = true := hall ⟨11, .data⟩ (by simp) rfl
      have hd15 : l.getD 15 false = true := hall ⟨15, .data⟩ (by simp) rfl
      obtain ⟨q0, p0, hv0, _⟩ := ownsRow_shape (F.c1.2 hd3).2
      obtain ⟨q1, p1, hv1, _⟩ := ownsRow_shape (F.c2.2 hd7).2
      obtain ⟨q2, p2, hv2, _⟩ := ownsRow_shape (F.c3.2 hd11).2
      obtain ⟨q3, p3, hv3, _⟩ := ownsRow_shape (F.c4.2 hd15).2
      refine op_build ((uAt HA hs (by rfl)).trans hv0) ((uAt HA hs (by rfl)).trans hv1) ((uAt HA hs (by rfl)).trans hv2) ((uAt HA hs (by rfl)).trans hv3) (hK _ _ ?_)
      rw [← hv0, ← hv1, ← hv2, ← hv3]
      exact ⟨hk, upd1 f 46 (.agg #[f 33, f 37, f 41, f 45]), uPut HA (by rfl), ⟨F.q1.other (by decide), F.q2.other (by decide), F.c1.other (by decide) (by decide), F.q5.other (by decide), F.q6.other (by decide), F.c2.other (by decide) (by decide), F.q9.other (by decide), F.q10.other (by decide), F.c3.other (by decide) (by decide), F.q13.other (by decide), F.q14.other (by decide), F.c4.other (by decide) (by decide), (fun _ => ⟨by rw [getD_set_ne false (by decide), getD_set_ne false (by decide), getD_set_ne false (by decide), getD_set_ne false (by decide)]; exact ⟨hd3, hd7, hd11, hd15⟩, rfl⟩), (fun h => ⟨by rw [getD_set_ne false (by decide)]; exact (F.s (listed_set h (by decide))).1, set_here h0⟩), (by rw [getD_set_ne false (by decide), getD_set_ne false (by decide)]; exact F.o)⟩⟩
    · obtain ⟨ty, ps, e⟩ := hops.o17
      rw [e] at ho
      injection ho with ho
      subst ho
      simp only [Region.wanted, if_true]
      have kk : Keep (fun _ => False) w' (w'.alloc (.cells #[.slice none 0 0, .slice none 0 0, .slice none 0 0, .slice none 0 0] 74)) := (Keep.refl _ _).alloc _
      have hf18 : l.getD 18 false = false := not_yet (fun e => (F.s e).1) h0
      refine op_alloc (hK _ _ ?_)
      exact ⟨hk.trans kk (fun _ _ h => h), upd1 f 11 (.pointer (some ⟨w'.heap.size, 0, none⟩)), uPut HA (by rfl), ⟨F.q1.other (by decide), F.q2.other (by decide), (F.c1.keep kk).other (by decide) (by decide), F.q5.other (by decide), F.q6.other (by decide), (F.c2.keep kk).other (by decide) (by decide), F.q9.other (by decide), F.q10.other (by decide), (F.c3.keep kk).other (by decide) (by decide), F.q13.other (by decide), F.q14.other (by decide), (F.c4.keep kk).other (by decide) (by decide), (by rw [getD_set_ne false (by decide), getD_set_ne false (by decide), getD_set_ne false (by decide), getD_set_ne false (by decide), getD_set_ne false (by decide)]; exact F.b), (no_of (by rw [getD_set_ne false (by decide)]; exact hf18)), (fun _ => ⟨_, rfl, hk.size, by rw [getD_set_ne false (by decide), hf18]; exact Blk.new _ _ _⟩)⟩⟩
    · obtain ⟨ty, ps, af, e, haf⟩ := hops.o18
      rw [e] at ho
      injection ho with ho
      subst ho
      simp only [Region.wanted, if_true]
      have hall' : ∀ k, k < 18 → l.getD k false = true := fun k hk2 => by
        have h1 := List.all_eq_true.1 haf k (List.mem_range.2 hk2)
        obtain ⟨e, he, h2⟩ := Array.any_eq_true'.1 h1
        simp only [Bool.and_eq_true] at h2
        have h3 := hall e he h2.2
        rwa [Nat.eq_of_beq_eq_true h2.1] at h3
      have hd3 : l.getD 3 false = true := hall' 3 (by decide)
      have hd7 : l.getD 7 false = true := hall' 7 (by decide)
      have hd11 : l.getD 11 false = true := hall' 11 (by decide)
      have hd15 : l.getD 15 false = true := hall' 15 (by decide)
      have hd16 : l.getD 16 false = true := hall' 16 (by decide)
      have hd17 : l.getD 17 false = true := hall' 17 (by decide)
      have hv46 := (F.b hd16).2
      have o0 := (F.c1.2 hd3).2
      obtain ⟨q0, p0, hv0, _⟩ := ownsRow_shape o0
      have o1 := (F.c2.2 hd7).2
      obtain ⟨q1, p1, hv1, _⟩ := ownsRow_shape o1
      have o2 := (F.c3.2 hd11).2
      obtain ⟨q2, p2, hv2, _⟩ := ownsRow_shape o2
      have o3 := (F.c4.2 hd15).2
      obtain ⟨q3, p3, hv3, _⟩ := ownsRow_shape o3
      obtain ⟨nb, hv11, hge, hb⟩ := F.o hd17
      have hd18 := getD_false h0
      rw [hd18] at hb
      have kk := ((((Keep.refl (fun k => k = nb) w').setCell ⟨nb, 0, none⟩ (.slice q0 S.lots.length p0) (fun _ => rfl)).setCell ⟨nb, 1, none⟩ (.slice q1 S.contacts.length p1) (fun _ => rfl)).setCell ⟨nb, 2, none⟩ (.slice q2 S.tests.length p2) (fun _ => rfl)).setCell ⟨nb, 3, none⟩ (.slice q3 S.notes.length p3) (fun _ => rfl)
      have hkw := hk.trans kk (fun b hb e => by omega)
      refine op_store ((uAt HA hs (by rfl)).trans hv11) ((uAt HA hs (by rfl)).trans (hv46.trans (by rw [hv0, hv1, hv2, hv3]))) hb (hK _ _ ?_)
      exact ⟨hkw, f, HA.out, ⟨F.q1.other (by decide), F.q2.other (by decide), (F.c1.keep2 kk hd3 (fun e => ownsRow_blk o0 hb (by decide) e)).other (by decide) (by decide), F.q5.other (by decide), F.q6.other (by decide), (F.c2.keep2 kk hd7 (fun e => ownsRow_blk o1 hb (by decide) e)).other (by decide) (by decide), F.q9.other (by decide), F.q10.other (by decide), (F.c3.keep2 kk hd11 (fun e => ownsRow_blk o2 hb (by decide) e)).other (by decide) (by decide), F.q13.other (by decide), F.q14.other (by decide), (F.c4.keep2 kk hd15 (fun e => ownsRow_blk o3 hb (by decide) e)).other (by decide) (by decide), (by rw [getD_set_ne false (by decide), getD_set_ne false (by decide), getD_set_ne false (by decide), getD_set_ne false (by decide), getD_set_ne false (by decide)]; exact F.b), (fun _ => ⟨by rw [getD_set_ne false (by decide)]; exact hd17, by rw [getD_set_ne false (by decide)]; exact hd16⟩), (fun _ => ⟨nb, hv11, hge, by rw [set_here h0, hv0, hv1, hv2, hv3]; exact (((hb.set 0 _).set 1 _).set 2 _).set 3 _⟩)⟩⟩
end Go.Proofs.YthdkamnclbfehaaGreatDoor
/- cubebref09.Do: the copy that is written to, and the ends. -/
namespace Go.Proofs.YthdkamnclbfehaaGreatDoor
set_option linter.unusedSimpArgs false
set_option linter.unusedVariables false
set_option linter.unnecessarySimpa false
open Go.RowKit
theorem rdo_no {w wf : World} {r : Res} {e : Int} {S : St} {vl vc vt vn : Value} (he : e ≠ 0) (hF : r = ⟨e, S, bs []⟩) (hST : RSt w vl vc vt vn S) (hk : Keep (fun _ => False) w wf) : RDoPost w r (.returned (.tuple #[.agg #[vl, vc, vt, vn], .string ⟨#[]⟩, .int .i64 e])) wf :=
  ⟨_, _, _, _, by rw [hF]; rfl, by rw [hF]; exact hST.keep hk, hk, fun h => by rw [hF] at h; exact absurd h he⟩
theorem RO.lower {base b' : Nat} {w : World} {nb : Nat} {vl vc vt vn : Value} {S : St} (h : RO base w nb vl vc vt vn S) (hb : b' ≤ base) : RO b' w nb vl vc vt vn S :=
  ⟨Nat.le_trans hb h.ge, h.blk, ownsRow_base h.l hb, ownsRow_base h.c hb, ownsRow_base h.t hb, ownsRow_base h.n hb⟩
theorem rdo_yes {base nb : Nat} {w wf : World} {r : Res} {S' : St} {o : ByteArray} {vl vc vt vn : Value} (hF : r = ⟨0, S', o⟩) (hRO : RO base wf nb vl vc vt vn S') (hk : Keep (fun _ => False) w wf) (hb : w.heap.size ≤ base) : RDoPost w r (.returned (.tuple #[.agg #[vl, vc, vt, vn], .string o, .int .i64 0])) wf :=
  ⟨_, _, _, _, by rw [hF], by rw [hF]; exact hRO.st, hk, fun _ => ⟨nb, by rw [hF]; exact hRO.lower hb⟩⟩
theorem RO.app_l {base : Nat} {w w1 : World} {nb : Nat} {vl vc vt vn v' : Value} {S : St} {x : Lot} (h : RO base w nb vl vc vt vn S) (hk : Keep (fun b => vl.ownBlock = some b) w w1) (hown : w1.ownsRow base 174 4 v' (S.lots ++ [x]).length (lotCells (S.lots ++ [x]))) :
    RO base (w1.setCell ⟨nb, 0, none⟩ v') nb v' vc vt vn { S with lots := S.lots ++ [x] } := by
  have hb1 := h.blk.keep hk (fun e => ownsRow_blk h.l h.blk (by decide) e)
  have hne' := ownsRow_blk hown hb1 (by decide)
  exact ⟨h.ge, hb1.set 0 _, ownsRow_setCell hown _ _ hne', ownsRow_setCell (ownsRow_keep h.c hk (fun b e e2 => ownsRow_types h.l h.c (by decide) b e2 e)) _ _ (ownsRow_blk h.c h.blk (by decide)), ownsRow_setCell (ownsRow_keep h.t hk (fun b e e2 => ownsRow_types h.l h.t (by decide) b e2 e)) _ _ (ownsRow_blk h.t h.blk (by decide)), ownsRow_setCell (ownsRow_keep h.n hk (fun b e e2 => ownsRow_types h.l h.n (by decide) b e2 e)) _ _ (ownsRow_blk h.n h.blk (by decide))⟩
theorem RO.app_c {base : Nat} {w w1 : World} {nb : Nat} {vl vc vt vn v' : Value} {S : St} {x : (Int × Int)} (h : RO base w nb vl vc vt vn S) (hk : Keep (fun b => vc.ownBlock = some b) w w1) (hown : w1.ownsRow base 176 2 v' (S.contacts ++ [x]).length (pairCells (S.contacts ++ [x]))) :
    RO base (w1.setCell ⟨nb, 1, none⟩ v') nb vl v' vt vn { S with contacts := S.contacts ++ [x] } := by
  have hb1 := h.blk.keep hk (fun e => ownsRow_blk h.c h.blk (by decide) e)
  have hne' := ownsRow_blk hown hb1 (by decide)
  exact ⟨h.ge, hb1.set 1 _, ownsRow_setCell (ownsRow_keep h.l hk (fun b e e2 => ownsRow_types h.c h.l (by decide) b e2 e)) _ _ (ownsRow_blk h.l h.blk (by decide)), ownsRow_setCell hown _ _ hne', ownsRow_setCell (ownsRow_keep h.t hk (fun b e e2 => ownsRow_types h.c h.t (by decide) b e2 e)) _ _ (ownsRow_blk h.t h.blk (by decide)), ownsRow_setCell (ownsRow_keep h.n hk (fun b e e2 => ownsRow_types h.c h.n (by decide) b e2 e)) _ _ (ownsRow_blk h.n h.blk (by decide))⟩
theorem RO.app_t {base : Nat} {w w1 : World} {nb : Nat} {vl vc vt vn v' : Value} {S : St} {x : (Int × Int)} (h : RO base w nb vl vc vt vn S) (hk : Keep (fun b => vt.ownBlock = some b) w w1) (hown : w1.ownsRow base 178 2 v' (S.tests ++ [x]).length (rtestCells (S.tests ++ [x]))) :
    RO base (w1.setCell ⟨nb, 2, none⟩ v') nb vl vc v' vn { S with tests := S.tests ++ [x] } := by
  have hb1 := h.blk.keep hk (fun e => ownsRow_blk h.t h.blk (by decide) e)
  have hne' := ownsRow_blk hown hb1 (by decide)
  exact ⟨h.ge, hb1.set 2 _, ownsRow_setCell (ownsRow_keep h.l hk (fun b e e2 => ownsRow_types h.t h.l (by decide) b e2 e)) _ _ (ownsRow_blk h.l h.blk (by decide)), ownsRow_setCell (ownsRow_keep h.c hk (fun b e e2 => ownsRow_types h.t h.c (by decide) b e2 e)) _ _ (ownsRow_blk h.c h.blk (by decide)), ownsRow_setCell hown _ _ hne', ownsRow_setCell (ownsRow_keep h.n hk (fun b e e2 => ownsRow_types h.t h.n (by decide) b e2 e)) _ _ (ownsRow_blk h.n h.blk (by decide))⟩
theorem RO.app_n {base : Nat} {w w1 : World} {nb : Nat} {vl vc vt vn v' : Value} {S : St} {x : ByteArray} (h : RO base w nb vl vc vt vn S) (hk : Keep (fun b => vn.ownBlock = some b) w w1) (hown : w1.ownsRow base 9 1 v' (S.notes ++ [x]).length (strCells (S.notes ++ [x]))) :
    RO base (w1.setCell ⟨nb, 3, none⟩ v') nb vl vc vt v' { S with notes := S.notes ++ [x] } := by
  have hb1 := h.blk.keep hk (fun e => ownsRow_blk h.n h.blk (by decide) e)
  have hne' := ownsRow_blk hown hb1 (by decide)
  exact ⟨h.ge, hb1.set 3 _, ownsRow_setCell (ownsRow_keep h.l hk (fun b e e2 => ownsRow_types h.n h.l (by decide) b e2 e)) _ _ (ownsRow_blk h.l h.blk (by decide)), ownsRow_setCell (ownsRow_keep h.c hk (fun b e e2 => ownsRow_types h.n h.c (by decide) b e2 e)) _ _ (ownsRow_blk h.c h.blk (by decide)), ownsRow_setCell (ownsRow_keep h.t hk (fun b e e2 => ownsRow_types h.n h.t (by decide) b e2 e)) _ _ (ownsRow_blk h.t h.blk (by decide)), ownsRow_setCell hown _ _ hne'⟩
theorem RO.lrow {base : Nat} {w : World} {nb cap : Nat} {lo : Option Addr} {uc ut un : Value} {S : St} (h : RO base w nb (.slice lo S.lots.length cap) uc ut un S) (hp : 0 < S.lots.length) : ∃ g, lo = some ⟨g, 0, none⟩ := by
  rcases h.l.2 with ⟨e, h0⟩ | ⟨g', cap', cur, e, _⟩
  · injection e with e1 e2 e3; omega
  · injection e with e1 e2 e3; exact ⟨g', e1⟩
theorem RO.lot {base : Nat} {w : World} {nb g cap : Nat} {uc ut un : Value} {S : St} (h : RO base w nb (.slice (some ⟨g, 0, none⟩) S.lots.length cap) uc ut un S) {i : Nat} {X : Lot} (hX : S.lots[i]? = some X) :
    (w.cell? ⟨g, i * 4, none⟩ = some (.string X.spice) ∧ w.cell? ⟨g, i * 4 + 1, none⟩ = some (.int .i64 X.grams) ∧ w.cell? ⟨g, i * 4 + 2, none⟩ = some (.int .i64 X.bay) ∧ w.cell? ⟨g, i * 4 + 3, none⟩ = some (.bool X.closed)) ∧ ∀ o, w.frozen? ⟨g, o, none⟩ = false := by
  obtain ⟨hi, rfl⟩ := List.getElem?_eq_some_iff.1 hX
  have hr := ownsRow_rd h.l (lotCells_one _)
  have hc : ∀ f u, f < 4 → (lotCell S.lots[i])[f]? = some u → w.cell? ⟨g, i * 4 + f, none⟩ = some u := fun f u hf hu => by
    rcases hr.2.2 with ⟨_, e⟩ | ⟨g', o, c, e, _, _, hx⟩
    · omega
    · cases e
      have := hx (i * 4 + f) u (by rw [lotCells_get _ _ _ hi hf]; exact hu)
      rwa [Nat.zero_add] at this
  refine ⟨⟨hc 0 _ (by omega) rfl, hc 1 _ (by omega) rfl, hc 2 _ (by omega) rfl, hc 3 _ (by omega) rfl⟩, fun o => ?_⟩
  rcases h.l.2 with ⟨e, _⟩ | ⟨g', cap', cur, e, _, hgg, _⟩
  · cases e
  · cases e
    simp [World.frozen?, hgg]
theorem RO.setLot {base : Nat} {w : World} {nb g cap : Nat} {uc ut un : Value} {S : St} (h : RO base w nb (.slice (some ⟨g, 0, none⟩) S.lots.length cap) uc ut un S) {i : Nat} {X : Lot} (hX : S.lots[i]? = some X) (f : Nat) (hf : f < 4) (x : Lot) (u : Value)
    (hx : lotCell x = (lotCell X).set f u) :
    RO base (w.setCell ⟨g, i * 4 + f, none⟩ u) nb (.slice (some ⟨g, 0, none⟩) S.lots.length cap) uc ut un { S with lots := S.lots.set i x } ∧ Keep (fun k => k = g) w (w.setCell ⟨g, i * 4 + f, none⟩ u) ∧ base ≤ g := by
  obtain ⟨hi, rfl⟩ := List.getElem?_eq_some_iff.1 hX
  have hk : Keep (fun k => k = g) w (w.setCell ⟨g, i * 4 + f, none⟩ u) := (Keep.refl _ _).setCell _ _ (fun _ => rfl)
  have hgne : g ≠ nb := fun e => ownsRow_blk h.l h.blk (by decide) (by rw [e]; rfl)
  have hol := ownsRow_set h.l (i * 4 + f) (by rw [lotCells_length]; omega) u
  rw [← lotCells_set _ _ _ hi hf x u hx] at hol
  refine ⟨⟨h.ge, h.blk.keep hk (fun e => hgne e.symm), ?_, ownsRow_keep h.c hk (fun b e e' => ownsRow_types h.l h.c (by decide) b (by rw [e']; rfl) e), ownsRow_keep h.t hk (fun b e e' => ownsRow_types h.l h.t (by decide) b (by rw [e']; rfl) e), ownsRow_keep h.n hk (fun b e e' => ownsRow_types h.l h.n (by decide) b (by rw [e']; rfl) e)⟩, hk, (ownsRow_lt h.l g rfl).1⟩
  simp only [List.length_set]
  exact hol
theorem rd_ints {w : World} {oo : Option Addr} {ocp : Nat} {ns : List Int} (h : Rd w 1 (.slice oo ns.length ocp) ns.length (icells ns)) (hp : 0 < ns.length) :
    ∃ g o, oo = some ⟨g, o, none⟩ ∧ ∀ W j, Keep (fun _ => False) w W → j < ns.length → W.cell? ⟨g, o + j, none⟩ = some (.int .i64 (ns.getD j 0)) := by
  rcases h.2.2 with ⟨_, e⟩ | ⟨g, o, c, e, _, _, hx⟩
  · omega
  · injection e with e1 e2 e3
    refine ⟨g, o, e1, fun W j hk hj => ?_⟩
    have h1 := hx j _ (icells_get ns j hj)
    exact (hk.cell (p := ⟨g, o + j, none⟩) (World.block_lt_of_cell? w _ h1) (fun h => h)).trans h1
theorem RSt.lot {w : World} {lo : Option Addr} {lc : Nat} {vc vt vn : Value} {S : St} (h : RSt w (.slice lo S.lots.length lc) vc vt vn S) (hp : 0 < S.lots.length) :
    ∃ g o, lo = some ⟨g, o, none⟩ ∧ ∀ (W : World) (i : Nat) (X : Lot), Keep (fun _ => False) w W → S.lots[i]? = some X →
      W.cell? ⟨g, o + i * 4, none⟩ = some (.string X.spice) ∧ W.cell? ⟨g, o + i * 4 + 1, none⟩ = some (.int .i64 X.grams) ∧ W.cell? ⟨g, o + i * 4 + 2, none⟩ = some (.int .i64 X.bay) ∧ W.cell? ⟨g, o + i * 4 + 3, none⟩ = some (.bool X.closed) := by
  rcases h.l.2.2 with ⟨_, e⟩ | ⟨g, o, c, e, _, _, hx⟩
  · omega
  · injection e with e1 e2 e3
    refine ⟨g, o, e1, fun W i X hk hX => ?_⟩
    obtain ⟨hi, rfl⟩ := List.getElem?_eq_some_iff.1 hX
    have hc : ∀ f u, f < 4 → (lotCell S.lots[i])[f]? = some u → W.cell? ⟨g, o + i * 4 + f, none⟩ = some u := fun f u hf hu => by
      have h1 := hx (i * 4 + f) u (by rw [lotCells_get _ _ _ hi hf]; exact hu)
      rw [← Nat.add_assoc] at h1
      exact (hk.cell (p := ⟨g, o + i * 4 + f, none⟩) (World.block_lt_of_cell? w _ h1) (fun h => h)).trans h1
    exact ⟨hc 0 _ (by omega) rfl, hc 1 _ (by omega) rfl, hc 2 _ (by omega) rfl, hc 3 _ (by omega) rfl⟩
end Go.Proofs.YthdkamnclbfehaaGreatDoor
/- cubebref09.Open: what holds at the head of its loop, and what it leaves. -/
namespace Go.Proofs.YthdkamnclbfehaaGreatDoor
set_option linter.unusedSimpArgs false
set_option linter.unusedVariables false
set_option linter.unnecessarySimpa false
open Go.RowKit
theorem runF_bays (f : Nat) (S : St) (a : FA) : (runF f S a).st.bays = S.bays := by
  unfold runF takeF blendF putF touchF testF shutF
  repeat' split
  all_goals rfl
theorem doF_bays (S : St) (s : ByteArray) : (doF runF S s).st.bays = S.bays := by
  unfold doF
  repeat' split
  all_goals first | rfl | exact runF_bays _ _ _
def cutRest (l : List UInt8) : List UInt8 := match cutNL l with | some (_, b) => b | none => []
def RCutNL (W : World) (l : List UInt8) (e : Ending) (w' : World) : Prop :=
  e = .returned (.tuple #[.string (bs (cutPre l)), .string (bs (cutRest l)), .bool (cutNL l).isSome]) ∧ ∃ n, w' = W.drewN n
theorem rcutnl_any {w : World} {l : List UInt8} (hG : Glob w) (hl : l.length ≤ 4294967280) : Calls Tryz.prog 66 #[.string (bs l), .string ⟨#[10]⟩] w (RCutNL w l) := by
  obtain ⟨m, hm⟩ := hG.maxlen
  refine (Tryz.strings_Cut (bs l) ⟨#[10]⟩ m w (by rw [size_bs]; omega) hm).mono ?_
  rintro e w' ⟨rfl, n, rfl⟩
  refine ⟨?_, n, rfl⟩
  have h1 : (bs l).data.toList = l := by simp [bs]
  have h2 : ((⟨#[10]⟩ : ByteArray).data.toList) = [10] := rfl
  rw [h1, h2]
  unfold Lib.cut cutPre cutRest cutNL
  by_cases h : 0 ≤ Lib.index l [10]
  · simp only [if_pos h]; rfl
  · simp only [if_neg h]; rfl
theorem cutRest_true {l : List UInt8} (h : (cutNL l).isSome = true) : cutRest l = l.drop ((cutPre l).length + 1) := by
  unfold cutRest
  rw [(cutNL_true h).1]
structure RRows (base : Nat) (w : World) (vl vc vt vn ln : Value) (S : St) (ls : List ByteArray) : Prop where
  l : w.ownsRow base 174 4 vl S.lots.length (lotCells S.lots)
  c : w.ownsRow base 176 2 vc S.contacts.length (pairCells S.contacts)
  t : w.ownsRow base 178 2 vt S.tests.length (rtestCells S.tests)
  n : w.ownsRow base 9 1 vn S.notes.length (strCells S.notes)
  lr : w.ownsRow base 9 1 ln ls.length (strCells ls)
  sep : ∀ k, vn.ownBlock = some k → ln.ownBlock ≠ some k
theorem RRows.keep {base : Nat} {w w' : World} {vl vc vt vn ln : Value} {S : St} {ls : List ByteArray} (h : RRows base w vl vc vt vn ln S ls) {T : Nat → Prop} (k : Keep T w w') (hT : ∀ b, T b → b < base) : RRows base w' vl vc vt vn ln S ls :=
  ⟨ownsRow_keep h.l k (fun b e f => by have h1 := (ownsRow_lt h.l b e).1; have h2 := hT b f; omega), ownsRow_keep h.c k (fun b e f => by have h1 := (ownsRow_lt h.c b e).1; have h2 := hT b f; omega),
    ownsRow_keep h.t k (fun b e f => by have h1 := (ownsRow_lt h.t b e).1; have h2 := hT b f; omega), ownsRow_keep h.n k (fun b e f => by have h1 := (ownsRow_lt h.n b e).1; have h2 := hT b f; omega),
    ownsRow_keep h.lr k (fun b e f => by have h1 := (ownsRow_lt h.lr b e).1; have h2 := hT b f; omega), h.sep⟩
theorem RRows.st {base : Nat} {w : World} {vl vc vt vn ln : Value} {S : St} {ls : List ByteArray} (h : RRows base w vl vc vt vn ln S ls) : RSt w vl vc vt vn S :=
  ⟨ownsRow_rd h.l (lotCells_one _), ownsRow_rd h.c (pairCells_one _), ownsRow_rd h.t (rtestCells_one _), ownsRow_rd h.n (strCells_one _)⟩
def ROpenPost (base : Nat) (w : World) (bd : Nat) (bv v : Value) (r : OpenR) (e : Ending) (w' : World) : Prop :=
  ∃ v', RDiskAt base w' bd r.D v' ∧ (v'.ownBlock = v.ownBlock ∨ ∃ g, v'.ownBlock = some g ∧ w.heap.size ≤ g) ∧ Keep (fun k => k = bd ∨ v.ownBlock = some k) w w' ∧
    (r.err ≠ 0 → e = .returned (.tuple #[.pointer none, .int .i64 r.err])) ∧
    (r.err = 0 → ∃ hb vl vc vt vn ln, e = .returned (.tuple #[.pointer (some ⟨hb, 0, none⟩), .int .i64 0]) ∧ Blk w' hb #[.pointer (some ⟨bd, 0, none⟩), bv, vl, vc, vt, vn, ln, .bool false] 76 ∧ RRows w.heap.size w' vl vc vt vn ln r.st r.ls ∧ w.heap.size ≤ hb)
theorem RRows.keep2 {base b2 bd : Nat} {w w' : World} {v vl vc vt vn ln : Value} {S : St} {ls : List ByteArray} {D : Dsk} (h : RRows base w vl vc vt vn ln S ls) (k : Keep (fun k => k = bd ∨ v.ownBlock = some k) w w') (h1 : bd < base) (h2 : ∀ k, v.ownBlock = some k → k < base) : RRows base w' vl vc vt vn ln S ls :=
  h.keep k (fun b e => e.elim (fun e => by omega) (fun e => h2 b e))
theorem ropen_fin {base bd hb : Nat} {w W W' : World} {D D2 : Dsk} {v v' bv vl vc vt vn ln : Value} {S : St} {ls : List ByteArray} (hd : RDiskAt base w bd D v) (hblk : Blk W hb #[.pointer (some ⟨bd, 0, none⟩), bv, vl, vc, vt, vn, ln, .bool false] 76)
    (hr : RRows w.heap.size W vl vc vt vn ln S ls) (hbw : w.heap.size ≤ hb) (hkw : Keep (fun _ => False) w W)
    (hk : Keep (fun k => k = bd ∨ v.ownBlock = some k) W W') (hd2 : RDiskAt base W' bd D2 v') (hf : v'.ownBlock = v.ownBlock ∨ ∃ g, v'.ownBlock = some g ∧ W.heap.size ≤ g) :
    ROpenPost base w bd bv v ⟨0, D2, S, ls⟩ (.returned (.tuple #[.pointer (some ⟨hb, 0, none⟩), .int .i64 0])) W' := by
  have hbd := hd.blk.lt
  have hvl : ∀ k, v.ownBlock = some k → k < w.heap.size := fun k e => (ownsRow_lt hd.own k e).2
  have hsz := hkw.size
  exact ⟨v', hd2, hf.imp id (fun ⟨g, h1, h2⟩ => ⟨g, h1, by omega⟩), (hkw.mono (fun _ _ h => h.elim)).trans hk (fun _ _ h => h), fun h => absurd rfl h, fun _ => ⟨hb, vl, vc, vt, vn, ln, rfl, hblk.keep hk (fun e => e.elim (fun e => by omega) (fun e => by have := hvl _ e; omega)), hr.keep hk (fun b e => e.elim (fun e => by omega) (fun e => hvl b e)), hbw⟩⟩
theorem ropen_err {base bd : Nat} {w W W' : World} {D2 : Dsk} {v v' bv : Value} {S : St} {ls : List ByteArray} {er : Int} (he : er ≠ 0) (hkw : Keep (fun _ => False) w W)
    (hk : Keep (fun k => k = bd ∨ v.ownBlock = some k) W W') (hd2 : RDiskAt base W' bd D2 v') (hf : v'.ownBlock = v.ownBlock ∨ ∃ g, v'.ownBlock = some g ∧ W.heap.size ≤ g) :
    ROpenPost base w bd bv v ⟨er, D2, S, ls⟩ (.returned (.tuple #[.pointer none, .int .i64 er])) W' := by
  have hsz := hkw.size
  exact ⟨v', hd2, hf.imp id (fun ⟨g, h1, h2⟩ => ⟨g, h1, by omega⟩), (hkw.mono (fun _ _ h => h.elim)).trans hk (fun _ _ h => h), fun _ => rfl, fun h => absurd h he⟩
def RORel (w : World) (D : Dsk) (g : List Int) (bd hb : Nat) (bv v : Value) (wr : World) : Prop :=
  ∃ (rest : List UInt8) (S : St) (ls : List ByteArray) (at_ fuel : Nat) (vl vc vt vn : Value) (lo : Option Addr) (lc : Nat),
    v = .string (bs rest) ∧ at_ ≤ D.bytes.length ∧ rest = D.bytes.drop at_ ∧ rest.length < fuel ∧ openLoop runF fuel rest S ls at_ = openLoop runF (D.bytes.length + 1) D.bytes (S0 g) [] 0 ∧ Inv ls.length S ∧ ls.length ≤ at_ ∧ S.bays = g ∧
    Blk wr hb #[.pointer (some ⟨bd, 0, none⟩), bv, vl, vc, vt, vn, .slice lo ls.length lc, .bool false] 76 ∧ RRows w.heap.size wr vl vc vt vn (.slice lo ls.length lc) S ls ∧ Keep (fun _ => False) w wr
def strOf : Value → Nat
  | .string s => s.size
  | _ => 0
end Go.Proofs.YthdkamnclbfehaaGreatDoor
/- cubebref09.State; what the law HouseOpens needs of both Opens. -/
namespace Go.Proofs.YthdkamnclbfehaaGreatDoor
set_option linter.unusedSimpArgs false
set_option linter.unusedVariables false
set_option linter.unnecessarySimpa false
open Go.RowKit
set_option maxHeartbeats 1000000 in
set_option maxRecDepth 100000 in
theorem rstate_any {w : World} {hb bd base m : Nat} {bv vl vc vt vn ln : Value} {S : St} {ls : List ByteArray} (hG : Glob w) (hblk : Blk w hb #[.pointer (some ⟨bd, 0, none⟩), bv, vl, vc, vt, vn, ln, .bool false] 76)
    (hr : RRows base w vl vc vt vn ln S ls) (hI : Inv m S) (hm : m ≤ 100000000) : Calls Tryz.prog 35 #[.pointer (some ⟨hb, 0, none⟩)] w (IdxPost w (.string (textF S))) := by
  have H68 := Lib.hid (rtext_any (vc := vc) (vt := vt) hG (ownsRow_rd hr.l (lotCells_one _)) (ownsRow_rd hr.n (strCells_one _)) hI hm)
  obtain ⟨lo, lc, rfl, _⟩ := ownsRow_shape hr.l
  obtain ⟨co, cc, rfl, _⟩ := ownsRow_shape hr.c
  obtain ⟨to_, tc, rfl, _⟩ := ownsRow_shape hr.t
  obtain ⟨no, nc, rfl, _⟩ := ownsRow_shape hr.n
  have b2 := hblk.cell 2
  have b3 := hblk.cell 3
  have b4 := hblk.cell 4
  have b5 := hblk.cell 5
  simp at b2 b3 b4 b5
  clear hr hI hG hblk
  go_enter Tryz.func35, Tryz.ntmps35
  go_wp2_with (go_at_call 68; refine H68.out.mono ?_; rintro e w1 ⟨rfl, hk1⟩; have HK1 := Lib.hid hk1; clear hk1)
  go_ret
  exact ⟨rfl, HK1.out⟩
theorem openLoop_inv : ∀ (fuel : Nat) (rest : List UInt8) (S : St) (ls : List ByteArray) (at_ : Nat), Inv ls.length S →
    Inv (openLoop runF fuel rest S ls at_).2.1.length (openLoop runF fuel rest S ls at_).1 ∧ (openLoop runF fuel rest S ls at_).2.1.length ≤ ls.length + fuel := by
  intro fuel
  induction fuel with
  | zero => intro rest S ls at_ h; exact ⟨h, Nat.le_refl _⟩
  | succ k ih =>
    intro rest S ls at_ h
    cases hc : cutNL rest with
    | none =>
      have e : openLoop runF (k + 1) rest S ls at_ = (S, ls, at_) := by
        show (match cutNL rest with | none => _ | some (a, b) => _) = _
        rw [hc]
      rw [e]
      exact ⟨h, by simp⟩
    | some x =>
      obtain ⟨a, b⟩ := x
      by_cases he : (doF runF S (bs a)).err = 0
      · have e : openLoop runF (k + 1) rest S ls at_ = openLoop runF k b (doF runF S (bs a)).st (ls ++ [bs a]) (at_ + (a.length + 1)) := by
          show (match cutNL rest with | none => _ | some (a, b) => _) = _
          rw [hc]
          simp only [if_pos he]
        rw [e]
        have h1 := ih b (doF runF S (bs a)).st (ls ++ [bs a]) (at_ + (a.length + 1)) (by simpa using inv_next h he)
        refine ⟨h1.1, ?_⟩
        have h2 := h1.2
        simp only [List.length_append, List.length_singleton] at h2
        omega
      · have e : openLoop runF (k + 1) rest S ls at_ = (S, ls, at_) := by
          show (match cutNL rest with | none => _ | some (a, b) => _) = _
          rw [hc]
          simp only [if_neg he]
        rw [e]
        exact ⟨h, by simp⟩
theorem openEnd_st (D : Dsk) (r : St × List ByteArray × Nat) : (openEnd D r).st = r.1 ∧ (openEnd D r).ls = r.2.1 := by
  unfold openEnd
  split
  · split <;> exact ⟨rfl, rfl⟩
  · exact ⟨rfl, rfl⟩
theorem openF_inv {D : Dsk} {g : List Int} (h : (openF runF D g).err = 0) : Inv (openF runF D g).ls.length (openF runF D g).st ∧ (openF runF D g).ls.length ≤ D.bytes.length + 1 := by
  unfold openF at h ⊢
  cases hb : baysB g with
  | false => rw [hb] at h; cases h
  | true =>
    cases ho : D.off with
    | true => rw [hb, ho] at h; cases h
    | false =>
      simp only [if_true, Bool.false_eq_true, if_false]
      have h1 := openEnd_st D (openLoop runF (D.bytes.length + 1) D.bytes (S0 g) [] 0)
      have h2 := openLoop_inv (D.bytes.length + 1) D.bytes (S0 g) [] 0 (inv_S0 (baysB_8 hb))
      rw [h1.1, h1.2]
      simpa using h2
theorem openF_take (D : Dsk) (g : List Int) : ∃ er DR SR SQ lr, openF runF D (g.take 10) = ⟨er, DR, SR, lr⟩ ∧ openF runF D g = ⟨er, DR, SQ, lr⟩ ∧ (er = 0 → SQ = SR ∧ Inv lr.length SR ∧ lr.length ≤ D.bytes.length + 1) := by
  by_cases h : g.length ≤ 10
  · rw [List.take_of_length_le h]
    obtain ⟨R, hR⟩ : ∃ R, openF runF D g = R := ⟨_, rfl⟩
    have hi := openF_inv (D := D) (g := g)
    rw [hR] at hi ⊢
    obtain ⟨a, b, c, d⟩ := R
    exact ⟨a, b, c, c, d, rfl, rfl, fun e => ⟨rfl, (hi e).1, (hi e).2⟩⟩
  · have h1 : baysB g = false := by unfold baysB; simp; omega
    have h2 : baysB (g.take 10) = false := by unfold baysB; simp; omega
    refine ⟨2, D, S0 (g.take 10), S0 g, [], ?_, ?_, fun e => absurd e (by decide)⟩
    · unfold openF; rw [h2]; rfl
    · unfold openF; rw [h1]; rfl
theorem app_new {n : Nat} {l : List UInt8} (h : l.length ≤ n) : appendF (newD n) l = (0, { newD n with bytes := l }) := by
  unfold appendF onF newD
  simp only [List.length_nil, Nat.zero_add]
  rw [if_neg (by omega)]
  rfl
theorem fuse_bytes (D : Dsk) (k : Int) : (fuseF D k).bytes = D.bytes := by unfold fuseF; split <;> rfl
structure Twin (w0 w : World) (d x : Nat) (D E : Dsk) (v u : Value) : Prop where
  pair : Pair w0.heap.size w d x D E v u
  pt : ∀ k, PT d x v u k → w0.heap.size ≤ k
  keep : Keep (fun _ => False) w0 w
theorem Twin.idle {w0 w w' : World} {d x : Nat} {D E : Dsk} {v u : Value} (h : Twin w0 w d x D E v u) (k : Keep (fun _ => False) w w') : Twin w0 w' d x D E v u :=
  ⟨h.pair.keep k (fun _ _ h => h), h.pt, h.keep.trans k (fun _ _ h => h)⟩
theorem Twin.chg {w0 w w1 : World} {d x : Nat} {D E D' E' : Dsk} {v u v' u' : Value} (h : Twin w0 w d x D E v u) (p : Pair w0.heap.size w1 d x D' E' v' u' ∧ PChg w d x v u v' u' w1) : Twin w0 w1 d x D' E' v' u' :=
  ⟨p.1, fun k hk => (p.2.fp k hk).elim (h.pt k) (fun e => Nat.le_trans h.keep.size e), h.keep.trans p.2.keep (fun k hk e => by have := h.pt k e; omega)⟩
theorem Twin.a {w0 w w1 : World} {d x : Nat} {D E D' : Dsk} {v u v' : Value} (h : Twin w0 w d x D E v u) (k1 : Keep (fun k => k = d ∨ v.ownBlock = some k) w w1) (h1 : DiskAt w0.heap.size w1 d D' v')
    (f1 : v'.ownBlock = v.ownBlock ∨ ∃ g, v'.ownBlock = some g ∧ w.heap.size ≤ g) : Twin w0 w1 d x D' E v' u := h.chg (h.pair.stepA k1 h1 f1)
theorem Twin.b {w0 w w1 : World} {d x : Nat} {D E E' : Dsk} {v u u' : Value} (h : Twin w0 w d x D E v u) (k1 : Keep (fun k => k = x ∨ u.ownBlock = some k) w w1) (h1 : RDiskAt w0.heap.size w1 x E' u')
    (f1 : u'.ownBlock = u.ownBlock ∨ ∃ g, u'.ownBlock = some g ∧ w.heap.size ≤ g) : Twin w0 w1 d x D E' v u' := h.chg (h.pair.stepB k1 h1 f1)
end Go.Proofs.YthdkamnclbfehaaGreatDoor
/- cubebref09.Do: take. -/
namespace Go.Proofs.YthdkamnclbfehaaGreatDoor
set_option linter.unusedSimpArgs false
set_option linter.unusedVariables false
set_option linter.unnecessarySimpa false
open Go.RowKit
set_option maxHeartbeats 20000000 in
set_option maxRecDepth 100000 in
theorem rdo_take {w : World} {vl vc vt vn bv : Value} {S : St} {m : Nat} {s wd nm : ByteArray} {ns : List Int} (hG : Glob w) (hb : Rd w 1 bv S.bays.length (icells S.bays)) (hS : RSt w vl vc vt vn S) (hI : Inv m S) (hm : m ≤ 1000000) (hs : s.size ≤ 4096)
    (hread : readR s = some (wd, nm, ns)) (hwd : wd.data.toList = [116, 97, 107, 101]) {n : Int} (hns : ns = [n]) (hn : numB n) (hdo : doF runF S s = takeF S ⟨ns, nm, true⟩) : Calls Tryz.prog 67 #[bv, .agg #[vl, vc, vt, vn], .string s] w (RDoPost w (doF runF S s)) := by
  have H95 : Hid (∀ W, Keep (fun _ => False) w W → Calls Tryz.prog 95 #[.string s] W (ReadSaid W s)) := Lib.hid fun W hk => rread_any (hG.keep hk) hs
  have H96 : Hid (∀ W, Keep (fun _ => False) w W → Calls Tryz.prog 96 #[.int .i64 ((S.lots.length : Int) + 1)] W (ItoaPost W ((S.lots.length : Int) + 1))) := Lib.hid fun W hk => itoa_any (hG.keep hk) (by omega) (by have := hI.l; omega)
  have HREAD := Lib.hid hread; have HNS := Lib.hid hns; have HWD := Lib.hid hwd; have HDF := Lib.hid hdo; clear hns hwd hdo; have HG := Lib.hid hG; have HBV := Lib.hid hb; have HST := Lib.hid hS; have HI := Lib.hid hI
  have hl20 := hI.l
  have hc2 := hI.c
  have ht2 := hI.t
  have hn2 := hI.n
  obtain ⟨lo, lc, hvl, hlc, _⟩ := hS.l.shape
  obtain ⟨co, cc, hvc, hcc, _⟩ := hS.c.shape
  obtain ⟨to_, tc, hvt, htc, _⟩ := hS.t.shape
  obtain ⟨no, nc, hvn, hnc, _⟩ := hS.n.shape
  subst hvl hvc hvt hvn
  obtain ⟨cells, hcells⟩ : ∃ c : Array Value, c = #[.slice lo S.lots.length lc, .slice co S.contacts.length cc, .slice to_ S.tests.length tc, .slice no S.notes.length nc] := ⟨_, rfl⟩
  have hT0 : Blk ((w.alloc (.cells #[.slice lo S.lots.length lc, .slice co S.contacts.length cc, .slice to_ S.tests.length tc, .slice no S.notes.length nc] 74)).alloc (.cells #[.slice none 0 0, .slice none 0 0, .slice none 0 0, .slice none 0 0] 74)) w.heap.size #[.slice lo S.lots.length lc, .slice co S.contacts.length cc, .slice to_ S.tests.length tc, .slice no S.notes.length nc] 74 := (Blk.new _ _ _).alloc _
  have hR0 : Blk ((w.alloc (.cells #[.slice lo S.lots.length lc, .slice co S.contacts.length cc, .slice to_ S.tests.length tc, .slice no S.notes.length nc] 74)).alloc (.cells #[.slice none 0 0, .slice none 0 0, .slice none 0 0, .slice none 0 0] 74)) (w.heap.size + 1) #[.slice none 0 0, .slice none 0 0, .slice none 0 0, .slice none 0 0] 74 := by
    have := Blk.new (w.alloc (.cells #[.slice lo S.lots.length lc, .slice co S.contacts.length cc, .slice to_ S.tests.length tc, .slice no S.notes.length nc] 74)) #[.slice none 0 0, .slice none 0 0, .slice none 0 0, .slice none 0 0] 74
    rwa [World.size_alloc] at this
  have hK0 : Keep (fun _ => False) w ((w.alloc (.cells #[.slice lo S.lots.length lc, .slice co S.contacts.length cc, .slice to_ S.tests.length tc, .slice no S.notes.length nc] 74)).alloc (.cells #[.slice none 0 0, .slice none 0 0, .slice none 0 0, .slice none 0 0] 74)) := ((Keep.refl _ _).alloc _).alloc _
  have HT0 := Lib.hid hT0; have HR0 := Lib.hid hR0; have HK0 := Lib.hid hK0; clear hG hb hS hI hread hs hcells cells hT0 hR0 hK0
  go_enter Tryz.func67, Tryz.ntmps67
  go_upto_region 4 with (go_at_call 95; refine (H95.out _ HK0.out).mono ?_; rintro e w2 ⟨hk2, _, hsay⟩; obtain ⟨vn9, rfl, hrd9⟩ := hsay _ _ _ HREAD.out; obtain ⟨oo, ocp, rfl, _⟩ := hrd9.shape; have HK2 := Lib.hid hk2; have HRD9 := Lib.hid hrd9; clear hk2 hsay hrd9)
  obtain ⟨w3, hw3⟩ : ∃ w3, w3 = w2.alloc (.cells #[.string wd, .string nm, .slice oo ns.length ocp] 169) := ⟨_, rfl⟩
  have h23 : Keep (fun _ => False) w2 w3 := by rw [hw3]; exact (Keep.refl _ _).alloc _
  have HA3 : Hid (Blk w3 w2.heap.size #[.string wd, .string nm, .slice oo ns.length ocp] 169) := Lib.hid (by rw [hw3]; exact Blk.new _ _ _)
  have HT3 := Lib.hid ((HT0.out.keep HK2.out (fun h => h)).keep h23 (fun h => h))
  have HR3 := Lib.hid ((HR0.out.keep HK2.out (fun h => h)).keep h23 (fun h => h))
  have HK3 := Lib.hid ((HK0.out.trans HK2.out (fun _ _ h => h)).trans h23 (fun _ _ h => h))
  have HN3 := Lib.hid (HRD9.out.keep h23 (fun _ _ h => h))
  rw [← hw3]
  clear hw3 h23
  have HSX : Hid (∀ W, Keep (fun _ => False) w3 W → W.cell? ⟨w.heap.size, 0, none⟩ = some (.slice lo S.lots.length lc) ∧ W.cell? ⟨w.heap.size, 1, none⟩ = some (.slice co S.contacts.length cc) ∧ W.cell? ⟨w.heap.size, 2, none⟩ = some (.slice to_ S.tests.length tc) ∧ W.cell? ⟨w.heap.size, 3, none⟩ = some (.slice no S.notes.length nc) ∧ Keep (fun _ => False) w3 W) := Lib.hid fun W hk =>
    have h := HT3.out.keep hk (fun h => h)
    ⟨h.cell 0, h.cell 1, h.cell 2, h.cell 3, hk⟩
  go_cut [11] from 30 to 47 (fun s11 wx => ∃ nb ul uc ut un, s11 = .pointer (some ⟨nb, 0, none⟩) ∧ RO w3.heap.size wx nb ul uc ut un S ∧ Keep (fun _ => False) w3 wx)
  case first =>
    refine rdo_copy (w := w) (S := S) ⟨by kernel_rfl, by kernel_rfl, ⟨_, _, rfl⟩, ⟨_, _, rfl⟩, ⟨_, _, rfl⟩, ⟨_, _, rfl⟩, ⟨_, _, rfl⟩, ⟨_, _, rfl⟩, ⟨_, _, rfl⟩, ⟨_, _, rfl⟩, ⟨_, _, rfl⟩, ⟨_, _, rfl⟩, ⟨_, _, rfl⟩, ⟨_, _, rfl⟩, ⟨_, _, rfl⟩, ⟨_, _, rfl⟩, ⟨_, _, rfl⟩, ⟨_, _, rfl⟩, ⟨_, _, rfl⟩, ⟨_, _, rfl⟩, ⟨_, _, _, rfl, by kernel_rfl⟩⟩ (by kernel_rfl) (by rfl) (by omega) (by omega) (by omega) (by omega) HK3.out HST.out (fun W hk => have h := HSX.out W hk; ⟨h.1, h.2.1, h.2.2.1, h.2.2.2.1⟩) (fun f wx nb hf hro hkx => ?_)
    simp only [updL, copyKs, Act.put, List.setIfInBounds_toArray, List.set_cons_zero, List.set_cons_succ]
    have HRO := Lib.hid hro; clear hro
    go_wp2_with fail
    go_meet
    exact ⟨nb, _, _, _, _, rfl, HRO.out, hkx⟩
  case rest =>
    obtain ⟨nb, ul, uc, ut, un, rfl, hro, hkc⟩ := hcut
    obtain ⟨ulo, ulc, rfl, _⟩ := ownsRow_shape hro.l
    obtain ⟨uco, ucc, rfl, _⟩ := ownsRow_shape hro.c
    obtain ⟨uto, utc, rfl, _⟩ := ownsRow_shape hro.t
    obtain ⟨uno, unc, rfl, _⟩ := ownsRow_shape hro.n
    obtain ⟨x0, x1, x2, x3, _⟩ := rdo_cells (HT3.out.keep hkc (fun h => h)) (HR3.out.keep hkc (fun h => h))
    have HRO := Lib.hid hro; have HKC := Lib.hid hkc
    have HAC : Hid (∀ W, Keep (fun _ => False) w3 W → W.cell? ⟨w2.heap.size, 0, none⟩ = some (.string wd) ∧ W.cell? ⟨w2.heap.size, 1, none⟩ = some (.string nm) ∧ W.cell? ⟨w2.heap.size, 2, none⟩ = some (.slice oo ns.length ocp)) := Lib.hid fun W hk =>
      have h := HA3.out.keep hk (fun h => h)
      ⟨h.cell 0, h.cell 1, h.cell 2⟩
    clear hro hkc
    have hwd := HWD.out
    have hc0 := lit_eq _ _ hwd
    clear hwd
    have HRC : Hid (∀ W, Keep (fun _ => False) wc W → _) := Lib.hid fun W hk => rdo_cells (HT3.out.keep (HKC.out.trans hk (fun _ _ h => h)) (fun h => h)) (HR3.out.keep (HKC.out.trans hk (fun _ _ h => h)) (fun h => h))
    have HAW : Hid (∀ W, Keep (fun _ => False) wc W → _) := Lib.hid fun W hk => HAC.out W (HKC.out.trans hk (fun _ _ h => h))
    have hn0 : ns.length = 1 := by rw [HNS.out]; rfl
    obtain ⟨ng, no', rfl, hnx⟩ := rd_ints HN3.out (by omega)
    have HNC : Hid (∀ W, Keep (fun _ => False) w3 W → W.cell? ⟨ng, no', none⟩ = some (.int .i64 n)) := Lib.hid fun W hk => by
      have h0 := hnx W 0 hk (by omega)
      rw [HNS.out] at h0
      exact h0
    clear hnx
    have HNW : Hid (∀ W, Keep (fun _ => False) wc W → _) := Lib.hid fun W hk => HNC.out W (HKC.out.trans hk (fun _ _ h => h))
    by_cases hfull : S.lots.length = 20
    · have HF : Hid (doF runF S s = ⟨9, S, bs []⟩) := Lib.hid (by rw [HDF.out]; unfold takeF; rw [if_pos hfull])
      have g20 : decide ((20 : Int) ≤ (S.lots.length : Int)) = true := decide_eq_true (by omega)
      clear hfull
      go_wp2_with (go_at_call 96; refine (H96.out _ (HK3.out.trans HKC.out (fun _ _ h => h))).mono ?_; rintro e w5 ⟨rfl, hk5⟩; obtain ⟨t0, t1, t2, t3, r0, r1, r2, r3, f0, f1, f2, f3⟩ := HRC.out _ hk5; obtain ⟨a0, a1, a2⟩ := HAW.out _ hk5; have HKR := Lib.hid hk5; clear hk5)
      (try simp only [Exit.inBlock, Exit.then])
      refine rdo_back (HR3.out.keep (HKC.out.trans (HKR.out) (fun _ _ h => h)) (fun h => h)) rfl rfl rfl rfl rfl (fun wf hkf => ?_)
      exact rdo_no (by decide) HF.out HST.out (((HK3.out.trans HKC.out (fun _ _ h => h)).trans (HKR.out) (fun _ _ h => h)).trans hkf (fun k hk e => by omega))
    · have g20 : decide ((20 : Int) ≤ (S.lots.length : Int)) = false := decide_eq_false (by omega)
      by_cases hz : n = 0
      · have HF : Hid (doF runF S s = ⟨2, S, bs []⟩) := Lib.hid (by rw [HDF.out, HNS.out]; unfold takeF; rw [if_neg hfull]; simp [hz])
        subst hz
        clear hfull
        go_wp2_with (go_at_call 96; refine (H96.out _ (HK3.out.trans HKC.out (fun _ _ h => h))).mono ?_; rintro e w5 ⟨rfl, hk5⟩; obtain ⟨t0, t1, t2, t3, r0, r1, r2, r3, f0, f1, f2, f3⟩ := HRC.out _ hk5; obtain ⟨a0, a1, a2⟩ := HAW.out _ hk5; have n0 := HNW.out _ hk5; have HKR := Lib.hid hk5; clear hk5)
        (try simp only [Exit.inBlock, Exit.then])
        refine rdo_back (HR3.out.keep (HKC.out.trans (HKR.out) (fun _ _ h => h)) (fun h => h)) rfl rfl rfl rfl rfl (fun wf hkf => ?_)
        exact rdo_no (by decide) HF.out HST.out (((HK3.out.trans HKC.out (fun _ _ h => h)).trans (HKR.out) (fun _ _ h => h)).trans hkf (fun k hk e => by omega))
      · have HF : Hid (doF runF S s = ⟨0, addS S ⟨nm, n, -1, false⟩, (⟨#[116, 97, 107, 101, 32]⟩ : ByteArray) ++ itoaB ((S.lots.length : Int) + 1)⟩) := Lib.hid (by rw [HDF.out, HNS.out]; unfold takeF; rw [if_neg hfull]; show (if n = 0 then _ else _) = _; rw [if_neg hz]; exact congrArg (Res.mk 0 _) (ByteArray.ext (by simp [bs])))
        have gz : (n == 0) = false := by simpa using hz
        have si := itoaB_size ((S.lots.length : Int) + 1) (by omega) (by omega)
        have st1 : (9223372036854775807 < 5 + (itoaB ((S.lots.length : Int) + 1)).size) = False := eq_false (by omega)
        clear si hfull hz
        go_wp2_with (go_at_call 96; refine (H96.out _ (HK3.out.trans HKC.out (fun _ _ h => h))).mono ?_; rintro e w5 ⟨rfl, hk5⟩; obtain ⟨t0, t1, t2, t3, r0, r1, r2, r3, f0, f1, f2, f3⟩ := HRC.out _ hk5; obtain ⟨a0, a1, a2⟩ := HAW.out _ hk5; have n0 := HNW.out _ hk5; have HKR := Lib.hid hk5; clear hk5)
        refine wp_world fun wz hwz => ?_
        have HKZ : Hid (Keep (fun _ => False) wc wz) := Lib.hid (by rw [hwz]; exact HKR.out)
        clear hwz
        have HR5 : Hid (RO w3.heap.size wz nb (.slice ulo S.lots.length ulc) (.slice uco S.contacts.length ucc) (.slice uto S.tests.length utc) (.slice uno S.notes.length unc) S) := Lib.hid (HRO.out.keep HKZ.out (fun _ h => h.elim))
        have HK35 : Hid (Keep (fun _ => False) w3 wz) := Lib.hid (HKC.out.trans HKZ.out (fun _ _ h => h))
        have HSQ : Hid (∀ W, Keep (fun k => w3.heap.size ≤ k) wz W → W.cell? ⟨w2.heap.size, 1, none⟩ = some (.string nm) ∧ W.cell? ⟨w2.heap.size, 2, none⟩ = some (.slice (some ⟨ng, no', none⟩) ns.length ocp) ∧ W.cell? ⟨ng, no', none⟩ = some (.int .i64 n)) := Lib.hid fun W hkW => by
          have hnk : Keep (fun k => w3.heap.size ≤ k) w3 W := (HK35.out.mono (fun _ _ h => h.elim)).trans hkW (fun _ _ h => h)
          have hB := HA3.out.keep hnk (fun e => by have := HA3.out.lt; omega)
          have hn := HNC.out _ (Keep.refl _ _)
          exact ⟨hB.cell 1, hB.cell 2, (hnk.cell (p := ⟨ng, no', none⟩) (World.block_lt_of_cell? w3 _ hn) (fun e => by have h1 := World.block_lt_of_cell? w3 _ hn; have h2 : w3.heap.size ≤ ng := e; have h3 : ng < w3.heap.size := h1; omega)).trans hn⟩
        have b0 : wz.cell? ⟨nb, 0, none⟩ = some (.slice ulo S.lots.length ulc) := HR5.out.blk.cell 0
        go_cut [] from 69 to 80 (fun wx => ∃ vx, RO w3.heap.size wx nb vx (.slice uco S.contacts.length ucc) (.slice uto S.tests.length utc) (.slice uno S.notes.length unc) { S with lots := S.lots ++ [⟨nm, n, -1, false⟩] } ∧ Keep (fun k => w3.heap.size ≤ k) wz wx)
        case first =>
          rename_i Jq Kq hJq hKq
          refine region_letters fun Q1 hQ1 => ?_
          have HQ1 := Lib.hid hQ1; clear hQ1
          refine wp_region_noPanic ?_
          refine wp_region_held_drew (S := (fun W => W.cell? ⟨w2.heap.size, 1, none⟩ = some (.string nm) ∧ W.cell? ⟨w2.heap.size, 2, none⟩ = some (.slice (some ⟨ng, no', none⟩) ns.length ocp) ∧ W.cell? ⟨ng, no', none⟩ = some (.int .i64 n))) (by kernel_rfl) (HSQ.out _ ((Keep.refl _ _).drew)) (fun hHeld => ?_)
          refine wpAnyH_letter fun ac0 HQA0 => ?_
          have HS : Hid (ac0.tmps.size = 438) := Lib.hid (by rw [HQA0.out]; kernel_rfl)
          have e11 : ac0.tmps[11]?.getD undef = .pointer (some ⟨nb, 0, none⟩) := by rw [HQA0.out]; kernel_rfl
          have e9 : ac0.tmps[9]?.getD undef = .pointer (some ⟨w2.heap.size, 0, none⟩) := by rw [HQA0.out]; kernel_rfl
          refine wpAnyH_take (i := 0) (oi := _) (v := ?_) rfl (by kernel_rfl) (by kernel_rfl) (by kernel_rfl) (fun _ _ _ h => h) (Or.inl ⟨by rfl, ?_⟩) hHeld ?_
          rotate_left
          · (intro w hSw; obtain ⟨q0, q1, q2⟩ := hSw; go_simp) <;> with_reducible rfl
          refine wpAnyH_letter fun ac1 HQA1 => ?_; replace e11 := po HQA1 e11; replace e9 := po HQA1 e9; have e69 := put_at HQA1 HS.out (by decide); replace HS := Lib.hid (put_sz HQA1 HS.out)
          refine wpAnyH_take (i := 2) (oi := _) (v := ?_) rfl (by kernel_rfl) (by kernel_rfl) (by kernel_rfl) (fun _ _ _ h => h) (Or.inl ⟨by rfl, ?_⟩) hHeld ?_
          rotate_left
          · (intro w hSw; obtain ⟨q0, q1, q2⟩ := hSw; go_simp) <;> with_reducible rfl
          refine wpAnyH_letter fun ac2 HQA2 => ?_; replace e11 := po HQA2 e11; replace e9 := po HQA2 e9; replace e69 := po HQA2 e69; have e71 := put_at HQA2 HS.out (by decide); replace HS := Lib.hid (put_sz HQA2 HS.out)
          refine wpAnyH_take (i := 3) (oi := _) (v := ?_) rfl (by kernel_rfl) (by kernel_rfl) (by kernel_rfl) (fun _ _ _ h => h) (Or.inl ⟨by rfl, ?_⟩) hHeld ?_
          rotate_left
          · (intro w hSw; obtain ⟨q0, q1, q2⟩ := hSw; go_simp) <;> with_reducible rfl
          refine wpAnyH_letter fun ac3 HQA3 => ?_; replace e11 := po HQA3 e11; replace e9 := po HQA3 e9; replace e69 := po HQA3 e69; replace e71 := po HQA3 e71; have e72 := put_at HQA3 HS.out (by decide); replace HS := Lib.hid (put_sz HQA3 HS.out)
          refine wpAnyH_take (i := 4) (oi := _) (v := ?_) rfl (by kernel_rfl) (by kernel_rfl) (by kernel_rfl) (fun _ _ _ h => h) (Or.inl ⟨by rfl, ?_⟩) hHeld ?_
          rotate_left
          · (intro w hSw; obtain ⟨q0, q1, q2⟩ := hSw; go_simp) <;> with_reducible rfl
          refine wpAnyH_letter fun ac4 HQA4 => ?_; replace e11 := po HQA4 e11; replace e9 := po HQA4 e9; replace e69 := po HQA4 e69; replace e71 := po HQA4 e71; replace e72 := po HQA4 e72; have e73 := put_at HQA4 HS.out (by decide); replace HS := Lib.hid (put_sz HQA4 HS.out)
          refine wpAnyH_take (i := 5) (oi := _) (v := ?_) rfl (by kernel_rfl) (by kernel_rfl) (by kernel_rfl) (fun _ _ _ h => h) (Or.inl ⟨by rfl, ?_⟩) hHeld ?_
          rotate_left
          · (intro w hSw; obtain ⟨q0, q1, q2⟩ := hSw; go_simp) <;> with_reducible rfl
          refine wpAnyH_letter fun ac5 HQA5 => ?_; replace e11 := po HQA5 e11; replace e9 := po HQA5 e9; replace e69 := po HQA5 e69; replace e71 := po HQA5 e71; replace e72 := po HQA5 e72; replace e73 := po HQA5 e73; have e74 := put_at HQA5 HS.out (by decide); replace HS := Lib.hid (put_sz HQA5 HS.out)
          refine wpAnyH_take (i := 6) (oi := _) (v := ?_) rfl (by kernel_rfl) (by kernel_rfl) (by kernel_rfl) (fun _ _ _ h => h) (Or.inl ⟨by rfl, ?_⟩) hHeld ?_
          rotate_left
          · (intro w hSw; obtain ⟨q0, q1, q2⟩ := hSw; go_simp) <;> with_reducible rfl
          refine wpAnyH_letter fun ac6 HQA6 => ?_; replace e11 := po HQA6 e11; replace e9 := po HQA6 e9; replace e69 := po HQA6 e69; replace e71 := po HQA6 e71; replace e72 := po HQA6 e72; replace e73 := po HQA6 e73; replace e74 := po HQA6 e74; have e75 := put_at HQA6 HS.out (by decide); replace HS := Lib.hid (put_sz HQA6 HS.out)
          refine wpAnyH_take (i := 7) (oi := _) (v := ?_) rfl (by kernel_rfl) (by kernel_rfl) (by kernel_rfl) (fun _ _ _ h => h) (Or.inl ⟨by rfl, ?_⟩) hHeld ?_
          rotate_left
          · (intro w hSw; obtain ⟨q0, q1, q2⟩ := hSw; go_simp) <;> with_reducible rfl
          refine wpAnyH_letter fun ac7 HQA7 => ?_; replace e11 := po HQA7 e11; replace e9 := po HQA7 e9; replace e69 := po HQA7 e69; replace e71 := po HQA7 e71; replace e72 := po HQA7 e72; replace e73 := po HQA7 e73; replace e74 := po HQA7 e74; replace e75 := po HQA7 e75; have e76 := put_at HQA7 HS.out (by decide); replace HS := Lib.hid (put_sz HQA7 HS.out)
          refine wpAnyH_take (i := 8) (oi := _) (v := ?_) rfl (by kernel_rfl) (by kernel_rfl) (by kernel_rfl) (fun _ _ _ h => h) (Or.inl ⟨by rfl, ?_⟩) hHeld ?_
          rotate_left
          · (intro w hSw; obtain ⟨q0, q1, q2⟩ := hSw; go_simp) <;> with_reducible rfl
          refine wpAnyH_letter fun ac8 HQA8 => ?_; replace e11 := po HQA8 e11; replace e9 := po HQA8 e9; replace e69 := po HQA8 e69; replace e71 := po HQA8 e71; replace e72 := po HQA8 e72; replace e73 := po HQA8 e73; replace e74 := po HQA8 e74; replace e75 := po HQA8 e75; replace e76 := po HQA8 e76; have e77 := put_at HQA8 HS.out (by decide); replace HS := Lib.hid (put_sz HQA8 HS.out)
          refine wpAnyH_ready (rs := [1, 9]) (by kernel_rfl) (by simp) ?_
          refine AllReadyH.cons (o := _) rfl (fun K hK => ?_) (AllReadyH.cons (o := _) rfl (fun K hK => ?_) AllReadyH.nil)
          · go_simp
            refine hK.out _ _ ?_ (fun hHeld => ?_)
            · exact HSQ.out _ ((Keep.refl _ _).drew)
            clear hK K; refine wpAnyH_letter fun ac9 HQA9 => ?_; replace e11 := po HQA9 e11; replace e9 := po HQA9 e9; replace e69 := po HQA9 e69; replace e71 := po HQA9 e71; replace e72 := po HQA9 e72; replace e73 := po HQA9 e73; replace e74 := po HQA9 e74; replace e75 := po HQA9 e75; replace e76 := po HQA9 e76; replace e77 := po HQA9 e77; have e70 := put_at HQA9 HS.out (by decide); replace HS := Lib.hid (put_sz HQA9 HS.out); refine wpAnyH_ready (rs := [9]) (by kernel_rfl) (by simp) ?_; refine AllReadyH.cons (o := _) rfl (fun K hK => ?_) AllReadyH.nil
            go_simp
            refine hK.out _ _ ?_ (fun hHeld => ?_)
            · first | exact HSQ.out _ (((Keep.refl _ _).alloc _).drew) | exact HSQ.out _ (((Keep.refl _ _).drew).alloc _)
            clear hK K; refine wpAnyH_letter fun ac10 HQA10 => ?_; replace e11 := po HQA10 e11; replace e9 := po HQA10 e9; replace e69 := po HQA10 e69; replace e71 := po HQA10 e71; replace e72 := po HQA10 e72; replace e73 := po HQA10 e73; replace e74 := po HQA10 e74; replace e75 := po HQA10 e75; replace e76 := po HQA10 e76; replace e77 := po HQA10 e77; replace e70 := po HQA10 e70; have e78 := put_at HQA10 HS.out (by decide); replace HS := Lib.hid (put_sz HQA10 HS.out); refine wpAnyH_ready (rs := [10]) (by kernel_rfl) (by simp) ?_; refine AllReadyH.cons (o := _) rfl (fun K hK => ?_) AllReadyH.nil
            rw [if_pos (by rfl)]
            have ho6 : ((wz.alloc (.cells #[.string nm, .int .i64 n, .int .i64 (-1), .bool false] 174)).drew).ownsRow w3.heap.size 174 4 (.slice ulo S.lots.length ulc) S.lots.length (lotCells S.lots) := ownsRow_keep HR5.out.l (((Keep.refl (fun _ => False) wz).alloc (.cells #[.string nm, .int .i64 n, .int .i64 (-1), .bool false] 174)).drew) (fun _ _ h => h)
            refine oper_app (.tmp 70) (.tmp 78) 70 70 rfl 174 (.agg #[.string ⟨#[]⟩, .int .i64 0, .int .i64 0, .bool false]) 4 40 Tryz.underlying70 info174 rfl ho6 (evals e70) (((Rd.new wz 4 1 [.string nm, .int .i64 n, .int .i64 (-1), .bool false] 174 rfl (by simp [Value.oneCell']) (by unfold maxLen; omega)).keep ((Keep.refl (fun _ => False) _).drew) (fun _ _ h => h)).src Tryz.underlying70) (evals e78) (by unfold maxLen; omega) (by omega) (Nat.le_trans HK35.out.size (((Keep.refl (fun _ => False) wz).alloc (.cells #[.string nm, .int .i64 n, .int .i64 (-1), .bool false] 174)).drew).size) (fun v' w7 happ => ?_)
            obtain ⟨ao7, cap7, rfl, _⟩ := ownsRow_shape happ.own
            have h6 := HR5.out.keep (((Keep.refl (fun _ => False) wz).alloc (.cells #[.string nm, .int .i64 n, .int .i64 (-1), .bool false] 174)).drew) (fun _ h => h.elim)
            have hb7 := h6.blk.keep happ.keep (fun e => ownsRow_blk h6.l h6.blk (by decide) e)
            have d0 := hb7.cell 0
            have y0 := hb7.free 0
            simp at d0
            have hk7 : Keep (fun k => w3.heap.size ≤ k) wz w7 := ((((Keep.refl (fun k => w3.heap.size ≤ k) wz).alloc _).drew)).trans happ.keep (fun b hb e => (ownsRow_lt ho6 b e).1)
            have HK7 := Lib.hid hk7
            have H7 := Lib.hid (h6.app_l (x := ⟨nm, n, -1, false⟩) happ.keep (by have := happ.own; simpa [lotCells, lotCell] using this))
            clear happ h6 hb7 ho6 hk7
            (try dsimp only)
            refine hK.out _ _ ?_ (fun hHeld => ?_)
            · exact HSQ.out _ HK7.out
            clear hK K; refine wpAnyH_letter fun ac11 HQA11 => ?_; replace e11 := po HQA11 e11; replace e9 := po HQA11 e9; replace e69 := po HQA11 e69; replace e71 := po HQA11 e71; replace e72 := po HQA11 e72; replace e73 := po HQA11 e73; replace e74 := po HQA11 e74; replace e75 := po HQA11 e75; replace e76 := po HQA11 e76; replace e77 := po HQA11 e77; replace e70 := po HQA11 e70; replace e78 := po HQA11 e78; have e79 := put_at HQA11 HS.out (by decide); replace HS := Lib.hid (put_sz HQA11 HS.out)
            refine wpAnyH_take (i := 11) (oi := _) (v := ?_) rfl (by kernel_rfl) (by kernel_rfl) (by kernel_rfl) (fun _ _ _ h => h) (Or.inl ⟨by rfl, ?_⟩) hHeld ?_
            rotate_left
            · (intro w hSw; obtain ⟨q0, q1, q2⟩ := hSw; go_simp) <;> with_reducible rfl
            refine wpAnyH_letter fun ac12 HQA12 => ?_; replace e11 := po HQA12 e11; replace e9 := po HQA12 e9; replace e69 := po HQA12 e69; replace e71 := po HQA12 e71; replace e72 := po HQA12 e72; replace e73 := po HQA12 e73; replace e74 := po HQA12 e74; replace e75 := po HQA12 e75; replace e76 := po HQA12 e76; replace e77 := po HQA12 e77; replace e70 := po HQA12 e70; replace e78 := po HQA12 e78; replace e79 := po HQA12 e79; have e80 := put_at HQA12 HS.out (by decide); replace HS := Lib.hid (put_sz HQA12 HS.out); refine wpAnyH_ready (rs := [12]) (by kernel_rfl) (by simp) ?_; refine AllReadyH.cons (o := _) rfl (fun K hK => ?_) AllReadyH.nil
            go_simp
            refine hK.out _ _ ?_ (fun hHeld => ?_)
            · exact HSQ.out _ (HK7.out.setCell _ _ (fun _ => HRO.out.ge))
            clear hK K
            refine wpAnyH_done (by kernel_rfl) ?_ _
            refine NoPanic.normal ?_
            rw [HQ1.out]
            have g0 := uE0 ac0 [69, 70, 71, 72, 73, 74, 75, 76, 77, 78, 79, 80]
            have g1 := uE HQA1 g0 (by rfl); have g2 := uE HQA2 g1 (by rfl); have g3 := uE HQA3 g2 (by rfl); have g4 := uE HQA4 g3 (by rfl); have g5 := uE HQA5 g4 (by rfl); have g6 := uE HQA6 g5 (by rfl); have g7 := uE HQA7 g6 (by rfl); have g8 := uE HQA8 g7 (by rfl); have g9 := uE HQA9 g8 (by rfl); have g10 := uE HQA10 g9 (by rfl); have g11 := uE HQA11 g10 (by rfl); have g12 := uE HQA12 g11 (by rfl)
            obtain ⟨f, hf⟩ := g12
            rw [HQA0.out] at hf
            refine hKq _ _ (Met.intro (hJq _ _ ?_))
            refine ⟨f 69, f 70, f 71, f 72, f 73, f 74, f 75, f 76, f 77, f 78, f 79, f 80, ⟨_, H7.out, HK7.out.setCell _ _ (fun _ => HRO.out.ge)⟩, hf.trans (by kernel_rfl)⟩
          · go_simp
            refine hK.out _ _ ?_ (fun hHeld => ?_)
            · first | exact HSQ.out _ (((Keep.refl _ _).alloc _).drew) | exact HSQ.out _ (((Keep.refl _ _).drew).alloc _)
            clear hK K; refine wpAnyH_letter fun ac9 HQA9 => ?_; replace e11 := po HQA9 e11; replace e9 := po HQA9 e9; replace e69 := po HQA9 e69; replace e71 := po HQA9 e71; replace e72 := po HQA9 e72; replace e73 := po HQA9 e73; replace e74 := po HQA9 e74; replace e75 := po HQA9 e75; replace e76 := po HQA9 e76; replace e77 := po HQA9 e77; have e78 := put_at HQA9 HS.out (by decide); replace HS := Lib.hid (put_sz HQA9 HS.out)
            have b0' : (wz.alloc (.cells #[.string nm, .int .i64 n, .int .i64 (-1), .bool false] 174)).cell? ⟨nb, 0, none⟩ = some (.slice ulo S.lots.length ulc) := (HR5.out.keep ((Keep.refl (fun _ => False) wz).alloc (.cells #[.string nm, .int .i64 n, .int .i64 (-1), .bool false] 174)) (fun _ h => h.elim)).blk.cell 0
            refine wpAnyH_ready (rs := [1]) (by kernel_rfl) (by simp) ?_; refine AllReadyH.cons (o := _) rfl (fun K hK => ?_) AllReadyH.nil
            go_simp
            refine hK.out _ _ ?_ (fun hHeld => ?_)
            · first | exact HSQ.out _ (((Keep.refl _ _).alloc _).drew) | exact HSQ.out _ (((Keep.refl _ _).drew).alloc _)
            clear hK K; refine wpAnyH_letter fun ac10 HQA10 => ?_; replace e11 := po HQA10 e11; replace e9 := po HQA10 e9; replace e69 := po HQA10 e69; replace e71 := po HQA10 e71; replace e72 := po HQA10 e72; replace e73 := po HQA10 e73; replace e74 := po HQA10 e74; replace e75 := po HQA10 e75; replace e76 := po HQA10 e76; replace e77 := po HQA10 e77; replace e78 := po HQA10 e78; have e70 := put_at HQA10 HS.out (by decide); replace HS := Lib.hid (put_sz HQA10 HS.out); refine wpAnyH_ready (rs := [10]) (by kernel_rfl) (by simp) ?_; refine AllReadyH.cons (o := _) rfl (fun K hK => ?_) AllReadyH.nil
            rw [if_pos (by rfl)]
            have ho6 : ((wz.alloc (.cells #[.string nm, .int .i64 n, .int .i64 (-1), .bool false] 174)).drew).ownsRow w3.heap.size 174 4 (.slice ulo S.lots.length ulc) S.lots.length (lotCells S.lots) := ownsRow_keep HR5.out.l (((Keep.refl (fun _ => False) wz).alloc (.cells #[.string nm, .int .i64 n, .int .i64 (-1), .bool false] 174)).drew) (fun _ _ h => h)
            refine oper_app (.tmp 70) (.tmp 78) 70 70 rfl 174 (.agg #[.string ⟨#[]⟩, .int .i64 0, .int .i64 0, .bool false]) 4 40 Tryz.underlying70 info174 rfl ho6 (evals e70) (((Rd.new wz 4 1 [.string nm, .int .i64 n, .int .i64 (-1), .bool false] 174 rfl (by simp [Value.oneCell']) (by unfold maxLen; omega)).keep ((Keep.refl (fun _ => False) _).drew) (fun _ _ h => h)).src Tryz.underlying70) (evals e78) (by unfold maxLen; omega) (by omega) (Nat.le_trans HK35.out.size (((Keep.refl (fun _ => False) wz).alloc (.cells #[.string nm, .int .i64 n, .int .i64 (-1), .bool false] 174)).drew).size) (fun v' w7 happ => ?_)
            obtain ⟨ao7, cap7, rfl, _⟩ := ownsRow_shape happ.own
            have h6 := HR5.out.keep (((Keep.refl (fun _ => False) wz).alloc (.cells #[.string nm, .int .i64 n, .int .i64 (-1), .bool false] 174)).drew) (fun _ h => h.elim)
            have hb7 := h6.blk.keep happ.keep (fun e => ownsRow_blk h6.l h6.blk (by decide) e)
            have d0 := hb7.cell 0
            have y0 := hb7.free 0
            simp at d0
            have hk7 : Keep (fun k => w3.heap.size ≤ k) wz w7 := ((((Keep.refl (fun k => w3.heap.size ≤ k) wz).alloc _).drew)).trans happ.keep (fun b hb e => (ownsRow_lt ho6 b e).1)
            have HK7 := Lib.hid hk7
            have H7 := Lib.hid (h6.app_l (x := ⟨nm, n, -1, false⟩) happ.keep (by have := happ.own; simpa [lotCells, lotCell] using this))
            clear happ h6 hb7 ho6 hk7
            (try dsimp only)
            refine hK.out _ _ ?_ (fun hHeld => ?_)
            · exact HSQ.out _ HK7.out
            clear hK K; refine wpAnyH_letter fun ac11 HQA11 => ?_; replace e11 := po HQA11 e11; replace e9 := po HQA11 e9; replace e69 := po HQA11 e69; replace e71 := po HQA11 e71; replace e72 := po HQA11 e72; replace e73 := po HQA11 e73; replace e74 := po HQA11 e74; replace e75 := po HQA11 e75; replace e76 := po HQA11 e76; replace e77 := po HQA11 e77; replace e78 := po HQA11 e78; replace e70 := po HQA11 e70; have e79 := put_at HQA11 HS.out (by decide); replace HS := Lib.hid (put_sz HQA11 HS.out)
            refine wpAnyH_take (i := 11) (oi := _) (v := ?_) rfl (by kernel_rfl) (by kernel_rfl) (by kernel_rfl) (fun _ _ _ h => h) (Or.inl ⟨by rfl, ?_⟩) hHeld ?_
            rotate_left
            · (intro w hSw; obtain ⟨q0, q1, q2⟩ := hSw; go_simp) <;> with_reducible rfl
            refine wpAnyH_letter fun ac12 HQA12 => ?_; replace e11 := po HQA12 e11; replace e9 := po HQA12 e9; replace e69 := po HQA12 e69; replace e71 := po HQA12 e71; replace e72 := po HQA12 e72; replace e73 := po HQA12 e73; replace e74 := po HQA12 e74; replace e75 := po HQA12 e75; replace e76 := po HQA12 e76; replace e77 := po HQA12 e77; replace e78 := po HQA12 e78; replace e70 := po HQA12 e70; replace e79 := po HQA12 e79; have e80 := put_at HQA12 HS.out (by decide); replace HS := Lib.hid (put_sz HQA12 HS.out); refine wpAnyH_ready (rs := [12]) (by kernel_rfl) (by simp) ?_; refine AllReadyH.cons (o := _) rfl (fun K hK => ?_) AllReadyH.nil
            go_simp
            refine hK.out _ _ ?_ (fun hHeld => ?_)
            · exact HSQ.out _ (HK7.out.setCell _ _ (fun _ => HRO.out.ge))
            clear hK K
            refine wpAnyH_done (by kernel_rfl) ?_ _
            refine NoPanic.normal ?_
            rw [HQ1.out]
            have g0 := uE0 ac0 [69, 70, 71, 72, 73, 74, 75, 76, 77, 78, 79, 80]
            have g1 := uE HQA1 g0 (by rfl); have g2 := uE HQA2 g1 (by rfl); have g3 := uE HQA3 g2 (by rfl); have g4 := uE HQA4 g3 (by rfl); have g5 := uE HQA5 g4 (by rfl); have g6 := uE HQA6 g5 (by rfl); have g7 := uE HQA7 g6 (by rfl); have g8 := uE HQA8 g7 (by rfl); have g9 := uE HQA9 g8 (by rfl); have g10 := uE HQA10 g9 (by rfl); have g11 := uE HQA11 g10 (by rfl); have g12 := uE HQA12 g11 (by rfl)
            obtain ⟨f, hf⟩ := g12
            rw [HQA0.out] at hf
            refine hKq _ _ (Met.intro (hJq _ _ ?_))
            refine ⟨f 69, f 70, f 71, f 72, f 73, f 74, f 75, f 76, f 77, f 78, f 79, f 80, ⟨_, H7.out, HK7.out.setCell _ _ (fun _ => HRO.out.ge)⟩, hf.trans (by kernel_rfl)⟩
        case rest =>
          obtain ⟨vx, h8, hk8⟩ := hcut
          obtain ⟨ao7, cap7, hvx, _⟩ := ownsRow_shape h8.l
          subst hvx
          simp only [List.length_append, List.length_singleton] at h8
          obtain ⟨w8, rfl⟩ : ∃ w8, w8 = wc := ⟨_, rfl⟩
          have HK38 : Hid (Keep (fun k => w3.heap.size ≤ k) w3 w8) := Lib.hid ((HK35.out.mono (fun _ _ h => h.elim)).trans hk8 (fun _ _ h => h))
          have H8 := Lib.hid h8; clear h8 hk8 b0
          have hrw := HR3.out.keep HK38.out (fun e => by have := HR3.out.lt; omega)
          have r0 := hrw.cell 0
          have r1 := hrw.cell 1
          have r2 := hrw.cell 2
          have r3 := hrw.cell 3
          have f0 := hrw.free 0
          have f1 := hrw.free 1
          have f2 := hrw.free 2
          have f3 := hrw.free 3
          have b0 := H8.out.blk.cell 0
          have b1 := H8.out.blk.cell 1
          have b2 := H8.out.blk.cell 2
          have b3 := H8.out.blk.cell 3
          simp at r0 r1 r2 r3 b0 b1 b2 b3
          have HRW := Lib.hid hrw; clear hrw
          go_wp2_with fail
          (try simp only [Exit.inBlock, Exit.then])
          refine rdo_back HRW.out rfl rfl rfl rfl rfl (fun wf hkf => ?_)
          exact rdo_yes (nb := nb) HF.out (H8.out.keep hkf (fun b e => by have := HR3.out.lt; omega)) ((HK3.out.trans HK38.out (fun k hk e => by have := HK3.out.size; omega)).trans hkf (fun k hk e => by omega)) HK3.out.size
end Go.Proofs.YthdkamnclbfehaaGreatDoor
