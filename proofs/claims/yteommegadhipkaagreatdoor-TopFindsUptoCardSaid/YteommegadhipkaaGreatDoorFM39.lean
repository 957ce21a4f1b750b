/- index.suffixes: the places of the suffixes in order. -/
import Derived.Test.YteommegadhipkaaGreatDoorFM35
import Derived.Test.YteommegadhipkaaGreatDoorFM32
import Derived.Deep.OwnRows
import Derived.BigQuiet

/- index.suffixes: the places of the suffixes in order. -/
namespace Go.Proofs.YteommegadhipkaaGreatDoor
set_option linter.unusedSimpArgs false
set_option linter.unusedVariables false
set_option linter.unnecessarySimpa false
open Go.RowKit Go.Sort Go.Proofs

theorem extract_drop (s : ByteArray) (k : Nat) : (s.extract k s.size).data.toList = s.data.toList.drop k := by
  have hz : s.data.toList.length = s.size := by simp
  simp
  rw [List.take_of_length_le (by rw [List.length_drop, hz]; exact Nat.le_refl _)]
theorem sufCmp {W : World} {b : Nat} {s : ByteArray} (hc : W.cell? ⟨b, 0, none⟩ = some (.string s)) (x y : Nat) (hx : x ≤ s.size) (hy : y ≤ s.size) :
    Calls Tryz.prog 51 #[.int .i64 x, .int .i64 y, .pointer (some ⟨b, 0, none⟩)] W fun e w' => e = .returned (.int .i64 (Lib.compareBytes (s.data.toList.drop x) (s.data.toList.drop y))) ∧ ∃ q, w' = W.drewN q := by
  have hcmp := fun W => Tryz.strings_Compare (s.extract x s.size) (s.extract y s.size) W
  simp only [extract_drop] at hcmp
  obtain ⟨r, hr⟩ : ∃ r, Lib.compareBytes (s.data.toList.drop x) (s.data.toList.drop y) = r := ⟨_, rfl⟩
  rw [hr] at hcmp ⊢
  clear hr
  go_enter Tryz.func51, Tryz.ntmps51
  go_wp2
  go_quiet (first | (go_at_call 52; refine Calls.quiet_of_same (hcmp _)))
  go_wp2
  go_ret
  exact ⟨rfl, nq, rfl⟩
def encF (l : List UInt8) (x : Fin (l.length + 1)) : Value := .int .i64 (x.val : Int)
theorem sufReads {w : World} {b b1 : Nat} {s : ByteArray} (hc : w.cell? ⟨b, 0, none⟩ = some (.string s)) (hb : b < w.heap.size) (h1 : b1 < w.heap.size) (hne : b ≠ b1) :
    CmpReads Tryz.prog 51 #[.pointer (some ⟨b, 0, none⟩)] (encF s.data.toList) (sufC s.data.toList) b1 0 (s.data.toList.length + 1) w := by
  intro m os dk hs x y
  have hz : s.data.toList.length = s.size := by simp
  have hcell : (sortWorld (encF s.data.toList) w b1 0 m dk os).cell? ⟨b, 0, none⟩ = some (.string s) := by
    unfold sortWorld
    rw [cell?_grow _ _ _ (by simpa using hb), cell?_putRow_other _ _ _ _ _ _ (Or.inl hne)]
    exact hc
  exact sufCmp hcell x.val y.val (by have := x.isLt; omega) (by have := y.isLt; omega)

def zcells (n : Nat) : List Value := List.replicate n (.int .i64 0)
def rcells (n : Nat) : List Value := (List.range n).map fun i : Nat => Value.int .i64 (i : Int)
theorem rz_set (k m : Nat) : (rcells k ++ zcells (m + 1)).toArray.setIfInBounds k (.int .i64 (k : Int)) = (rcells (k + 1) ++ zcells m).toArray := by
  apply Array.toList_inj.1
  simp only [Array.toList_setIfInBounds, List.toList_toArray]
  have e : (rcells k).length = k := by simp [rcells]
  rw [List.set_append_right _ _ (by omega), e, Nat.sub_self]
  simp [zcells, rcells, List.range_succ, List.replicate_succ]
def SufRel (w : World) (s : ByteArray) (v11 : Value) (wr : World) : Prop :=
  ∃ k : Nat, k ≤ s.size + 1 ∧ v11 = .int .i64 k ∧ Keep (fun _ => False) w wr ∧ wr.heap.size = w.heap.size + 2 ∧ Blk wr w.heap.size #[.string s] 9 ∧ Blk wr (w.heap.size + 1) (rcells k ++ zcells (s.size + 1 - k)).toArray 3
/-- What the call leaves: a row of its own with the suffixes' places in order. -/
def SufPost (w : World) (s : ByteArray) (e : Ending) (w' : World) : Prop :=
  ∃ v, e = .returned v ∧ w'.ownsRow w.heap.size 3 1 v (s.size + 1) (icells ((sufL s.data.toList (Lib.bitLen (s.size + 1))).map Int.ofNat)) ∧ Keep (fun _ => False) w w'
theorem madeI (n : Nat) : madeCells #[.int .i64 0] n = (zcells n).toArray := by
  apply Array.toList_inj.1
  rw [toList_madeCells_one]
  rfl
theorem heap_sortedE {α : Type} [Inhabited α] {enc : α → Value} {w : World} {g n off : Nat} {os : Array Obj} {cur : Array Value} {e : TypeId} {fr : Nat × Nat} (d : Array α) (hb : w.heap[g]? = some (.cells cur e fr)) :
    (grow (putRow enc (Sort.ahead w n) g off d) os).heap[g]? = some (.cells (putCells enc off d cur) e fr) := by
  have hg : g < w.heap.size := (Array.getElem?_eq_some_iff.1 hb).1
  rw [heap_grow_old _ _ (by simpa using hg)]
  simp [putRow, mapBlock, Sort.ahead, Array.getElem?_modify, hb, onCells]
theorem suf_keep {α : Type} [Inhabited α] {enc : α → Value} {w : World} {g n off : Nat} {os : Array Obj} {d : Array α} (hg : g < w.heap.size) : Keep (fun k => k = g) w (sortWorld enc w g off n d os) := by
  refine ⟨rfl, rfl, rfl, by simp [sortWorld, grow, putRow, mapBlock, Sort.ahead], fun k hk hne => ?_⟩
  unfold sortWorld
  rw [heap_grow_old _ _ (by simpa using hk)]
  have : ¬ g = k := fun e => hne e.symm
  simp [putRow, mapBlock, Sort.ahead, Array.getElem?_modify, this]
theorem putCells_whole {α : Type} [Inhabited α] {enc : α → Value} (d : Array α) (cur : Array Value) (h : cur.size = d.size) : putCells enc 0 d cur = d.map enc := by
  apply Array.ext
  · simp [putCells, h]
  · intro i h1 h2
    have hi : i < d.size := by simpa using h2
    simp [putCells, hi]
theorem suf_own {w W : World} {n : Nat} {os : Array Obj} {s : ByteArray} {k : Nat} (hs : s.size ≤ 200) (hb : Blk W (w.heap.size + 1) (rcells (s.size + 1)).toArray 3) (hz : s.data.toList.length = s.size) :
    (sortWorld (encF s.data.toList) W (w.heap.size + 1) 0 n (sufA s.data.toList k) os).ownsRow w.heap.size 3 1 (.slice (some ⟨w.heap.size + 1, 0, none⟩) (s.size + 1) (s.size + 1)) (s.size + 1) (icells ((sufL s.data.toList k).map Int.ofNat)) := by
  have hsz : (sufA s.data.toList k).size = s.size + 1 := by rw [(sufA_perm s.data.toList k).1, hz]
  have hl : (sufL s.data.toList k).length = s.size + 1 := by rw [sufL_length, hz]
  have hcs : ((sufA s.data.toList k).map (encF s.data.toList)).toList = icells ((sufL s.data.toList k).map Int.ofNat) := by
    rw [Array.toList_map]
    unfold icells sufL
    rw [List.map_map, List.map_map]
    rfl
  refine ⟨by rw [icells_length, List.length_map, hl]; simp, .inr ⟨w.heap.size + 1, s.size + 1, (sufA s.data.toList k).map (encF s.data.toList), rfl, by omega, ?_, Nat.le_refl _, ?_, by simp [hsz], ?_⟩⟩
  · have h := heap_sortedE (enc := encF s.data.toList) (n := n) (off := 0) (os := os) (sufA s.data.toList k) hb
    rw [putCells_whole _ _ (by simp [rcells, hsz])] at h
    exact h
  · unfold maxLen; omega
  · rw [hcs, Nat.mul_one, List.take_of_length_le (by rw [icells_length, List.length_map, hl]; exact Nat.le_refl _)]
set_option maxHeartbeats 2000000 in
set_option maxRecDepth 100000 in
theorem suffixes_any {w : World} {s : ByteArray} (hs : s.size ≤ 200) : Calls Tryz.prog 23 #[.string s] w (SufPost w s) := by
  have hz : s.data.toList.length = s.size := by simp
  have hmk : ∀ W, (Instr.makeSlice 22 (.int .i64 ((s.size : Int) + 1)) (.int .i64 ((s.size : Int) + 1))).run Tryz.prog W = .ok (.slice (some ⟨W.heap.size, 0, none⟩) (s.size + 1) (s.size + 1)) (W.alloc (.cells (zcells (s.size + 1)).toArray 3)) := fun W => by
    have h := run_make_row' (P := Tryz.prog) 22 3 (.int .i64 0) 8 Tryz.underlying22 (by kernel_rfl) rfl .i64 .i64 (s.size + 1) (by omega) (by omega) W
    rw [madeI] at h
    push_cast at h
    exact h
  have s1 := IntWalk.i64_in ((s.size : Int) + 1) ⟨by omega, by omega⟩
  have HZ := Lib.hid hz; clear hz
  go_enter Tryz.func23, Tryz.ntmps23
  go_wp2
  go_loopw [11] (SufRel w s) (fun v _ => s.size + 1 - (intOf v).toNat)
  case atStart => 
    refine ⟨0, Nat.zero_le _, rfl, ((Keep.refl _ _).alloc _).alloc _, by simp, (Blk.new w _ _).alloc _, ?_⟩
    have h := Blk.new (w.alloc (.cells #[.string s] 9)) (zcells (s.size + 1)).toArray 3
    rw [World.size_alloc] at h
    simpa [rcells] using h
  case round =>
    obtain ⟨k, hk, rfl, hkeep, hsz, hb0, hb1⟩ := hrel
    have hfr : wr.frozen? ⟨w.heap.size + 1, k, none⟩ = false := hb1.free k
    have HK := Lib.hid hkeep; have HSZ := Lib.hid hsz; have HB0 := Lib.hid hb0; have HB1 := Lib.hid hb1
    clear hkeep hsz hb0 hb1
    by_cases hlt : k < s.size + 1
    · have hcell : wr.cell? ⟨w.heap.size + 1, k, none⟩ = some (.int .i64 0) := by
        rw [HB1.out.cell]
        have e : (rcells k).length = k := by simp [rcells]
        have e2 : s.size + 1 - k = (s.size - k) + 1 := by omega
        rw [List.getElem?_toArray, List.getElem?_append_right (by omega), e, Nat.sub_self, e2]
        simp [zcells, List.replicate_succ]
      go_wp2
      go_roundw
      case rel =>
        refine ⟨k + 1, by omega, by go_num, HK.out.setCell _ _ (fun h => by have h' : w.heap.size + 1 < w.heap.size := h; omega), by simpa using HSZ.out, HB0.out.setOther _ _ (by simp), ?_⟩
        have h := HB1.out.set k (.int .i64 (k : Int))
        rw [show s.size + 1 - k = (s.size + 1 - (k + 1)) + 1 by omega, rz_set] at h
        exact h
      case measure => simp [intOf]; omega
    · have hke : k = s.size + 1 := by omega
      subst hke
      clear hlt hfr
      have hb1 := HB1.out
      rw [Nat.sub_self, show zcells 0 = [] from rfl, List.append_nil] at hb1
      have hbl : w.heap.size + 1 < wr.heap.size := by rw [HSZ.out]; omega
      have hcell0 : wr.cell? ⟨w.heap.size, 0, none⟩ = some (.string s) := by rw [HB0.out.cell]; rfl
      have hlen : (allF s.data.toList).size = s.size + 1 := by rw [allF_size, HZ.out]
      have hH : Holds (encF s.data.toList) wr (w.heap.size + 1) 0 (allF s.data.toList) := fun j hj => by
        rw [hlen] at hj
        refine ⟨?_, hb1.free _⟩
        rw [hb1.cell, Nat.zero_add]
        have e1 : (allF s.data.toList)[j]! = ⟨j, by rw [HZ.out]; exact hj⟩ := by
          rw [getElem!_pos _ j (by rw [hlen]; exact hj)]
          simp [allF]
        rw [e1]
        simp [rcells, encF, hj]
      have hcmp := (sufReads (b1 := w.heap.size + 1) hcell0 (by omega) hbl (by omega)).lays
      have hcon := Tryz.slices_SortFunc_eq_f185 (encF s.data.toList) (fun _ => rfl) (sufC s.data.toList) (sufLt_swo s.data.toList) 51 #[.pointer (some ⟨w.heap.size, 0, none⟩)] (w.heap.size + 1) 0 (s.size + 1) (allF s.data.toList) wr (enters_of Tryz.func51 (by kernel_rfl) rfl) (by rw [allF_size]; exact hcmp) hH hbl (by rw [hlen]; omega)
      have hpd : Sort.pdq (ltOf (sufC s.data.toList)) (allF s.data.toList) 0 (allF s.data.toList).size (Lib.bitLen (allF s.data.toList).size) true true = sufA s.data.toList (Lib.bitLen (s.size + 1)) := by rw [hlen]; unfold sufA; rw [hlen]; rfl
      rw [hpd, hlen] at hcon
      have HCON := Lib.hid hcon
      have HBB := Lib.hid hb1
      clear hcon hb1 hbl hcell0 hH hcmp hlen
      go_wp2_with (go_at_call 50; refine HCON.out.mono ?_; rintro e w1 ⟨rfl, n, os, hw1⟩; have HW1 := Lib.hid hw1; clear hw1)
      go_ret
      refine ⟨_, rfl, ?_, ?_⟩
      · rw [HW1.out]
        exact suf_own hs HBB.out HZ.out
      · rw [HW1.out]
        exact HK.out.trans (suf_keep HBB.out.lt) (fun k hk e => by omega)
end Go.Proofs.YteommegadhipkaaGreatDoor
