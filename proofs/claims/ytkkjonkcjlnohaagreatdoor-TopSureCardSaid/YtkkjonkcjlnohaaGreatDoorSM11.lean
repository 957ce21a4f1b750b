/- house: isLine, isSpice. -/
import Derived.Test.YtkkjonkcjlnohaaGreatDoorSM3
import Derived.Test.YtkkjonkcjlnohaaGreatDoorSM5
import Derived.Shelf.Abstract
import Derived.Lib.AtoiErrMem
import Derived.Lib.SplitLaws
import Derived.Shelf.Bytes.SlCut
import Derived.Laws.BytesArg

/- house: isLine, isSpice. -/
namespace Go.Proofs.YtkkjonkcjlnohaaGreatDoor
set_option linter.unusedSimpArgs false
set_option linter.unusedVariables false
set_option linter.unnecessarySimpa false
open Go.RowKit

/-- The words between single blanks. -/
def words (s : ByteArray) : List ByteArray := Lib.splitB ⟨#[32]⟩ 0 (Lib.countB s ⟨#[32]⟩) s
def badB (c : UInt8) : Bool := decide (c.toNat < 32) || decide (126 < c.toNat)
def isLineB (s : ByteArray) : Bool := decide (s.size ≤ 200) && (!Lib.containsS (words s) ⟨#[]⟩ && !s.data.toList.any badB)
def badS (c : UInt8) : Bool := decide (c.toNat < 97) || decide (122 < c.toNat)
def isSpiceB (s : ByteArray) : Bool := decide (s.size ≤ 8) && !s.data.toList.any badS

theorem words_length (s : ByteArray) : (words s).length = Lib.countB s ⟨#[32]⟩ + 1 := Lib.splitB_all ⟨#[32]⟩ (by decide) 0 _ s rfl

theorem convCell (w : World) (s : ByteArray) (hs : s.size ≤ 9223372036854775807) : Rd (Lib.bytesWorld w 5 s) 1 (.slice (some ⟨w.heap.size, 0, none⟩) s.size (grownCap w s.size 0 5)) s.data.toList.length (bcells s.data.toList) := by
  have hl : s.data.toList.length = s.size := by simp
  refine ⟨by simp [bcells_length], bcells_one _, .inr ⟨w.heap.size, 0, grownCap w s.size 0 5, by rw [hl], by rw [hl]; exact grownCap_ge _ _ _ _, grownCap_le_maxLen _ _ _ _ (by unfold maxLen; omega), fun j u hu => ?_⟩⟩
  have hj : j < s.data.toList.length := by
    have := (List.getElem?_eq_some_iff.1 hu).1
    rwa [bcells_length] at this
  rw [bcells_get _ _ hj] at hu
  cases hu
  rw [Nat.zero_add]
  exact Lib.bytesWorld_cell w 5 s j (by omega)
theorem convKeep (w : World) (e : TypeId) (s : ByteArray) : Keep (fun _ => False) w (Lib.bytesWorld w e s) := Keep.ofBelow (Lib.bytesWorld_below w e s) _

theorem bad_any (c : Int) (w : World) (h0 : 0 ≤ c) (h1 : c < 256) : Calls Tryz.prog 70 #[.int .u8 c] w fun e w' => e = .returned (.bool (decide (c < 32) || decide (126 < c))) ∧ w = w' := by
  by_cases h : c < 32
  · have hd : decide (c < 32) = true := by simpa using h
    go_enter Tryz.func70, Tryz.ntmps70
    go_wp2
    go_ret
    exact ⟨by rw [hd]; rfl, rfl⟩
  · have hd : decide (c < 32) = false := by simpa using h
    have HD := Lib.hid hd
    go_enter Tryz.func70, Tryz.ntmps70
    go_wp2
    go_ret
    exact ⟨by first | rfl | (rw [HD.out]; rfl), rfl⟩
theorem badS_any (c : Int) (w : World) (h0 : 0 ≤ c) (h1 : c < 256) : Calls Tryz.prog 101 #[.int .u8 c] w fun e w' => e = .returned (.bool (decide (c < 97) || decide (122 < c))) ∧ w = w' := by
  by_cases h : c < 97
  · have hd : decide (c < 97) = true := by simpa using h
    go_enter Tryz.func101, Tryz.ntmps101
    go_wp2
    go_ret
    exact ⟨by rw [hd]; rfl, rfl⟩
  · have hd : decide (c < 97) = false := by simpa using h
    have HD := Lib.hid hd
    go_enter Tryz.func101, Tryz.ntmps101
    go_wp2
    go_ret
    exact ⟨by first | rfl | (rw [HD.out]; rfl), rfl⟩
theorem u8_lt (x : UInt8) : x.toNat < 256 := x.toNat_lt
theorem cont_bad {w : World} {v : Value} {l : List UInt8} (hv : Rd w 1 v l.length (bcells l)) (hl : l.length < 9223372036854775807) :
    Calls Tryz.prog 69 #[v, .func (.func 70) #[] #[]] w (IdxPost w (.bool (l.any badB))) :=
  containsFunc_anyB (p := badB) hv (enters_of Tryz.func70 (by kernel_rfl) rfl) (fun w1 hk x hx => (bad_any x.toNat w1 (by omega) (by have := u8_lt x; omega)).mono fun e w2 h => by
    obtain ⟨he, hw⟩ := h
    subst hw
    refine ⟨?_, Keep.refl _ _⟩
    rw [he]; unfold badB
    rw [show decide ((x.toNat : Int) < 32) = decide (x.toNat < 32) from decide_eq_decide.2 (by omega), show decide ((126 : Int) < x.toNat) = decide (126 < x.toNat) from decide_eq_decide.2 (by omega)]) hl
theorem cont_badS {w : World} {v : Value} {l : List UInt8} (hv : Rd w 1 v l.length (bcells l)) (hl : l.length < 9223372036854775807) :
    Calls Tryz.prog 69 #[v, .func (.func 101) #[] #[]] w (IdxPost w (.bool (l.any badS))) :=
  containsFunc_anyB (p := badS) hv (enters_of Tryz.func101 (by kernel_rfl) rfl) (fun w1 hk x hx => (badS_any x.toNat w1 (by omega) (by have := u8_lt x; omega)).mono fun e w2 h => by
    obtain ⟨he, hw⟩ := h
    subst hw
    refine ⟨?_, Keep.refl _ _⟩
    rw [he]; unfold badS
    rw [show decide ((x.toNat : Int) < 97) = decide (x.toNat < 97) from decide_eq_decide.2 (by omega), show decide ((122 : Int) < x.toNat) = decide (122 < x.toNat) from decide_eq_decide.2 (by omega)]) hl

def SplitPost (w : World) (s : ByteArray) (e : Ending) (w' : World) : Prop :=
  e = .returned (.slice (some ⟨w.heap.size, 0, none⟩) (words s).length (words s).length) ∧ w' = w.alloc (.cells ((words s).map Value.string).toArray 9)
theorem split_any {w : World} {s : ByteArray} (hG : Glob w) (hs : s.size ≤ 4096) : Calls Tryz.prog 13 #[.string s, .string ⟨#[32]⟩] w (SplitPost w s) := by
  obtain ⟨m, hm⟩ := hG.maxlen
  refine (Tryz.strings_Split s ⟨#[32]⟩ m w (by omega) hm (by decide)).mono ?_
  rintro e w' ⟨rfl, rfl⟩
  exact ⟨by rw [words_length], rfl⟩
theorem words_cell (w : World) (s : ByteArray) (j : Nat) (hj : j < (words s).length) : (w.alloc (.cells ((words s).map Value.string).toArray 9)).cell? ⟨w.heap.size, 0 + j, none⟩ = some (.string ((words s).getD j ByteArray.empty)) := by
  rw [Nat.zero_add, World.cell?_alloc_new]
  simp [List.getD, hj]

set_option maxHeartbeats 800000 in
theorem isLine_any {w : World} {s : ByteArray} (hG : Glob w) (hs : s.size ≤ 9223372036854775807) : Calls Tryz.prog 44 #[.string s] w (IdxPost w (.bool (isLineB s))) := by
  have hG' := hG; clear hG
  by_cases h : s.size ≤ 200
  · have hd : decide ((s.size : Int) ≤ 200) = true := decide_eq_true (by omega)
    have hl : (words s).length ≤ 9223372036854775807 := by
      have := Lib.countB_le ⟨#[32]⟩ (by decide) s.size s (Nat.le_refl _)
      rw [words_length]; omega
    have hspl := split_any (s := s) hG' (by omega)
    have hcv := fun W => Lib.run_convert_string_bytes (P := Tryz.prog) W 9 65 5 s Tryz.underlying9 Tryz.underlying65 Tryz.underlying5
    have hcon := Tryz.slices_Contains_string w.heap.size 0 (words s).length (words s).length (words s) ⟨#[]⟩ (w.alloc (.cells ((words s).map Value.string).toArray 9)) (Nat.le_refl _) hl (fun j hj => words_cell w s j hj)
    rw [List.take_length] at hcon
    unfold SplitPost at hspl
    obtain ⟨X, hX⟩ : ∃ X, Obj.cells ((words s).map Value.string).toArray 9 = X := ⟨_, rfl⟩
    rw [hX] at hspl hcon
    have hany := cont_bad (w := Lib.bytesWorld (w.alloc X) 5 s) (convCell (w.alloc X) s hs) (by simp; omega)
    rw [World.size_alloc] at hany
    obtain ⟨z, hz⟩ : ∃ z, s.data.toList.any badB = z := ⟨_, rfl⟩
    rw [hz] at hany
    have HZ := Lib.hid hz; clear hz
    have hkeep : Keep (fun _ => False) w (Lib.bytesWorld (w.alloc X) 5 s) := ((Keep.refl _ _).alloc _).trans (convKeep _ _ _) (fun _ _ h => h)
    have HSPL := Lib.hid hspl
    have HCON := Lib.hid hcon
    have HANY := Lib.hid hany
    have HKEEP := Lib.hid hkeep
    clear hspl hcon hany hkeep hX hl hG'
    cases hc : Lib.containsS (words s) ⟨#[]⟩
    · have HC := Lib.hid hc; clear hc
      have HF := Lib.hid (show isLineB s = !z by unfold isLineB; rw [HC.out, decide_eq_true h, HZ.out]; rfl)
      go_enter Tryz.func44, Tryz.ntmps44
      go_wp2_with (first | (go_at_call 13; refine HSPL.out.mono ?_; rintro e w1 ⟨rfl, rfl⟩) | (go_at_call 16; refine HCON.out.mono ?_; rintro e w1 ⟨he, hw⟩; subst hw; rw [HC.out] at he; subst he) | (go_at_call 69; refine HANY.out.mono ?_; rintro e w1 ⟨rfl, hk⟩; have HK := Lib.hid hk; clear hk))
      go_ret
      exact ⟨by rw [HF.out]; rfl, HKEEP.out.trans HK.out (fun _ _ h => h)⟩
    · have HC := Lib.hid hc; clear hc
      have HF := Lib.hid (show isLineB s = false by unfold isLineB; rw [HC.out]; simp)
      go_enter Tryz.func44, Tryz.ntmps44
      go_wp2_with (first | (go_at_call 13; refine HSPL.out.mono ?_; rintro e w1 ⟨rfl, rfl⟩) | (go_at_call 16; refine HCON.out.mono ?_; rintro e w1 ⟨he, hw⟩; subst hw; rw [HC.out] at he; subst he))
      go_ret
      exact ⟨by rw [HF.out]; rfl, (Keep.refl _ _).alloc _⟩
  · have hd : decide ((s.size : Int) ≤ 200) = false := by simp; omega
    have HF := Lib.hid (show isLineB s = false by unfold isLineB; rw [decide_eq_false h]; rfl)
    clear hG'
    go_enter Tryz.func44, Tryz.ntmps44
    go_wp2
    go_ret
    exact ⟨by rw [HF.out]; rfl, Keep.refl _ _⟩

theorem isSpice_any {w : World} {s : ByteArray} (hs : s.size ≤ 9223372036854775807) : Calls Tryz.prog 62 #[.string s] w (IdxPost w (.bool (isSpiceB s))) := by
  by_cases h : s.size ≤ 8
  · have hd : decide ((s.size : Int) ≤ 8) = true := decide_eq_true (by omega)
    have hcv := fun W => Lib.run_convert_string_bytes (P := Tryz.prog) W 9 65 5 s Tryz.underlying9 Tryz.underlying65 Tryz.underlying5
    have hany := cont_badS (w := Lib.bytesWorld w 5 s) (convCell w s hs) (by simp; omega)
    obtain ⟨z, hz⟩ : ∃ z, s.data.toList.any badS = z := ⟨_, rfl⟩
    rw [hz] at hany
    have HZ := Lib.hid hz; clear hz
    have HANY := Lib.hid hany; clear hany
    have HKEEP := Lib.hid (convKeep w 5 s)
    have HF := Lib.hid (show isSpiceB s = !z by unfold isSpiceB; rw [decide_eq_true h, HZ.out]; rfl)
    go_enter Tryz.func62, Tryz.ntmps62
    go_wp2_with (go_at_call 69; refine HANY.out.mono ?_; rintro e w1 ⟨rfl, hk⟩; have HK := Lib.hid hk; clear hk)
    go_ret
    exact ⟨by rw [HF.out]; rfl, HKEEP.out.trans HK.out (fun _ _ h => h)⟩
  · have hd : decide ((s.size : Int) ≤ 8) = false := by simp; omega
    have HF := Lib.hid (show isSpiceB s = false by unfold isSpiceB; rw [decide_eq_false h]; rfl)
    go_enter Tryz.func62, Tryz.ntmps62
    go_wp2
    go_ret
    exact ⟨by rw [HF.out]; rfl, Keep.refl _ _⟩
end Go.Proofs.YtkkjonkcjlnohaaGreatDoor

/- bytes.Cut at a byte 10, and a slice of bytes turned into a string. -/
namespace Go.Proofs.YtkkjonkcjlnohaaGreatDoor
set_option linter.unusedSimpArgs false
set_option linter.unusedVariables false
set_option linter.unnecessarySimpa false
open Go.RowKit

def nums (l : List UInt8) : List Int := l.map fun b => (b.toNat : Int)
theorem nums_length (l : List UInt8) : (nums l).length = l.length := by simp [nums]
theorem bytesOf_nums (l : List UInt8) : Lib.bytesOf (nums l) = l := by
  unfold Lib.bytesOf nums
  rw [List.map_map]
  conv => rhs; rw [← List.map_id l]
  refine List.map_congr_left fun b _ => ?_
  show UInt8.ofNat (Int.toNat (b.toNat : Int)) = b
  rw [Int.toNat_natCast]; exact UInt8.ofNat_toNat
theorem strOfNums_nums (l : List UInt8) : strOfNums (nums l) = bs l := by
  have : (strOfNums (nums l)).toList = l := by rw [Lib.strOfNums_toList, bytesOf_nums]
  rw [ByteArray.toList_eq] at this
  exact ByteArray.ext (Array.toList_inj.1 (by rw [this]; rfl))
theorem nums_getD (l : List UInt8) (j : Nat) (h : j < l.length) : (nums l).getD j 0 = ((l.getD j 0).toNat : Int) := by
  simp [nums, List.getD, h]
theorem Rd.bcell {w : World} {b o n c : Nat} {l : List UInt8} (h : Rd w 1 (.slice (some ⟨b, o, none⟩) n c) l.length (bcells l)) : ∀ j, j < l.length → w.cell? ⟨b, o + j, none⟩ = some (.int .u8 ((nums l).getD j 0)) := fun j hj => by
  rcases h.2.2 with ⟨e, _⟩ | ⟨b', o', c', e, _, _, hx⟩
  · cases e
  · cases e
    rw [nums_getD l j hj]
    exact hx j _ (bcells_get l j hj)
theorem convRd {w : World} {v : Value} {l : List UInt8} (h : Rd w 1 v l.length (bcells l)) : (convert 65 9 v).run Tryz.prog w = .ok (.string (bs l)) w := by
  rcases h.2.2 with ⟨e, h0⟩ | ⟨b, o, c, e, _, _, hx⟩
  · subst e
    rw [List.eq_nil_of_length_eq_zero h0]
    exact run_convert_bytes_nil w 65 5 Tryz.underlying65 Tryz.underlying5 0 0 9 Tryz.underlying9
  · subst e
    rw [← strOfNums_nums]
    exact run_convert_bytes_arg w 65 5 Tryz.underlying65 Tryz.underlying5 b o l.length c (nums l) (nums_length l) h.bcell 9 Tryz.underlying9

/-- The bytes up to the first 10 and those behind it. -/
def cutNL (l : List UInt8) : Option (List UInt8 × List UInt8) :=
  if 0 ≤ Lib.index l [10] then some (l.take (Lib.index l [10]).toNat, l.drop ((Lib.index l [10]).toNat + 1)) else none
def cutPre (l : List UInt8) : List UInt8 := match cutNL l with | some (a, _) => a | none => l
theorem cutNL_some {l a b : List UInt8} (h : cutNL l = some (a, b)) : a.length + 1 ≤ l.length ∧ a = l.take a.length ∧ b = l.drop (a.length + 1) := by
  unfold cutNL at h
  split at h
  · rename_i h0
    have hr := Lib.index_room l [10] h0
    simp only [List.length_singleton] at hr
    simp only [Option.some.injEq, Prod.mk.injEq] at h
    obtain ⟨rfl, rfl⟩ := h
    have : (l.take (Lib.index l [10]).toNat).length = (Lib.index l [10]).toNat := by rw [List.length_take]; omega
    rw [this]
    exact ⟨by omega, rfl, rfl⟩
  · cases h
theorem cutPre_length (l : List UInt8) : (cutPre l).length ≤ l.length := by
  unfold cutPre
  split
  · rename_i a b h
    have := cutNL_some h; omega
  · exact Nat.le_refl _
theorem Rd.take1 {w : World} {ao : Option Addr} {n c : Nat} {l : List UInt8} (h : Rd w 1 (.slice ao n c) l.length (bcells l)) (i : Nat) (hi : i ≤ l.length) : Rd w 1 (.slice ao i c) (l.take i).length (bcells (l.take i)) := by
  have hlen : (l.take i).length = i := by rw [List.length_take]; omega
  refine ⟨by simp [bcells_length], bcells_one _, ?_⟩
  rcases h.2.2 with ⟨e, h0⟩ | ⟨b, o, c', e, h1, h2, hx⟩
  · cases e
    have : i = 0 := by omega
    subst this
    exact .inl ⟨rfl, by simp⟩
  · cases e
    refine .inr ⟨b, o, c, by rw [hlen], by omega, h2, fun j u hu => hx j u ?_⟩
    rw [bcells_take, List.getElem?_take] at hu
    split at hu
    · exact hu
    · cases hu
def CutPost (w : World) (ao : Option Addr) (l : List UInt8) (c : Nat) (e : Ending) (w' : World) : Prop :=
  ∃ v2, e = .returned (.tuple #[.slice ao (cutPre l).length c, v2, .bool (cutNL l).isSome]) ∧ ∃ q, w' = w.drewN q
theorem bcut_any {w : World} {ao : Option Addr} {n c b2 : Nat} {l : List UInt8} (hG : Glob w) (hn : n = l.length) (hv : Rd w 1 (.slice ao n c) l.length (bcells l)) (hsep : w.cell? ⟨b2, 0, none⟩ = some (.int .u8 10)) (hl : l.length < 4294967281) :
    Calls Tryz.prog 38 #[.slice ao n c, .slice (some ⟨b2, 0, none⟩) 1 1] w (CutPost w ao l c) := by
  subst hn
  obtain ⟨m, hm⟩ := hG.maxlen
  have hnc : l.length ≤ c := by
    obtain ⟨_, _, e, h, _⟩ := hv.shape
    cases e; exact h
  have hin : Lib.BytesIn w ao l.length (nums l) := fun hp => by
    rcases hv.2.2 with ⟨e, h0⟩ | ⟨b, o, c', e, h1, h2, hx⟩
    · omega
    · injection e with e1 e2 e3
      subst e1
      exact ⟨b, o, rfl, hv.bcell⟩
  have hin2 : Lib.BytesIn w (some ⟨b2, 0, none⟩) 1 [10] := fun _ => ⟨b2, 0, rfl, fun j hj => by
    have : j = 0 := by omega
    subst this; exact hsep⟩
  refine (Tryz.bytes_Cut_all ao (some ⟨b2, 0, none⟩) l.length c 1 1 (nums l) [10] m w (nums_length l) rfl ?_ (by simp) hin hin2 ?_ hnc hl (by omega) hm).mono ?_
  · intro x hx
    obtain ⟨b, _, rfl⟩ := List.mem_map.1 hx
    have := b.toNat_lt
    omega
  · rintro rfl
    rcases hv.2.2 with ⟨e, h0⟩ | ⟨b, o, c', e, h1, h2, hx⟩
    · injection e
    · injection e with e1
      cases e1
  · rintro e w' ⟨rfl, q, rfl⟩
    rw [bytesOf_nums, show Lib.bytesOf [10] = [10] from rfl]
    unfold Lib.cutV CutPost
    by_cases h0 : 0 ≤ Lib.index l [10]
    · have hr := Lib.index_room l [10] h0
      simp only [List.length_singleton] at hr
      have e1 : cutNL l = some (l.take (Lib.index l [10]).toNat, l.drop ((Lib.index l [10]).toNat + 1)) := by unfold cutNL; rw [if_pos h0]
      have e2 : (cutPre l).length = (Lib.index l [10]).toNat := by
        unfold cutPre; rw [e1]; simp only []; rw [List.length_take]; omega
      rw [if_pos h0, e1, e2]
      exact ⟨_, rfl, q, rfl⟩
    · have e1 : cutNL l = none := by unfold cutNL; rw [if_neg h0]
      have e2 : cutPre l = l := by unfold cutPre; rw [e1]
      rw [if_neg h0, e1, e2]
      exact ⟨_, rfl, q, rfl⟩
theorem cutPre_rd {w : World} {ao : Option Addr} {n c : Nat} {l : List UInt8} (h : Rd w 1 (.slice ao n c) l.length (bcells l)) : Rd w 1 (.slice ao (cutPre l).length c) (cutPre l).length (bcells (cutPre l)) := by
  have h2 := cutPre_length l
  have h3 : cutPre l = l.take (cutPre l).length := by
    unfold cutPre
    split
    · rename_i a b hc
      exact (cutNL_some hc).2.1
    · simp
  have := h.take1 _ h2
  rwa [← h3] at this
end Go.Proofs.YtkkjonkcjlnohaaGreatDoor
