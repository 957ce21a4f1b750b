/- index.tree: the tree of ranks of a whole string. -/
import Derived.Test.YteommegadhipkaaGreatDoorFM39
import Derived.Test.YteommegadhipkaaGreatDoorFM30
import Derived.Test.YteommegadhipkaaGreatDoorFM31
import Derived.Test.YteommegadhipkaaGreatDoorFM47

/- index.tree: the tree of ranks of a whole string. -/
namespace Go.Proofs.YteommegadhipkaaGreatDoor
set_option linter.unusedSimpArgs false
set_option linter.unusedVariables false
set_option linter.unnecessarySimpa false
open Go.RowKit Go.Sort Go.Proofs

theorem holds_keep {α : Type} [Inhabited α] {enc : α → Value} {S : Nat → Prop} {w w' : World} {b off : Nat} {d : Array α} (h : Holds enc w b off d) (k : Keep S w w') (hb : b < w.heap.size) (hS : ¬ S b) : Holds enc w' b off d := fun j hj => by
  obtain ⟨h1, h2⟩ := h j hj
  exact ⟨by rw [k.cell (p := ⟨b, off + j, none⟩) hb hS]; exact h1, by rw [k.frozen (p := ⟨b, off + j, none⟩) hb hS]; exact h2⟩
theorem intsB_get (l : List UInt8) (j : Nat) (h : j < l.length) : (intsB l).toArray[j]! = ((l.getD j 0).toNat : Int) := by
  rw [getElem!_pos _ j (by simp [intsB, h])]
  simp [intsB, List.getD, h]
theorem bytes_holds (w : World) (s : ByteArray) : Holds encU (Lib.bytesWorld w 5 s) w.heap.size 0 (intsB s.data.toList).toArray := fun j hj => by
  have hj' : j < s.data.toList.length := by simpa [intsB] using hj
  have hz : s.data.toList.length = s.size := by simp
  have hjs : j < s.size := by omega
  refine ⟨?_, ?_⟩
  · rw [Nat.zero_add, Lib.bytesWorld_cell w 5 s j hjs, intsB_get _ _ hj']
  · have hb := Lib.bytesWorld_at_new w 5 s
    have hc := Lib.bytesWorld_cell w 5 s j hjs
    have hlt : j < (Lib.bytesCells w 5 s).size := by
      unfold World.cell? at hc
      simp only [hb] at hc
      have := (Array.getElem?_eq_some_iff.1 (by simpa using hc)).1
      exact this
    unfold World.frozen?
    simp only [hb, Nat.zero_add]
    simp
    omega
def SortPost (w : World) (b : Nat) (l : List UInt8) (e : Ending) (w' : World) : Prop := e = .returned (.tuple #[]) ∧ Keep (fun k => k = b) w w' ∧ Holds encU w' b 0 (srtI l).toArray
theorem sort_ints (l : List UInt8) : Sort.sort ltInt (intsB l).toArray = (srtI l).toArray := by
  apply Array.toList_inj.1
  rw [sortInt (intsB l)]
  rfl
theorem sortB_any {w : World} {b cap : Nat} {l : List UInt8} (h : Holds encU w b 0 (intsB l).toArray) (hb : b < w.heap.size) (hl : l.length ≤ 201) :
    Calls Tryz.prog 53 #[.slice (some ⟨b, 0, none⟩) l.length cap] w (SortPost w b l) := by
  have hz : (intsB l).toArray.size = l.length := by simp [intsB]
  have hcon := sb_Sort b 0 cap (intsB l).toArray w h hb (by rw [hz]; omega)
  rw [hz, sort_ints] at hcon
  refine hcon.mono ?_
  rintro e w' ⟨rfl, n, os, rfl⟩
  have hs : (srtI l).toArray.size = (intsB l).toArray.size := by rw [hz]; simp [srtI_length]
  exact ⟨rfl, suf_keep hb, holds_grow _ _ _ _ _ _ (by simpa using hb) (holds_putRow _ _ _ _ _ _ (holds_ahead _ _ _ _ _ _ h) hs)⟩
def CompPost (w : World) (b cap : Nat) (l : List UInt8) (e : Ending) (w' : World) : Prop :=
  e = .returned (.slice (some ⟨b, 0, none⟩) (alB l).length cap) ∧ Keep (fun k => k = b) w w' ∧ ∀ j u, (bcells (alB l))[j]? = some u → w'.cell? ⟨b, 0 + j, none⟩ = some u
theorem compB_any {w : World} {b cap : Nat} {l : List UInt8} (h : Holds encU w b 0 (srtI l).toArray) (hb : b < w.heap.size) (hl : l.length ≤ 201) (hcap : l.length ≤ cap) :
    Calls Tryz.prog 55 #[.slice (some ⟨b, 0, none⟩) l.length cap] w (CompPost w b cap l) := by
  have hz : (srtI l).toArray.size = l.length := by simp [srtI_length]
  have hcon := Tryz.slices_Compact_f190 encU (fun _ => rfl) (EqlAt.intD Tryz.prog 5 .u8) (NeqAt.intD Tryz.prog 5 .u8) 0 (fun w => by kernel_rfl) b 0 cap (srtI l).toArray w h (by rw [hz]; omega) (by rw [hz]; omega)
  have hal : Lib.compactUpTo (srtI l).toArray (srtI l).toArray.size = alI l := by unfold alI Lib.compact; simp
  rw [hal, hz] at hcon
  refine hcon.mono ?_
  rintro e w' ⟨rfl, q, rfl⟩
  have hle : (alI l).length ≤ l.length := by have := Lib.compact_length_le (srtI l); rw [srtI_length] at this; exact this
  have hsz : (alI l ++ List.replicate (l.length - (alI l).length) 0).toArray.size = (srtI l).toArray.size := by rw [hz]; simp; omega
  have hH := holds_putRow encU (Sort.ahead w q) b 0 (srtI l).toArray (alI l ++ List.replicate (l.length - (alI l).length) 0).toArray (holds_ahead _ _ _ _ _ _ h) hsz
  refine ⟨by rw [alB_length], ?_, fun j u hu => ?_⟩
  · have := suf_keep (enc := encU) (n := q) (off := 0) (os := #[]) (d := (alI l ++ List.replicate (l.length - (alI l).length) 0).toArray) hb
    unfold sortWorld at this
    rw [grow_empty] at this
    exact this
  · have hj : j < (alB l).length := by have := (List.getElem?_eq_some_iff.1 hu).1; rwa [bcells_length] at this
    have hj2 : j < (alI l).length := by rw [← alB_length]; exact hj
    have hc := (hH j (by simp; omega)).1
    rw [hc]
    rw [bcells_get _ _ hj] at hu
    cases hu
    rw [getElem!_pos _ j (by simp; omega)]
    simp only [List.getElem_toArray, List.getElem_append_left hj2]
    have e1 : (alI l)[j] = (((alB l).getD j 0).toNat : Int) := by
      have := alB_ints l
      have h3 : (intsB (alB l))[j]'(by simpa [intsB] using hj) = (alI l)[j] := by simp only [this]
      rw [← h3]
      simp [intsB, List.getD, hj]
    rw [e1]
def TreePost (w : World) (l : List UInt8) (e : Ending) (w' : World) : Prop :=
  ∃ b, e = .returned (.pointer (some ⟨b, 0, none⟩)) ∧ WTAt (fun k => w.heap.size ≤ k ∧ k < w'.heap.size) w' (treeF l) b ∧ Keep (fun _ => False) w w'
set_option maxHeartbeats 2000000 in
set_option maxRecDepth 100000 in
theorem tree_any {w : World} {s : ByteArray} (h1 : 1 ≤ s.size) (hs : s.size ≤ 201) : Calls Tryz.prog 24 #[.string s] w (TreePost w s.data.toList) := by
  have hz : s.data.toList.length = s.size := by simp
  obtain ⟨l, hl⟩ : ∃ l, s.data.toList = l := ⟨_, rfl⟩
  have hcv := fun W => Lib.run_convert_string_bytes (P := Tryz.prog) W 9 54 5 s Tryz.underlying9 Tryz.underlying54 Tryz.underlying5
  have hH0 := bytes_holds w s
  have hk1 := convKeep w 5 s
  have hb1 : w.heap.size < (Lib.bytesWorld w 5 s).heap.size := by rw [Lib.bytesWorld_size]; omega
  rw [hl] at hz hH0 ⊢
  have hcl : l.length ≤ grownCap w s.size 0 5 := by rw [hz]; exact grownCap_ge _ _ _ _
  have hcm : grownCap w s.size 0 5 ≤ maxLen := grownCap_le_maxLen _ _ _ _ (by unfold maxLen; omega)
  have hsort := sortB_any (cap := grownCap w s.size 0 5) hH0 hb1 (by omega)
  rw [hz] at hsort
  have hn : l ≠ [] := fun e => by rw [e] at hz; simp at hz; omega
  have hap := alB_pos hn
  have hal : (alB l).length ≤ l.length := by
    have := Lib.compact_length_le (srtI l)
    rw [srtI_length] at this
    rw [alB_length]
    exact this
  have HSORT := Lib.hid hsort; have HK1 := Lib.hid hk1; have HB1 := Lib.hid hb1; have HZ := Lib.hid hz; have HL := Lib.hid hl; have HCL := Lib.hid hcl; have HCM := Lib.hid hcm; have HAP := Lib.hid (And.intro hap hal)
  clear hsort hk1 hb1 hcl hcm hap hn hH0 hl hal
  go_enter Tryz.func24, Tryz.ntmps24
  go_wp2_with (first
    | (go_at_call 53; refine HSORT.out.mono ?_; rintro e w2 ⟨rfl, hk2, hh2⟩; have hz2 : w.heap.size < w2.heap.size := Nat.lt_of_lt_of_le HB1.out hk2.size; have HK2 := Lib.hid hk2; have HH2 := Lib.hid hh2; clear hk2 hh2)
    | (go_at_call 55; have hcomp := compB_any (w := Lib.bytesWorld w2 5 s) (cap := grownCap w s.size 0 5) (holds_keep HH2.out (convKeep w2 5 s) hz2 (fun h => h)) (by rw [Lib.bytesWorld_size]; omega) (by omega) HCL.out; rw [HZ.out] at hcomp; refine hcomp.mono ?_; clear hcomp; rintro e w4 ⟨rfl, hk4, hx4⟩; have HK4 := Lib.hid hk4; have HX4 := Lib.hid hx4; clear hk4 hx4)
    | (go_at_call 54; have hsv := (convCell w2 s (by omega)).keep HK4.out (fun b e (h : b = w.heap.size) => by have := Option.some.inj (show some w2.heap.size = some b from e); omega); rw [HL.out] at hsv; have hg := grow_any (alB l).length (w := w4) (sv := .slice (some ⟨w2.heap.size, 0, none⟩) s.size (grownCap w2 s.size 0 5)) (av := .slice (some ⟨w.heap.size, 0, none⟩) (alB l).length (grownCap w s.size 0 5)) (s := l) (al := alB l) (Nat.le_refl _) HAP.out.1 (by omega) (by have := HAP.out.2; omega) hsv ⟨by simp [bcells_length], bcells_one _, .inr ⟨w.heap.size, 0, _, rfl, by have := HAP.out.2; have := HCL.out; omega, HCM.out, HX4.out⟩⟩; refine hg.mono ?_; clear hg hsv; rintro e w5 ⟨b, rfl, hb5, ht5, hk5⟩; have HB5 := Lib.hid hb5; have HT5 := Lib.hid ht5; have HK5 := Lib.hid hk5; clear hb5 ht5 hk5))
  go_ret
  have hz4 := HK4.out.size
  have k12 : Keep (fun _ => False) w w2 := HK1.out.trans HK2.out (fun i hi e => by omega)
  have k24 : Keep (fun _ => False) w w4 := (k12.trans (convKeep w2 5 s) (fun _ _ h => h)).trans HK4.out (fun i hi e => by omega)
  refine ⟨b, rfl, wt_mono (fun i hi => hi.elim (fun h => by have h' : w4.heap.size ≤ i := h.1; have h2 : i < w5.heap.size := h.2; have := k24.size; omega) (fun h => by have := Option.some.inj (show some w.heap.size = some i from h); have := HK5.out.size; have := HK4.out.size; have hb := Lib.bytesWorld_size w2 5 s; omega)) _ _ HT5.out, k24.trans HK5.out (fun _ _ h => h)⟩
end Go.Proofs.YteommegadhipkaaGreatDoor
