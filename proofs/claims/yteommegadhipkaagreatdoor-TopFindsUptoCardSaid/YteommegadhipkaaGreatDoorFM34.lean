/- strings.Builder: copyCheck, WriteByte, WriteString at a builder of the call's own. -/
import Derived.Test.YteommegadhipkaaGreatDoorFM1
import Derived.Test.YteommegadhipkaaGreatDoorFM5

/- strings.Builder: copyCheck, WriteByte, WriteString at a builder of the call's own. -/
namespace Go.Proofs.YteommegadhipkaaGreatDoor
set_option linter.unusedSimpArgs false
set_option linter.unusedVariables false
set_option linter.unnecessarySimpa false
open Go.RowKit

theorem info169 : (Tryz.prog.info? 103).map (·.size) = some 2 := by kernel_rfl
theorem lies169 : liesAt Tryz.prog Tryz.prog.depth 103 (2 / Tryz.prog.cellsOf 103) 0 103 1 = true := by kernel_rfl
set_option maxHeartbeats 1000000 in
set_option maxRecDepth 100000 in
theorem copyCheck_any {B b : Nat} {bs : List Value} {w : World} (h : Lib.IsBuilder 103 5 B b bs w) :
    Calls Tryz.prog 91 #[.pointer (some ⟨b, 0, none⟩)] w fun e w' => e = .returned (.tuple #[]) ∧ Lib.BuilderAt 103 5 B b (.pointer (some ⟨b, 0, none⟩)) bs w' ∧ Below B w w' := by
  obtain ⟨j, hj, hjs⟩ := Option.map_eq_some_iff.1 info169
  rcases h with h | h
  · have h0 := h.cell0
    have hsh := h.shape
    have hfz := h.frozen0
    have hu1 : ∀ W, W.shape? b = some (103, 2) → (convert 101 231 (.pointer (some ⟨b, 0, none⟩))).run Tryz.prog W = .ok (.pointer (some ⟨b, 0, none⟩)) W := fun W hW =>
      Lib.run_to_unsafe W ⟨b, 0, none⟩ Tryz.underlying101 Tryz.underlying231 hj (by rw [hjs]; decide) hW (Nat.zero_lt_succ 1)
    have hu2 : ∀ W, W.shape? b = some (103, 2) → (convert 231 101 (.pointer (some ⟨b, 0, none⟩))).run Tryz.prog W = .ok (.pointer (some ⟨b, 0, none⟩)) W := fun W hW =>
      Lib.run_from_unsafe W ⟨b, 0, none⟩ Tryz.underlying231 Tryz.underlying101 hj hW lies169
    have hu1w := hu1 w hsh; have hu2w := hu2 w hsh
    have H := Lib.hid h
    clear h hu1 hu2
    go_enter Tryz.func91, Tryz.ntmps91
    go_wp2
    rw [run_callFunc_extern Tryz.func158 (by kernel_rfl) (by kernel_rfl) (by kernel_rfl) (e := Extern.AbiNoEscape.same) (by kernel_rfl)]
    rw [Lib.run_noEscape]
    simp only [Result.andThen]
    rw [Oper.upon_value]
    go_wp2
    go_end0
    exact ⟨rfl, H.out.used _, (Below.refl B w).setCell (p := ⟨b, 0, none⟩) H.out.1 _⟩
  · have h0 := h.cell0
    have hne := Lib.run_neq_ptr_same w ⟨b, 0, none⟩ Tryz.underlying101 hj
    have H := Lib.hid h
    clear h
    go_enter Tryz.func91, Tryz.ntmps91
    go_wp2
    go_end0
    exact ⟨rfl, H.out, Below.refl B _⟩
set_option maxHeartbeats 2000000 in
set_option maxRecDepth 100000 in
theorem writeByte_any {B b : Nat} {bs : List Value} {c : Int} {w : World} (h : Lib.IsBuilder 103 5 B b bs w) (hlen : bs.length + 1 ≤ 140737488355328) (hBw : B ≤ w.heap.size) :
    Calls Tryz.prog 56 #[.pointer (some ⟨b, 0, none⟩), .int .u8 c] w fun e w' => e = .returned .nilIface ∧ Lib.IsBuilder 103 5 B b (bs ++ [.int .u8 c]) w' ∧ Below B w w' := by
  have HC := Lib.hid (copyCheck_any h)
  clear h
  go_enter Tryz.func56, Tryz.ntmps56
  go_wp2_with (go_at_call 91; refine HC.out.mono ?_)
  rintro e w1 ⟨rfl, h1, hb1⟩
  obtain ⟨hB, v, hbk, hown, hne⟩ := h1
  have c1 : w1.cell? ⟨b, 1, none⟩ = some v := by rw [Lib.cell_of_heap hbk]; rfl
  have hs1 : B ≤ w1.heap.size := Nat.le_trans hBw hb1.size
  have HOWN := Lib.hid hown; have HBK := Lib.hid hbk; have HNE := Lib.hid hne; have HB1 := Lib.hid hb1
  clear hown hbk hne hb1 HC
  go_wp2_with (at_builtin; refine wpList_app (w := w1.alloc (.cells #[.int .u8 c] 5)) rfl (.tmp 11) (.tmp 13) 54 54 rfl 5 (.int .u8 0) 1 1 Tryz.underlying54 info5 rfl (HOWN.out.alloc _) rfl (Src.new (P := Tryz.prog) Tryz.underlying54 w1 1 [.int .u8 c] 5 rfl (by simp [Value.oneCell'])) rfl (by unfold maxLen; omega) (by omega) (by simp; omega) ?_)
  intro v' w2 happ
  have hbl : b < w1.heap.size := (Array.getElem?_eq_some_iff.1 HBK.out).1
  have hb2 : w2.heap[b]? = some (.cells #[.pointer (some ⟨b, 0, none⟩), v] 103 (0, 0)) := by
    rw [happ.keep.block b (by simp; omega) HNE.out]
    exact (Below.heap_alloc w1 _ b hbl).trans HBK.out
  have d1 : w2.cell? ⟨b, 1, none⟩ = some v := by rw [Lib.cell_of_heap hb2]; rfl
  have f1 : w2.frozen? ⟨b, 1, none⟩ = false := Lib.frozen_of_heap hb2 1
  obtain ⟨ao, cap, rfl, _⟩ := ownsRow_shape happ.own
  have HA := Lib.hid happ; have HB2 := Lib.hid hb2
  clear happ hb2 c1
  go_wp2
  go_ret
  have hown2 := HA.out.own
  have hlen2 : (bs ++ [Value.int .u8 c]).length = bs.length + 1 := by simp
  have hkb : Below B w1 w2 := ((Below.refl B w1).alloc hs1 _).trans (HA.out.keep.below (by simp; omega) (fun k hk e => by have := (HOWN.out.lt k e).1; omega))
  refine ⟨rfl, Or.inr (Lib.BuilderAt.put (T := 103) (e := 5) hB HB2.out (bs' := bs ++ [.int .u8 c]) (by rw [hlen2]; exact hown2) (by decide)), (HB1.out.trans hkb).setCell (p := ⟨b, 1, none⟩) hB _⟩
set_option maxHeartbeats 2000000 in
set_option maxRecDepth 100000 in
theorem writeString_any {B b : Nat} {bs : List Value} {s : ByteArray} {w : World} (h : Lib.IsBuilder 103 5 B b bs w) (hlen : bs.length + s.size ≤ 140737488355328) (hBw : B ≤ w.heap.size) :
    Calls Tryz.prog 78 #[.pointer (some ⟨b, 0, none⟩), .string s] w fun e w' => e = .returned (.tuple #[.int .i64 s.size, .nilIface]) ∧ Lib.IsBuilder 103 5 B b (bs ++ bcells s.data.toList) w' ∧ Below B w w' := by
  have HC := Lib.hid (copyCheck_any h)
  have hz : s.data.toList.length = s.size := by simp
  have HZ := Lib.hid hz
  clear h hz
  go_enter Tryz.func78, Tryz.ntmps78
  go_wp2_with (go_at_call 91; refine HC.out.mono ?_)
  rintro e w1 ⟨rfl, h1, hb1⟩
  obtain ⟨hB, v, hbk, hown, hne⟩ := h1
  have c1 : w1.cell? ⟨b, 1, none⟩ = some v := by rw [Lib.cell_of_heap hbk]; rfl
  have hs1 : B ≤ w1.heap.size := Nat.le_trans hBw hb1.size
  have HOWN := Lib.hid hown; have HBK := Lib.hid hbk; have HNE := Lib.hid hne; have HB1 := Lib.hid hb1
  clear hown hbk hne hb1 HC
  go_wp2_with (at_builtin; refine wpList_app (w := w1) rfl (.tmp 12) (.tmp 13) 54 9 rfl 5 (.int .u8 0) 1 1 Tryz.underlying54 info5 rfl HOWN.out rfl (Src.ofString w1 Tryz.underlying9 s) rfl (by unfold maxLen; omega) (by omega) hs1 ?_)
  intro v' w2 happ
  have hbl : b < w1.heap.size := (Array.getElem?_eq_some_iff.1 HBK.out).1
  have hb2 : w2.heap[b]? = some (.cells #[.pointer (some ⟨b, 0, none⟩), v] 103 (0, 0)) := by
    rw [happ.keep.block b hbl HNE.out]
    exact HBK.out
  have d1 : w2.cell? ⟨b, 1, none⟩ = some v := by rw [Lib.cell_of_heap hb2]; rfl
  have f1 : w2.frozen? ⟨b, 1, none⟩ = false := Lib.frozen_of_heap hb2 1
  obtain ⟨ao, cap, rfl, _⟩ := ownsRow_shape happ.own
  have HA := Lib.hid happ; have HB2 := Lib.hid hb2
  clear happ hb2 c1
  go_wp2
  go_ret2
  have hown2 := HA.out.own
  have hlen2 : (bs ++ bcells s.data.toList).length = bs.length + s.size := by rw [List.length_append, bcells_length, HZ.out]
  have hkb : Below B w1 w2 := HA.out.keep.below hs1 (fun k hk e => by have := (HOWN.out.lt k e).1; omega)
  refine ⟨rfl, Or.inr (Lib.BuilderAt.put (T := 103) (e := 5) hB HB2.out (bs' := bs ++ bcells s.data.toList) (by rw [hlen2]; exact hown2) (by decide)), (HB1.out.trans hkb).setCell (p := ⟨b, 1, none⟩) hB _⟩
end Go.Proofs.YteommegadhipkaaGreatDoor
