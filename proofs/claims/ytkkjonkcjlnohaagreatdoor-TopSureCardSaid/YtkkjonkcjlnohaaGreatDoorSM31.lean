/- Rows of one number each: how they lie; sorting and compacting them. -/
import Derived.Test.YtkkjonkcjlnohaaGreatDoorSM30
import Derived.Test.YtkkjonkcjlnohaaGreatDoorSM22
import Derived.Test.YtkkjonkcjlnohaaGreatDoorSM13
import Derived.Lib.SliceRun
import Derived.Test.YtkkjonkcjlnohaaGreatDoorSM1
import Derived.Test.YtkkjonkcjlnohaaGreatDoorSM9

/- Rows of one number each: how they lie; sorting and compacting them. -/
namespace Go.Proofs.YtkkjonkcjlnohaaGreatDoor
set_option linter.unusedSimpArgs false
set_option linter.unusedVariables false
set_option linter.unnecessarySimpa false
open Go.RowKit Go.Sort Go.Proofs

def rat (rows : List Int) (j : Nat) : Int := rows.getD j 0
/-- A slice of rows, owned; each row is one number. -/
structure RowsAt (base : Nat) (w : World) (v : Value) (us : List Value) (rows : List Int) : Prop where
  own : w.ownsRow base 22 1 v rows.length us
  rd : ∀ j, j < rows.length → Rd w 1 (vat us j) 1 (icells [rat rows j])
  sep : ∀ j, j < rows.length → ∀ g, (vat us j).ownBlock = some g → v.ownBlock ≠ some g
  fr : ∀ j, j < rows.length → ∀ g, (vat us j).ownBlock = some g → base ≤ g
theorem RowsAt.len {base : Nat} {w : World} {v : Value} {us : List Value} {rows : List Int} (h : RowsAt base w v us rows) : us.length = rows.length := by have := h.own.1; omega
theorem RowsAt.keep {base : Nat} {w w' : World} {v : Value} {us : List Value} {rows : List Int} (h : RowsAt base w v us rows) (k : Keep (fun _ => False) w w') : RowsAt base w' v us rows :=
  ⟨ownsRow_keep h.own k (fun _ _ h => h), fun j hj => (h.rd j hj).keep k (fun _ _ h => h), h.sep, h.fr⟩
theorem RowsAt.shape {base : Nat} {w : World} {v : Value} {us : List Value} {rows : List Int} (h : RowsAt base w v us rows) {j : Nat} (hj : j < rows.length) : ∃ b o cap, vat us j = .slice (some ⟨b, o, none⟩) 1 cap ∧ 1 ≤ cap ∧ cap ≤ maxLen ∧ w.cell? ⟨b, o, none⟩ = some (.int .i64 (rat rows j)) := by
  rcases (h.rd j hj).2.2 with ⟨_, h0⟩ | ⟨b, o, cap, hv, h1, h2, hx⟩
  · omega
  · exact ⟨b, o, cap, hv, h1, h2, hx 0 _ rfl⟩
theorem RowsAt.one {base : Nat} {w : World} {v : Value} {us : List Value} {rows : List Int} (h : RowsAt base w v us rows) : ∀ u ∈ us, u.oneCell' = true := by
  intro u hu
  obtain ⟨j, hj, rfl⟩ := List.getElem_of_mem hu
  have e : vat us j = us[j] := by simp [vat, List.getD, hj]
  rw [← e]
  exact sl_one (h.rd j (by rw [← h.len]; exact hj))
theorem RowsAt.nil (base : Nat) (w : World) : RowsAt base w (.slice none 0 0) [] [] := ⟨World.ownsRow_nil _ _ _ _, fun j hj => absurd hj (Nat.not_lt_zero _), fun j hj => absurd hj (Nat.not_lt_zero _), fun j hj => absurd hj (Nat.not_lt_zero _)⟩
theorem rat_snoc_lt {rows : List Int} {x : Int} {j : Nat} (h : j < rows.length) : rat (rows ++ [x]) j = rat rows j := by simp [rat, List.getD, List.getElem?_append_left h]
theorem rat_snoc_end {rows : List Int} {x : Int} : rat (rows ++ [x]) rows.length = x := by simp [rat, List.getD]
/-- A row more, that lies behind all that the slice had. -/
theorem RowsAt.snoc {base : Nat} {w w' : World} {v v' u : Value} {us : List Value} {rows : List Int} {x : Int} (h : RowsAt base w v us rows) (ha : App w base 22 1 v rows.length us 1 [u] v' w') (hu : Rd w 1 u 1 (icells [x])) (hs : ∀ g, u.ownBlock = some g → v.ownBlock ≠ some g) (hf : ∀ g, u.ownBlock = some g → base ≤ g) : RowsAt base w' v' (us ++ [u]) (rows ++ [x]) := by
  have hl := h.len
  have blk : ∀ {t : Value} {y : Int}, Rd w 1 t 1 (icells [y]) → ∀ g, t.ownBlock = some g → g < w.heap.size := fun {t y} hr g hg => by
    rcases hr.2.2 with ⟨_, h0⟩ | ⟨b, o, cap, rfl, _, _, hx⟩
    · omega
    · cases hg
      exact World.block_lt_of_cell? _ _ (hx 0 _ rfl)
  refine ⟨by rw [List.length_append]; exact ha.own, fun j hj => ?_, fun j hj g hg => ?_, fun j hj g hg => ?_⟩
  · rw [List.length_append, List.length_singleton] at hj
    by_cases e : j = rows.length
    · subst e
      rw [rat_snoc_end, ← hl, vat_append_end]
      exact hu.keep ha.keep (fun g hg e2 => hs g hg e2)
    · rw [rat_snoc_lt (by omega), vat_append_lt (by omega)]
      exact (h.rd j (by omega)).keep ha.keep (fun g hg e2 => h.sep j (by omega) g hg e2)
  · rw [List.length_append, List.length_singleton] at hj
    have hrd : ∃ y, Rd w 1 (vat (us ++ [u]) j) 1 (icells [y]) ∧ v.ownBlock ≠ some g := by
      by_cases e : j = rows.length
      · subst e
        rw [← hl, vat_append_end] at hg ⊢
        exact ⟨x, hu, hs g hg⟩
      · rw [vat_append_lt (by omega)] at hg ⊢
        exact ⟨_, h.rd j (by omega), h.sep j (by omega) g hg⟩
    obtain ⟨y, hy, hne⟩ := hrd
    have hlt := blk hy g hg
    rcases ha.fresh with e | ⟨g2, e, hge⟩
    · rw [e]; exact hne
    · rw [e]
      intro e2
      have : g2 = g := Option.some.inj e2
      omega
  · rw [List.length_append, List.length_singleton] at hj
    by_cases e : j = rows.length
    · subst e
      rw [← hl, vat_append_end] at hg
      exact hf g hg
    · rw [vat_append_lt (by omega)] at hg
      exact h.fr j (by omega) g hg
def cfR (rows : List Int) {n : Nat} (x y : Fin n) : Int := cmpE [rat rows x.val] [rat rows y.val]
theorem cmpE_one (x y : Int) : cmpE [x] [y] = cmpI x y := by
  simp only [cmpE]
  by_cases h : cmpI x y = 0 <;> simp [h]
theorem swoR (rows : List Int) (n : Nat) : SWO (ltOf (cfR rows (n := n))) where
  irrefl x := by unfold ltOf cfR; rw [decide_eq_false_iff_not, cmpE_one, cmpI_neg]; omega
  trans x y z h1 h2 := by unfold ltOf cfR at *; rw [decide_eq_true_iff, cmpE_one, cmpI_neg] at *; omega
  ntrans x y z h1 h2 := by unfold ltOf cfR at *; rw [decide_eq_false_iff_not, cmpE_one, cmpI_neg] at *; omega
def encR (us : List Value) {n : Nat} (x : Fin n) : Value := vat us x.val
theorem putCells_take {α : Type} [Inhabited α] {enc : α → Value} (d : Array α) (cur : Array Value) (h : d.size ≤ cur.size) : (putCells enc 0 d cur).toList.take d.size = (d.map enc).toList := by
  apply List.ext_getElem
  · simp [putCells]; omega
  · intro i h1 h2
    have hi : i < d.size := by simpa using h2
    simp [putCells, hi]
theorem sort1_keep {α : Type} [Inhabited α] {enc : α → Value} {w : World} {g n off : Nat} {os : Array Obj} {d : Array α} (hg : g < w.heap.size) : Keep (fun k => k = g) w (sortWorld enc w g off n d os) := by
  refine ⟨rfl, rfl, rfl, by simp [sortWorld, grow, putRow, mapBlock, Sort.ahead], fun k hk hne => ?_⟩
  unfold sortWorld
  rw [heap_grow_old _ _ (by simpa using hk)]
  have : ¬ g = k := fun e => hne e.symm
  simp [putRow, mapBlock, Sort.ahead, Array.getElem?_modify, this]
theorem heap_sort1 {α : Type} [Inhabited α] {enc : α → Value} {w : World} {g n : Nat} {os : Array Obj} {cur : Array Value} {e : TypeId} {fr : Nat × Nat} (d : Array α) (hb : w.heap[g]? = some (.cells cur e fr)) :
    (sortWorld enc w g 0 n d os).heap[g]? = some (.cells (putCells enc 0 d cur) e fr) := by
  have hg : g < w.heap.size := (Array.getElem?_eq_some_iff.1 hb).1
  unfold sortWorld
  rw [heap_grow_old _ _ (by simpa using hg)]
  simp [putRow, mapBlock, Sort.ahead, Array.getElem?_modify, hb, onCells]
theorem r1_any {w : World} {u v : Value} {x y : Int} (hu : Rd w 1 u 1 (icells [x])) (hv : Rd w 1 v 1 (icells [y])) :
    Calls Tryz.prog 170 #[u, v] w fun e w' => e = .returned (.int .i64 (cmpE [x] [y])) ∧ w = w' := by
  have HC : Hid (∀ W, w = W → Calls Tryz.prog 168 #[u, v] W fun e w' => e = .returned (.int .i64 (cmpE [x] [y])) ∧ W = w') := Lib.hid (fun W e => by subst e; exact cmpS_any hu hv rfl (by simp))
  obtain ⟨r, hr⟩ : ∃ r, cmpE [x] [y] = r := ⟨_, rfl⟩
  rw [hr] at HC ⊢
  clear hu hv hr
  go_enter Tryz.func170, Tryz.ntmps170
  go_wp2_with (go_at_call 168; refine (HC.out _ rfl).mono ?_; rintro e w' ⟨rfl, rfl⟩)
  go_ret
  exact ⟨rfl, rfl⟩
theorem r2_any {w : World} {u v : Value} {x y : Int} (hu : Rd w 1 u 1 (icells [x])) (hv : Rd w 1 v 1 (icells [y])) :
    Calls Tryz.prog 172 #[u, v] w fun e w' => e = .returned (.bool (decide (x = y))) ∧ Keep (fun _ => False) w w' := by
  have HC : Hid (∀ W, w = W → Calls Tryz.prog 11 #[u, v] W (DrawPost W (.bool (eqJ [x] [y])))) := Lib.hid (fun W e => by subst e; exact eqI_any (l := [x]) (m := [y]) hu hv (by simp))
  have he : eqJ [x] [y] = decide (x = y) := by unfold eqJ; simp
  rw [he] at HC
  obtain ⟨r, hr⟩ : ∃ r, decide (x = y) = r := ⟨_, rfl⟩
  rw [hr] at HC ⊢
  clear hu hv hr he
  go_enter Tryz.func172, Tryz.ntmps172
  go_wp2_with (go_at_call 11; refine (HC.out _ rfl).mono ?_; rintro e w' ⟨rfl, q, rfl⟩)
  go_ret
  exact ⟨rfl, (Keep.refl _ _).drewN _⟩
def perm_r (σ : List Nat) (rows : List Int) : List Int := σ.map (rat rows)
theorem perm_rat {σ : List Nat} {rows : List Int} {j : Nat} (hj : j < σ.length) : rat (perm_r σ rows) j = rat rows (σ.getD j 0) := by simp [rat, perm_r, List.getD, hj]
theorem perm_r_perm {rows : List Int} {σ : List Nat} (hs : σ.Perm (List.range rows.length)) : (perm_r σ rows).Perm rows := by
  have h1 : (perm_r σ rows).Perm ((List.range rows.length).map (rat rows)) := hs.map _
  have h2 : (List.range rows.length).map (rat rows) = rows := by
    apply List.ext_getElem
    · simp
    · intro i h1 h2
      simp [rat, List.getD, h2]
  rw [h2] at h1
  exact h1
/-- slices.SortFunc at rows: the same rows in some order, in place. -/
theorem sortW_rows {base : Nat} {w : World} {v : Value} {us : List Value} {rows : List Int} (h : RowsAt base w v us rows) (hl : rows.length ≤ 1000) :
    Calls Tryz.prog 169 #[v, .func (.func 170) #[] #[]] w fun e w' => e = .returned (.tuple #[]) ∧ ∃ us' rows', rows'.Perm rows ∧ RowsAt base w' v us' rows' ∧ Keep (fun k => v.ownBlock = some k) w w' := by
  have hul := h.len
  cases hr : rows.length with
  | zero =>
    obtain ⟨ao, cap, rfl, _⟩ := ownsRow_shape h.own
    rw [hr]
    refine (Tryz.sortW_none ao cap _ w).mono ?_
    rintro e w' ⟨rfl, rfl⟩
    refine ⟨rfl, us, rows, List.Perm.refl _, ?_, Keep.refl _ _⟩
    have := h
    rw [hr] at this
    exact this
  | succ m =>
    rcases h.own.2 with ⟨_, h0⟩ | ⟨g, cap, cur, hv, hb, hgg, hnc, hcm, hcs, htake⟩
    · omega
    · have hgl : g < w.heap.size := (Array.getElem?_eq_some_iff.1 hgg).1
      subst hv
      have hH : Holds (encR us) w g 0 (allN (m + 1)) := fun j hj => by
        rw [allN_size] at hj
        refine ⟨?_, by simp [World.frozen?, hgg]⟩
        have e1 : (allN (m + 1))[j]! = ⟨j, hj⟩ := by
          rw [getElem!_pos _ _ (by rw [allN_size]; exact hj)]
          simp [allN]
        rw [e1, cell_of_row w g (0 + j) cur 22 (0, 0) hgg, Nat.zero_add]
        have hx : us[j]? = some (vat us j) := vat_get (by omega)
        have hx2 : cur.toList[j]? = some (vat us j) := by
          rw [← hx]
          conv => rhs; rw [← htake]
          rw [List.getElem?_take, if_pos (by omega)]
        rw [Array.getElem?_toList] at hx2
        exact hx2
      have hcmp : CmpLays1 Tryz.prog 170 #[] (encR us) (cfR rows (n := m + 1)) g 0 (allN (m + 1)).size w := by
        intro q os dk hs x y
        have kk : Keep (fun k => k = g) w (sortWorld (encR us) w g 0 q dk os) := sort1_keep hgl
        have hsep : ∀ j, j < rows.length → ∀ b, (vat us j).ownBlock = some b → ¬ b = g := fun j hj b hb e => h.sep j hj b hb (by rw [e]; rfl)
        have hx := (h.rd x.val (by have := x.isLt; omega)).keep kk (hsep _ (by have := x.isLt; omega))
        have hy := (h.rd y.val (by have := y.isLt; omega)).keep kk (hsep _ (by have := y.isLt; omega))
        refine (r1_any hx hy).mono ?_
        rintro e w' ⟨rfl, rfl⟩
        exact ⟨rfl, 0, #[], by rw [grow_empty]; rfl⟩
      have hs := Tryz.slices_SortFunc_f169 (encR us) (fun x => sl_one (h.rd x.val (by have := x.isLt; omega))) (cfR rows (n := m + 1)) (swoR rows (m + 1)) 170 #[] g 0 cap (allN (m + 1)) w (enters_of Tryz.func170 (by kernel_rfl) rfl) hcmp hH hgl (by rw [allN_size]; omega)
      rw [allN_size] at hs
      rw [hr]
      refine hs.mono ?_
      rintro e w' ⟨rfl, d', q, os, hp, _, rfl⟩
      have hd : d'.size = m + 1 := by rw [hp.1, allN_size]
      have hσ : (d'.toList.map (·.val)).Perm (List.range (m + 1)) := by
        have h2 := hp.2.2
        have e1 : (d'.extract 0 (m + 1)) = d' := ext_all d' hd
        have e2 : ((allN (m + 1)).extract 0 (m + 1)) = allN (m + 1) := ext_all _ (allN_size _)
        rw [e1, e2] at h2
        have h3 := h2.map (·.val)
        rw [allN_list] at h3
        exact h3
      obtain ⟨σ, hσe⟩ : ∃ σ, d'.toList.map (·.val) = σ := ⟨_, rfl⟩
      rw [hσe] at hσ
      have hsl : σ.length = m + 1 := by rw [← hσe]; simp [hd]
      have hpl : (perm_r σ rows).length = m + 1 := by simp [perm_r, hsl]
      have hus : (d'.map (encR us)).toList = perm_vs σ us := by
        rw [Array.toList_map, ← hσe]
        unfold perm_vs
        rw [List.map_map]
        rfl
      have hidx : ∀ j, j < m + 1 → σ.getD j 0 < rows.length := fun j hj => by
        have hm : σ.getD j 0 ∈ σ := by
          have : σ.getD j 0 = σ[j] := by simp [List.getD, show j < σ.length by omega]
          rw [this]; exact List.getElem_mem _
        rw [hr]
        exact List.mem_range.1 (hσ.mem_iff.1 hm)
      have hgx := heap_sort1 (enc := encR us) (n := q) (os := os) d' hgg
      refine ⟨rfl, perm_vs σ us, perm_r σ rows, perm_r_perm (by rw [hr]; exact hσ), ⟨?_, fun j hj => ?_, fun j hj b hb => ?_, fun j hj b hb => ?_⟩, (sort1_keep hgl).mono (fun k _ e => by rw [e]; rfl)⟩
      · rw [hpl]
        refine ⟨by simp [perm_vs, hsl], .inr ⟨g, cap, _, rfl, hb, hgx, by omega, hcm, by simp [putCells]; omega, ?_⟩⟩
        rw [← hus, Nat.mul_one]
        have e := putCells_take (enc := encR us) d' cur (by omega)
        rw [hd] at e
        exact e
      · rw [hpl] at hj
        rw [perm_rat (by omega), perm_vat (by omega)]
        exact (h.rd _ (hidx j hj)).keep (sort1_keep hgl) (fun b hb e => h.sep _ (hidx j hj) b hb (by rw [e]; rfl))
      · rw [hpl] at hj
        rw [perm_vat (by omega)] at hb
        exact h.sep _ (hidx j hj) b hb
      · rw [hpl] at hj
        rw [perm_vat (by omega)] at hb
        exact h.fr _ (hidx j hj) b hb
/-- slices.CompactFunc at rows that are all different: nothing changes. -/
theorem compact_rows {base : Nat} {w : World} {v : Value} {us : List Value} {rows : List Int} (h : RowsAt base w v us rows) (hn : rows.Nodup) (hl : rows.length ≤ 1000) :
    Calls Tryz.prog 171 #[v, .func (.func 172) #[] #[]] w (IdxPost w v) := by
  refine compactW_any (vs := us) (F := 172) (by rw [h.len]; exact ownsRow_rd h.own h.one) (enters_of Tryz.func172 (by kernel_rfl) rfl) (fun W k j hj => ?_) (by rw [h.len]; omega)
  rw [h.len] at hj
  have h2 := h.keep k
  refine (r2_any (h2.rd (j + 1) (by omega)) (h2.rd j (by omega))).mono ?_
  rintro e w' ⟨rfl, hk⟩
  refine ⟨?_, hk⟩
  have hp := List.pairwise_iff_getElem.1 hn j (j + 1) (by omega) (by omega) (by omega)
  have e1 : rat rows (j + 1) = rows[j + 1] := by simp [rat, List.getD, hj]
  have e2 : rat rows j = rows[j] := by simp [rat, List.getD, show j < rows.length by omega]
  rw [e1, e2, decide_eq_false (fun e => hp e.symm)]
end Go.Proofs.YtkkjonkcjlnohaaGreatDoor

/- match.Results at one atom of a variable and a constant. -/
namespace Go.Proofs.YtkkjonkcjlnohaaGreatDoor
set_option linter.unusedSimpArgs false
set_option linter.unusedVariables false
set_option linter.unnecessarySimpa false
open Go.RowKit

theorem info22 : (Tryz.prog.info? 22).map (fun i => (i.zero, i.size, i.bytes)) = some (some (.slice none 0 0), 1, 24) := by kernel_rfl
theorem info3k : (Tryz.prog.info? 3).map (fun i => (i.zero, i.size, i.bytes)) = some (some (.int .i64 0), 1, 8) := by kernel_rfl
def ResPost (w : World) (t1 : Int) (F : List Fct) (e : Ending) (w' : World) : Prop :=
  ∃ (v : Value) (us : List Value) (rows : List Int), e = .returned (.tuple #[v, .int .i64 0]) ∧ RowsAt w.heap.size w' v us rows ∧ rows.length ≤ 12 ∧ (∀ x, x ∈ rows ↔ (x, -t1) ∈ F) ∧ Keep (fun _ => False) w w'
theorem vcells_at : ∀ (xs : List Int) (k j : Nat), k < xs.length → j < 8 → (vcells xs)[k * 8 + j]? = (zc (rat xs k)).toList[j]?
  | [], k, j, h, _ => by simp at h
  | a :: l, 0, j, h, hj => by
    have e : vcells (a :: l) = (zc a).toList ++ vcells l := rfl
    rw [e, Nat.zero_mul, Nat.zero_add, List.getElem?_append_left (by simpa [zc] using hj)]
    rfl
  | a :: l, k + 1, j, h, hj => by
    have ih := vcells_at l k j (by simpa using h) hj
    have e : vcells (a :: l) = (zc a).toList ++ vcells l := rfl
    rw [e, show (k + 1) * 8 + j = 8 + (k * 8 + j) by omega, List.getElem?_append_right (by simp [zc]), show 8 + (k * 8 + j) - (zc a).toList.length = k * 8 + j by simp [zc], ih]
    rfl
theorem rd_vc {w : World} {ao : Option Addr} {n cap : Nat} {xs : List Int} (h : Rd w 8 (.slice ao n cap) n (vcells xs)) {k : Nat} (hk : k < n) :
    ∃ b o, ao = some ⟨b, o, none⟩ ∧ w.cell? ⟨b, o + k * 8, none⟩ = some (.int .i64 (rat xs k)) ∧ w.cell? ⟨b, o + k * 8 + 1, none⟩ = some (.int .i64 0) ∧ w.cell? ⟨b, o + k * 8 + 2, none⟩ = some (.int .i64 0) ∧ w.cell? ⟨b, o + k * 8 + 3, none⟩ = some (.int .i64 0) ∧ w.cell? ⟨b, o + k * 8 + 4, none⟩ = some (.int .i64 0) ∧ w.cell? ⟨b, o + k * 8 + 5, none⟩ = some (.int .i64 0) ∧ w.cell? ⟨b, o + k * 8 + 6, none⟩ = some (.int .i64 0) ∧ w.cell? ⟨b, o + k * 8 + 7, none⟩ = some (.int .i64 0) := by
  have hl : xs.length = n := by have := h.1; rw [vcells_length] at this; omega
  rcases h.2.2 with ⟨_, h'⟩ | ⟨b, o, c, h2, _, _, hx⟩
  · omega
  · cases h2
    have g : ∀ j, j < 8 → ∀ u, (zc (rat xs k)).toList[j]? = some u → w.cell? ⟨b, o + k * 8 + j, none⟩ = some u := fun j hj u hu => by
      have := hx (k * 8 + j) u (by rw [vcells_at xs k j (by omega) hj]; exact hu)
      rwa [← Nat.add_assoc] at this
    exact ⟨b, o, rfl, g 0 (by omega) _ rfl, g 1 (by omega) _ rfl, g 2 (by omega) _ rfl, g 3 (by omega) _ rfl, g 4 (by omega) _ rfl, g 5 (by omega) _ rfl, g 6 (by omega) _ rfl, g 7 (by omega) _ rfl⟩
theorem mts_mem {t1 : Int} {F : List Fct} {x : Int} : x ∈ mts 0 t1 F ↔ (x, -t1) ∈ F := by
  unfold mts
  rw [List.mem_map]
  constructor
  · rintro ⟨f, hf, rfl⟩
    obtain ⟨h1, h2⟩ := List.mem_filter.1 hf
    unfold fit at h2
    simp at h2
    have e : (fitX 0 f, -t1) = f := Prod.ext rfl h2.symm
    rw [e]
    exact h1
  · intro h
    exact ⟨(x, -t1), List.mem_filter.2 ⟨h, by simp [fit]⟩, rfl⟩
theorem mts_nodup {t1 : Int} {F : List Fct} (h : F.Nodup) : (mts 0 t1 F).Nodup := by
  unfold mts
  rw [List.Nodup, List.pairwise_map]
  refine List.Pairwise.imp_of_mem (fun {a b} ha hb hne e => ?_) (h.filter _)
  exact hne (fit_same (List.mem_filter.1 ha).2 (List.mem_filter.1 hb).2 e)
/-- The loop over the matches. -/
def RRel (w w1 : World) (xs : List Int) (v i : Value) (wr : World) : Prop :=
  ∃ (k : Nat) (us : List Value), k ≤ xs.length ∧ i = .int .i64 k ∧ RowsAt w1.heap.size wr v us (xs.take k) ∧ Keep (fun _ => False) w1 wr
set_option maxHeartbeats 4000000 in
set_option maxRecDepth 100000 in
theorem results_any {w : World} {hv bv av fv : Value} {t1 : Int} {vs : List Value} {F : List Fct} (q : QAt w hv bv av 0 t1 [0]) (hf : FRd w fv vs F) (hg : Good12 F) :
    Calls Tryz.prog 111 #[.agg #[hv, bv], fv] w (ResPost w t1 F) := by
  obtain ⟨ho, hc, b, o, cap, rfl, rfl⟩ := q.shapes
  have HA : Hid (∀ W, Keep (fun _ => False) w W → Calls Tryz.prog 89 #[.agg #[.slice ho 1 hc, .slice (some ⟨b, o, none⟩) 1 cap], fv] W (AskedPost W 0 t1 F)) := Lib.hid (fun W k => asked_any (q.keep k) (hf.keep k) hg)
  have HQ := Lib.hid q; have HG := Lib.hid hg
  clear q hf hg
  obtain ⟨hb, hoff, hho, _⟩ := rd_int HQ.out.h (k := 0) (by simp)
  subst hho
  go_enter Tryz.func111, Tryz.ntmps111
  go_wp2_with (go_at_call 89; refine (HA.out _ ((Keep.refl _ w).alloc _)).mono ?_; rintro e w1 ⟨v1, G, rfl, hp, hr, hk⟩; obtain ⟨ao, ac, rfl, _⟩ := hr.shape; obtain ⟨c0, c1⟩ := query_cells hk; have HP := Lib.hid hp; have HR := Lib.hid hr; have HK := Lib.hid (((Keep.refl (fun _ => False) w).alloc _).trans hk (fun _ _ h => h)); have HKA := Lib.hid hk; clear hp hr hk)
  obtain ⟨xs, hxs⟩ : ∃ xs, mts 0 t1 G = xs := ⟨_, rfl⟩
  rw [hxs] at HR
  rw [hxs]
  have HXS := Lib.hid hxs
  have hn12 : xs.length ≤ 12 := by rw [← hxs]; exact Nat.le_trans (mts_len _ _ _) (by rw [HP.out.length_eq]; exact HG.out.len)
  clear hxs
  obtain ⟨n, hn⟩ : ∃ n, xs.length = n := ⟨_, rfl⟩
  have HN := Lib.hid hn
  rw [hn] at HR hn12 ⊢
  clear hn c0 c1
  go_loopw [8, 25] (fun v i wr => RRel w w1 xs v i wr) (fun _ i _ => n - (intOf i).toNat)
  case atStart => exact ⟨0, [], Nat.zero_le _, rfl, RowsAt.nil _ _, Keep.refl _ _⟩
  case round =>
    obtain ⟨k, us, hk, rfl, hrow, hkeep⟩ := hrel
    obtain ⟨a8, c8, hve, _⟩ := ownsRow_shape hrow.own
    subst hve
    have HROW := Lib.hid hrow; have HKE := Lib.hid hkeep
    clear hrow hkeep
    obtain ⟨q0, q1⟩ := query_cells (HKA.out.trans HKE.out (fun _ _ h => h))
    have htl : (xs.take k).length = k := by rw [List.length_take]; have := HN.out; omega
    rw [htl]
    rw [htl] at HROW
    have HTL := Lib.hid htl
    clear htl
    by_cases hlt : k < n
    · have hlti : ((k : Int) < (n : Int)) = True := eq_true (by omega)
      obtain ⟨mb, mo, hao, m0, m1, m2, m3, m4, m5, m6, m7⟩ := rd_vc (HR.out.keep HKE.out (fun _ _ h => h)) hlt
      subst hao
      obtain ⟨x, hx⟩ : ∃ x, rat xs k = x := ⟨_, rfl⟩
      rw [hx] at m0
      have HX := Lib.hid hx
      have kW : Keep (fun _ => False) wr ((wr.alloc (.cells #[.int .i64 x, .int .i64 0, .int .i64 0, .int .i64 0, .int .i64 0, .int .i64 0, .int .i64 0, .int .i64 0] 255)).alloc (.cells #[] 3)) := ((Keep.refl _ _).alloc _).alloc _
      obtain ⟨q2, q3⟩ := query_cells (HKA.out.trans (HKE.out.trans kW (fun _ _ h => h)) (fun _ _ h => h))
      have HKW := Lib.hid kW
      clear kW hx
      go_wp2_with fail
      obtain ⟨w2, hw2⟩ : ∃ w2, w2 = (wr.alloc (.cells #[.int .i64 x, .int .i64 0, .int .i64 0, .int .i64 0, .int .i64 0, .int .i64 0, .int .i64 0, .int .i64 0] 255)).alloc (.cells #[] 3) := ⟨_, rfl⟩
      have HB2 : Hid (Blk w2 wr.heap.size #[.int .i64 x, .int .i64 0, .int .i64 0, .int .i64 0, .int .i64 0, .int .i64 0, .int .i64 0, .int .i64 0] 255) := Lib.hid (by rw [hw2]; exact (Blk.new _ _ _).alloc _)
      have HE2 : Hid (w2.ownsRow (wr.heap.size + 1) 3 1 (.slice (some ⟨wr.heap.size + 1, 0, none⟩) 0 0) 0 []) := Lib.hid (by
        rw [hw2]
        have h := World.ownsRow_made (base := wr.heap.size + 1) (e := 3) (size := 1) (wr.alloc (.cells #[.int .i64 x, .int .i64 0, .int .i64 0, .int .i64 0, .int .i64 0, .int .i64 0, .int .i64 0, .int .i64 0] 255)) #[] 0 (by simp) (by unfold maxLen; omega) (by simp)
        rw [World.size_alloc] at h
        exact h)
      rw [← hw2] at q2 q3 HKW
      rw [← hw2]
      have HSZ : Hid (w2.heap.size = wr.heap.size + 2) := Lib.hid (by rw [hw2]; simp)
      obtain ⟨b10, hb10⟩ : ∃ x, wr.heap.size = x := ⟨_, rfl⟩
      have HB10 := Lib.hid hb10
      rw [hb10] at HB2 HE2 HSZ ⊢
      have HBL : Hid (∀ j, j < (xs.take k).length → ∀ g, (vat us j).ownBlock = some g → g < b10) := Lib.hid (fun j hj g e => by
        obtain ⟨rb, ro, rc, hv, _, _, hcell⟩ := HROW.out.shape hj
        have hrl := World.block_lt_of_cell? _ _ hcell
        rw [hv] at e
        cases e
        have h2 : rb < wr.heap.size := hrl
        have := HB10.out
        omega)
      have HOL : Hid (∀ g, (Value.slice a8 k c8).ownBlock = some g → g < b10) := Lib.hid (fun g e => by have := (HROW.out.own.lt g e).2; have := HB10.out; omega)
      clear hw2 q0 q1 m0 m1 m2 m3 m4 m5 m6 m7 hb10
      have hcap : b10 < b10 + 1 := by omega
      go_loopw [11, 33] (fun v i wx => (i = .int .i64 0 ∧ v = .slice (some ⟨b10 + 1, 0, none⟩) 0 0 ∧ wx = w2) ∨ (i = .int .i64 1 ∧ wx.ownsRow (b10 + 1) 3 1 v 1 [.int .i64 x] ∧ Keep (fun k => k = b10 + 1) w2 wx)) (fun _ i _ => 1 - (intOf i).toNat)
      case atStart => exact .inl ⟨rfl, rfl, rfl⟩
      case round =>
        rcases hrel with ⟨rfl, rfl, rfl⟩ | ⟨rfl, ho1, hk1⟩
        · obtain ⟨hb', ho', e, h0⟩ := rd_int (HQ.out.h.keep (HK.out.trans (HKE.out.trans HKW.out (fun _ _ h => h)) (fun _ _ h => h)) (fun _ _ h => h)) (k := 0) (by simp)
          cases e
          have h0' : wr.cell? ⟨hb, hoff, none⟩ = some (.int .i64 0) := by simpa using h0
          have b0 := HB2.out.cell 0
          simp at b0
          clear h0
          go_wp2_with (at_builtin; refine wpList_app (w := wr.alloc (.cells #[.int .i64 x] 3)) rfl (.tmp 37) (.tmp 41) 22 22 rfl 3 (.int .i64 0) 1 8 Tryz.underlying22 info3k rfl (HE2.out.alloc _) rfl (Src.new (P := Tryz.prog) Tryz.underlying22 wr 1 [.int .i64 x] 3 rfl (by simp [Value.oneCell'])) rfl (by unfold maxLen; omega) (by omega) (by have := HSZ.out; simp; omega) ?_; intro v9 w9 happ; have HA2 := Lib.hid happ; clear happ)
          go_roundw
          case rel =>
            refine .inr ⟨rfl, ?_, (((Keep.refl (fun k => k = b10 + 1) wr).alloc _).trans HA2.out.keep (fun i hi e => ?_))⟩
            · have := HA2.out.own
              simpa using this
            · exact (Option.some.inj e).symm
          case measure => simp [intOf]
        · obtain ⟨ar, cr, rfl, _⟩ := ownsRow_shape ho1
          have HO1 := Lib.hid ho1; have HK1 := Lib.hid hk1
          clear ho1 hk1
          have HRW : Hid (RowsAt w1.heap.size wr (.slice a8 k c8) us (xs.take k)) := Lib.hid (by
            have h1 := HROW.out.keep HKW.out
            refine ⟨ownsRow_keep h1.own HK1.out (fun g e e2 => by have := HOL.out g (by rw [← HTL.out] at *; exact e); omega), fun j hj => ?_, h1.sep, h1.fr⟩
            exact (h1.rd j hj).keep HK1.out (fun g e e2 => by have := HBL.out j hj g e; omega))
          have hrow1 := ownsRow_rd HO1.out (by simp [Value.oneCell'])
          have HRR : Hid (Rd wr 1 (.slice ar 1 cr) 1 (icells [x])) := Lib.hid hrow1
          have HG1 := Lib.hid HO1.out.lt
          have HTK := Lib.hid (show xs.take (k + 1) = xs.take k ++ [x] by rw [List.take_succ_eq_append_getElem (by have := HN.out; omega), ← HX.out]; simp [rat, List.getD, show k < xs.length by have := HN.out; omega])
          clear hrow1
          have hown := HRW.out.own
          rw [HTL.out] at hown
          have HOW := Lib.hid hown
          clear hown
          go_wp2_with (at_builtin; refine wpList_app (w := wr.alloc (.cells #[.slice ar 1 cr] 22)) rfl (.tmp 44) (.tmp 46) 136 136 rfl 22 (.slice none 0 0) 1 24 Tryz.underlying136 info22 rfl (HOW.out.alloc _) rfl (Src.new (P := Tryz.prog) Tryz.underlying136 wr 1 [.slice ar 1 cr] 22 rfl (by simp [Value.oneCell'])) rfl (by unfold maxLen; omega) (by omega) (by have := HK.out.size; have := HKE.out.size; have := HKW.out.size; have := HK1.out.size; simp; omega) ?_; intro v9 w9 happ; have HA2 := Lib.hid happ; clear happ)
          go_roundw
          case rel =>
            have ha := HA2.out
            have hrr := (HRW.out.keep ((Keep.refl (fun _ => False) wr).alloc (.cells #[.slice ar 1 cr] 22)))
            refine ⟨k + 1, us ++ [.slice ar 1 cr], by have := HN.out; omega, by go_num, ?_, ?_⟩
            · rw [HTK.out]
              refine RowsAt.snoc (v := .slice a8 k c8) hrr (by rw [HTL.out]; exact ha) (HRR.out.keep ((Keep.refl (fun _ => False) wr).alloc _) (fun _ _ h => h)) (fun g e e2 => ?_) (fun g e => ?_)
              · have h1 := (HG1.out g e).1
                have h2 := HOL.out g e2
                omega
              · have h1 := (HG1.out g e).1
                have := HKE.out.size; have := HB10.out; omega
            · refine ((HKE.out.trans HKW.out (fun _ _ h => h)).trans HK1.out (fun i hi e => ?_)).trans (T := fun i => (Value.slice a8 k c8).ownBlock = some i) (((Keep.refl _ wr).alloc _).trans ha.keep (fun _ _ e => e)) (fun i hi e => ?_)
              · have := HKE.out.size; have := HB10.out; omega
              · have h1 := (HOW.out.lt i e).1
                omega
          case measure => simp [intOf]; omega
    · have hke : k = n := by have := HN.out; omega
      subst hke
      have hji : ((k : Int) < (k : Int)) = False := by simp
      have htk : xs.take k = xs := List.take_of_length_le (by rw [HN.out]; exact Nat.le_refl _)
      have hrow := HROW.out
      rw [htk] at hrow
      have hnd : xs.Nodup := by
        rw [← HXS.out]
        exact mts_nodup (HG.out.perm HP.out).nd
      have HROW2 := Lib.hid hrow
      have HSRT := Lib.hid (sortW_rows hrow (by have := HN.out; omega))
      have HCMP : Hid (∀ (W : World) (us' : List Value) (rows' : List Int), rows'.Perm xs → RowsAt w1.heap.size W (.slice a8 k c8) us' rows' → Calls Tryz.prog 171 #[.slice a8 k c8, .func (.func 172) #[] #[]] W (IdxPost W (.slice a8 k c8))) := Lib.hid (fun W us' rows' hp h => compact_rows h (hp.nodup_iff.2 hnd) (by rw [hp.length_eq]; have := HN.out; omega))
      clear htk hrow hnd
      go_wp2_with (first
        | (go_at_call 169; refine HSRT.out.mono ?_; rintro e w3 ⟨rfl, us3, rows3, hp3, hr3, hk3⟩; have HP3 := Lib.hid hp3; have HR3 := Lib.hid hr3; have HK3 := Lib.hid hk3; clear hp3 hr3 hk3)
        | (go_at_call 171; refine (HCMP.out _ us3 rows3 HP3.out HR3.out).mono ?_; rintro e w4 ⟨rfl, hk4⟩; have HK4 := Lib.hid hk4; clear hk4))
      go_ret2
      have hr4 := HR3.out.keep HK4.out
      refine ⟨_, us3, rows3, rfl, ⟨ownsRow_base hr4.own HK.out.size, hr4.rd, hr4.sep, fun j hj g e => Nat.le_trans HK.out.size (hr4.fr j hj g e)⟩, by rw [HP3.out.length_eq]; have := HN.out; omega, fun x => ?_, ((HK.out.trans HKE.out (fun _ _ h => h)).trans HK3.out (fun i hi e => by have h1 := (HROW2.out.own.lt i e).1; have := HK.out.size; omega)).trans HK4.out (fun _ _ h => h)⟩
      rw [HP3.out.mem_iff, ← HXS.out, mts_mem]
      exact HP.out.mem_iff
end Go.Proofs.YtkkjonkcjlnohaaGreatDoor

/- slices.DeleteFunc at rows, with a predicate that may lay new blocks. -/
namespace Go.Proofs.YtkkjonkcjlnohaaGreatDoor
set_option linter.unusedSimpArgs false
set_option linter.unusedVariables false
set_option linter.unnecessarySimpa false
open Go.RowKit

/-- The indexes below j that stay. -/
def stays (q : Nat → Bool) (j : Nat) : List Nat := (List.range j).filter fun i => !q i
theorem stays_succ (q : Nat → Bool) (j : Nat) : stays q (j + 1) = if q j then stays q j else stays q j ++ [j] := by
  unfold stays
  rw [List.range_succ, List.filter_append]
  cases h : q j <;> simp [h]
theorem stays_le (q : Nat → Bool) (j : Nat) : (stays q j).length ≤ j := by
  have := List.length_filter_le (fun i => !q i) (List.range j)
  rw [List.length_range] at this
  exact this
theorem stays_all {q : Nat → Bool} {j : Nat} (h : ∀ i, i < j → q i = false) : stays q j = List.range j :=
  List.filter_eq_self.2 (fun i hi => by rw [h i (List.mem_range.1 hi)]; rfl)
theorem mem_stays {q : Nat → Bool} {j i : Nat} : i ∈ stays q j ↔ i < j ∧ q i = false := by simp [stays]
def DelPost (base : Nat) (w : World) (v : Value) (us : List Value) (rows : List Int) (q : Nat → Bool) (e : Ending) (w' : World) : Prop :=
  ∃ v', e = .returned v' ∧ RowsAt base w' v' ((stays q rows.length).map (vat us)) ((stays q rows.length).map (rat rows)) ∧ Keep (fun k => v.ownBlock = some k) w w'
theorem range_vat (us : List Value) : (List.range us.length).map (vat us) = us := by
  apply List.ext_getElem
  · simp
  · intro i h1 h2
    simp [vat, List.getD, h2]
theorem range_rat (us : List Int) : (List.range us.length).map (rat us) = us := by
  apply List.ext_getElem
  · simp
  · intro i h1 h2
    simp [rat, List.getD, h2]
/-- The row as it stands while DeleteFunc goes over it. -/
structure DelInv (base : Nat) (w : World) (g cap n : Nat) (us : List Value) (q : Nat → Bool) (i j : Nat) (wr : World) (xs : List Value) : Prop where
  own : wr.ownsRow base 22 1 (.slice (some ⟨g, 0, none⟩) n cap) n xs
  low : xs.take i = (stays q j).map (vat us)
  len : (stays q j).length = i
  high : ∀ m, j ≤ m → m < n → vat xs m = vat us m
  kept : Keep (fun k => k = g) w wr
theorem DelInv.keep {base : Nat} {w : World} {g cap n : Nat} {us : List Value} {q : Nat → Bool} {i j : Nat} {wr wx : World} {xs : List Value} (h : DelInv base w g cap n us q i j wr xs) (k : Keep (fun _ => False) wr wx) : DelInv base w g cap n us q i j wx xs :=
  ⟨ownsRow_keep h.own k (fun _ _ h => h), h.low, h.len, h.high, h.kept.trans k (fun _ _ h => h.elim)⟩
theorem row_cell {base : Nat} {w : World} {g cap n : Nat} {xs : List Value} (h : w.ownsRow base 22 1 (.slice (some ⟨g, 0, none⟩) n cap) n xs) {k : Nat} (hk : k < n) : w.cell? ⟨g, k, none⟩ = some (vat xs k) ∧ w.frozen? ⟨g, k, none⟩ = false := by
  obtain ⟨hl, h2⟩ := h
  rcases h2 with ⟨hv, _⟩ | ⟨g', c, cur, hv, hb, hgg, hnc, hcm, hcs, htake⟩
  · cases hv
  · cases hv
    refine ⟨?_, by simp [World.frozen?, hgg]⟩
    have hx : xs[k]? = some (vat xs k) := vat_get (by omega)
    rw [cell_of_row w g k cur 22 (0, 0) hgg]
    rw [← htake, List.getElem?_take, if_pos (by omega), Array.getElem?_toList] at hx
    rw [hx, htake]
theorem row_shrink {base : Nat} {w : World} {g cap n i : Nat} {xs : List Value} (h : w.ownsRow base 22 1 (.slice (some ⟨g, 0, none⟩) n cap) n xs) (hi : i ≤ n) : w.ownsRow base 22 1 (.slice (some ⟨g, 0, none⟩) i cap) i (xs.take i) := by
  obtain ⟨hl, h2⟩ := h
  refine ⟨by rw [List.length_take]; omega, ?_⟩
  rcases h2 with ⟨hv, _⟩ | ⟨g', c, cur, hv, hb, hgg, hnc, hcm, hcs, htake⟩
  · cases hv
  · cases hv
    refine .inr ⟨g, cap, cur, rfl, hb, hgg, by omega, hcm, hcs, ?_⟩
    rw [← htake, List.take_take]
    congr 1
    omega
theorem rows_cleared {base g cap n i : Nat} (u : Value) : ∀ (k o : Nat) (w : World) (xs : List Value), w.ownsRow base 22 1 (.slice (some ⟨g, 0, none⟩) n cap) n xs → i ≤ o → o + k ≤ n → ∃ ys, (w.setCells g o (List.replicate k u)).ownsRow base 22 1 (.slice (some ⟨g, 0, none⟩) n cap) n ys ∧ ys.take i = xs.take i ∧ Keep (fun b => b = g) w (w.setCells g o (List.replicate k u))
  | 0, o, w, xs, h, _, _ => ⟨xs, h, rfl, Keep.refl _ _⟩
  | k + 1, o, w, xs, h, hi, ho => by
    have hl := h.1
    have h1 := ownsRow_set h o (by omega) u
    obtain ⟨ys, h2, h3, h4⟩ := rows_cleared (i := i) u k (o + 1) _ _ h1 (by omega) (by omega)
    refine ⟨ys, h2, ?_, ((Keep.refl (fun b => b = g) w).setCell ⟨g, o, none⟩ u (fun _ => rfl)).trans h4 (fun _ _ h => h)⟩
    rw [h3, List.take_set, List.set_eq_of_length_le (by rw [List.length_take]; omega)]
theorem first_of (q : Nat → Bool) : ∀ n, (∀ i, i < n → q i = false) ∨ ∃ k, k < n ∧ q k = true ∧ ∀ i, i < k → q i = false
  | 0 => .inl (fun i hi => absurd hi (Nat.not_lt_zero _))
  | n + 1 => by
    rcases first_of q n with h | ⟨k, hk, h1, h2⟩
    · cases hq : q n
      · refine .inl (fun i hi => ?_)
        by_cases e : i = n
        · rw [e]; exact hq
        · exact h i (by omega)
      · exact .inr ⟨n, by omega, hq, h⟩
    · exact .inr ⟨k, by omega, h1, h2⟩
theorem fstQ_first (q : Nat → Bool) (n : Nat) : (fstQ q n = -1 ∧ ∀ i, i < n → q i = false) ∨ ∃ k, k < n ∧ fstQ q n = k ∧ q k = true ∧ ∀ i, i < k → q i = false := by
  rcases first_of q n with h | ⟨k, hk, h1, h2⟩
  · exact .inl ⟨fstQ_none h, h⟩
  · exact .inr ⟨k, hk, fstQ_at hk h1 h2, h1, h2⟩
set_option maxHeartbeats 4000000 in
set_option maxRecDepth 100000 in
theorem delete_any {base : Nat} {w : World} {v : Value} {us : List Value} {rows : List Int} {F : Nat} {capt : Array Value} {q : Nat → Bool} (h : RowsAt base w v us rows) (hF : Enters F) (hl : rows.length ≤ 1000)
    (hp : ∀ W, Keep (fun k => v.ownBlock = some k) w W → ∀ j, j < rows.length → Calls Tryz.prog F (#[vat us j] ++ capt) W fun e w' => e = .returned (.bool (q j)) ∧ Keep (fun _ => False) W w') :
    Calls Tryz.prog 112 #[v, .func (.func F) #[] capt] w (DelPost base w v us rows q) := by
  have hul := h.len
  have HIX := Lib.hid (idxW_any (v := v) (vs := us) (F := F) (capt := capt) (q := q) (by rw [hul]; exact ownsRow_rd h.own h.one) hF (fun W k j hj => hp W (k.mono (fun _ _ e => e.elim)) j (by omega)) (by omega))
  rw [hul] at HIX
  obtain ⟨n, hn⟩ : ∃ n, rows.length = n := ⟨_, rfl⟩
  rcases fstQ_first q n with ⟨hq, hall⟩ | ⟨k0, hk0, hq, hqt, hall⟩
  · rw [hn, hq] at HIX
    have H := Lib.hid h
    have HA := Lib.hid hall
    have HN := Lib.hid hn
    have HUL := Lib.hid hul
    clear h hp hF hall hul hn hq hl
    go_enter Tryz.func112, Tryz.ntmps112
    go_wp2_with (go_at_call 173; refine HIX.out.mono ?_; rintro e w1 ⟨rfl, hk⟩; have HK := Lib.hid hk; clear hk)
    go_ret
    have e1 := stays_all HA.out
    refine ⟨v, rfl, ?_, HK.out.mono (fun _ _ e => e.elim)⟩
    rw [HN.out, e1]
    have h2 := H.out.keep HK.out
    rw [← HN.out, range_rat, ← HUL.out, range_vat]
    exact h2
  · rcases h.own.2 with ⟨_, h0⟩ | ⟨g, cap, cur, hv, hb, hgg, hnc, hcm, hcs, htake⟩
    · omega
    subst hv
    rw [hn] at HIX ⊢
    rw [hq] at HIX
    obtain ⟨o, ho⟩ : ∃ o : Nat, 0 = o := ⟨_, rfl⟩
    have HO := Lib.hid ho
    rw [ho] at HIX ⊢
    have H := Lib.hid h
    have HP := Lib.hid hp
    have HN := Lib.hid hn; have HUL := Lib.hid hul
    have HH := Lib.hid hall; have HQT := Lib.hid hqt
    have eF : ∀ (args : Array Value) (w : World), (callFunc F args).run Tryz.prog w = .ok (.enter F args) w := hF
    have hne1 : ((k0 : Int) == -1) = false := beq_eq_false_iff_ne.2 (by omega)
    have hn1 : n ≤ 1000 := by omega
    rw [hn] at hnc
    clear h hp hF hall hqt hul hn hq hl ho hgg hcs htake
    go_enter Tryz.func112, Tryz.ntmps112
    go_wp2_with (go_at_call 173; refine HIX.out.mono ?_; rintro e w1 ⟨rfl, hk⟩; have HK := Lib.hid hk; clear hk)
    have HST : Hid (DelInv base w g cap n us q k0 (k0 + 1) w1 us) := Lib.hid (by
      have hown := ownsRow_keep H.out.own HK.out (fun _ _ h => h)
      have e1 := stays_all HH.out
      have e2 : stays q (k0 + 1) = List.range k0 := by rw [stays_succ, HQT.out, e1]; rfl
      have hul := HUL.out; have hn := HN.out
      have e3 : (List.range k0).map (vat us) = us.take k0 := by
        apply List.ext_getElem
        · simp; omega
        · intro i h1 h2
          have : i < us.length := by simp at h1; omega
          simp [vat, List.getD, this]
      rw [hn] at hown
      exact ⟨hown, by rw [e2, e3], by rw [e2, List.length_range], fun m _ _ => rfl, HK.out.mono (fun _ _ e => e.elim)⟩)
    go_loopw [5, 6] (fun a b wr => ∃ (i j : Nat) (xs : List Value), a = .int .i64 i ∧ b = .int .i64 j ∧ i < j ∧ j ≤ n ∧ DelInv base w g cap n us q i j wr xs) (fun _ b _ => n - (intOf b).toNat)
    case atStart => exact ⟨k0, k0 + 1, us, rfl, by go_num, by omega, by omega, HST.out⟩
    case round =>
      obtain ⟨i, j, xs, rfl, rfl, hij, hjn, hI⟩ := hrel
      have HI := Lib.hid hI
      clear hI
      by_cases hlt : j < n
      · have hlti : ((j : Int) < (n : Int)) = True := eq_true (by omega)
        have hlii : ((i : Int) < (n : Int)) = True := eq_true (by omega)
        have hc := (row_cell HI.out.own hlt).1
        rw [HI.out.high j (Nat.le_refl _) hlt] at hc
        have HC := Lib.hid (HP.out wr (HI.out.kept.mono (fun k _ e => by rw [e]; rfl)) j (by rw [HN.out]; exact hlt))
        obtain ⟨xb, xo, xc, hx, _, _, _⟩ := H.out.shape (j := j) (by rw [HN.out]; exact hlt)
        rw [hx] at hc HC
        have HX := Lib.hid hx
        rw [show j = o + j by have := HO.out; omega] at hc
        clear hx
        cases hpx : q j
        · have HPX := Lib.hid hpx; clear hpx
          go_wp2
          refine HC.out.mono ?_
          rintro e w2 ⟨he, hk2⟩
          rw [HPX.out] at he
          subst he
          have HI2 := Lib.hid (HI.out.keep hk2)
          obtain ⟨ci, fi⟩ := row_cell HI2.out.own (k := i) (by omega)
          rw [show i = o + i by have := HO.out; omega] at ci fi
          clear hk2
          go_wp2
          go_roundw
          case rel =>
            have hI := HI2.out
            have ho := HO.out
            refine ⟨i + 1, j + 1, xs.set i (.slice (some ⟨xb, xo, none⟩) 1 xc), by go_num, by go_num, by omega, by omega, ?_, ?_, ?_, fun m h1 h2 => ?_, ?_⟩
            · have hl := hI.own.1
              have h3 := ownsRow_set hI.own i (by omega) (.slice (some ⟨xb, xo, none⟩) 1 xc)
              rw [show o + i = i by omega]
              exact h3
            · have hl := hI.own.1
              rw [stays_succ, HPX.out]
              show (xs.set i (.slice (some ⟨xb, xo, none⟩) 1 xc)).take (i + 1) = (stays q j ++ [j]).map (vat us)
              rw [List.map_append, ← hI.low, List.take_succ_eq_append_getElem (by rw [List.length_set]; omega), List.take_set, List.set_eq_of_length_le (by rw [List.length_take]; omega)]
              simp [HX.out]
            · rw [stays_succ, HPX.out]
              show (stays q j ++ [j]).length = i + 1
              rw [List.length_append, hI.len]; rfl
            · have h4 := hI.high m (by omega) h2
              rw [← h4]
              unfold vat
              simp [List.getD, List.getElem?_set, show ¬ i = m by omega]
            · exact hI.kept.trans ((Keep.refl (fun k => k = g) w2).setCell _ _ (fun _ => rfl)) (fun _ _ h => h)
          case measure => simp [intOf]; omega
        · have HPX := Lib.hid hpx; clear hpx
          go_wp2
          refine HC.out.mono ?_
          rintro e w2 ⟨he, hk2⟩
          rw [HPX.out] at he
          subst he
          have HI2 := Lib.hid (HI.out.keep hk2)
          clear hk2
          go_wp2
          go_roundw
          case rel =>
            have hI := HI2.out
            have e1 : stays q (j + 1) = stays q j := by rw [stays_succ, HPX.out]; rfl
            exact ⟨i, j + 1, xs, rfl, by go_num, by omega, by omega, hI.own, by rw [e1]; exact hI.low, by rw [e1]; exact hI.len, fun m h1 h2 => hI.high m (by omega) h2, hI.kept⟩
          case measure => simp [intOf]; omega
      · have hjn' : j = n := by omega
        subst hjn'
        have hji : ((j : Int) < (j : Int)) = False := by simp
        have hcl : ∀ ty, (Builtin.clear_ #[136] ty #[.slice (some ⟨g, o + i, none⟩) (j - i) (cap - i)]).run Tryz.prog wr = .ok (.tuple #[]) (wr.setCells g (o + i) (List.replicate (j - i) (.slice none 0 0))) :=
          fun ty => Lib.run_clear_slice wr _ _ ty _ Tryz.underlying136 (fun w => Tryz.zeroValue22 w) rfl rfl g (o + i) _ _ (by omega) (fun t ht => by have := (row_cell HI.out.own (k := i + t) (by omega)).1; rw [show o + i + t = i + t by have := HO.out; omega, this]; rfl) (fun t ht => by rw [show o + i + t = i + t by have := HO.out; omega]; exact (row_cell HI.out.own (by omega)).2)
        obtain ⟨ys, h2, h3, h4⟩ := rows_cleared (i := i) (.slice none 0 0) (j - i) i wr xs HI.out.own (Nat.le_refl _) (by omega)
        have HY := Lib.hid h2; have HT := Lib.hid h3; have HKY := Lib.hid h4
        clear h2 h3 h4
        go_wp2
        go_ret
        have hI := HI.out
        have ho := HO.out
        rw [show o + i = i by omega]
        have hsh := row_shrink HY.out (i := i) (by omega)
        rw [HT.out, hI.low] at hsh
        have hkk : Keep (fun k => k = g) w (wr.setCells g i (List.replicate (j - i) (.slice none 0 0))) := hI.kept.trans HKY.out (fun _ _ h => h)
        have hidx : ∀ t, t < i → (stays q j).getD t 0 < rows.length ∧ vat ((stays q j).map (vat us)) t = vat us ((stays q j).getD t 0) ∧ rat ((stays q j).map (rat rows)) t = rat rows ((stays q j).getD t 0) := fun t ht => by
          have hl := hI.len
          have hm : (stays q j)[t]'(by omega) ∈ stays q j := List.getElem_mem _
          have e : (stays q j).getD t 0 = (stays q j)[t]'(by omega) := by simp [List.getD, show t < (stays q j).length by omega]
          refine ⟨?_, by simp [vat, List.getD, show t < (stays q j).length by omega], by simp [rat, List.getD, show t < (stays q j).length by omega]⟩
          rw [e, HN.out]
          exact (mem_stays.1 hm).1
        refine ⟨_, rfl, ⟨?_, fun t ht => ?_, fun t ht b hb => ?_, fun t ht b hb => ?_⟩, hkk.mono (fun k _ e => by rw [e]; rfl)⟩
        · rw [HN.out, List.length_map, hI.len, ← ho]
          exact hsh
        · rw [HN.out, List.length_map, hI.len] at ht
          rw [HN.out, (hidx t ht).2.1, (hidx t ht).2.2]
          exact (H.out.rd _ (hidx t ht).1).keep hkk (fun b hb e => H.out.sep _ (hidx t ht).1 b hb (by rw [e]; rfl))
        · rw [HN.out, List.length_map, hI.len] at ht
          rw [HN.out, (hidx t ht).2.1] at hb
          exact H.out.sep _ (hidx t ht).1 b hb
        · rw [HN.out, List.length_map, hI.len] at ht
          rw [HN.out, (hidx t ht).2.1] at hb
          exact H.out.fr _ (hidx t ht).1 b hb
end Go.Proofs.YtkkjonkcjlnohaaGreatDoor

/- The closures of repair.Sure. -/
namespace Go.Proofs.YtkkjonkcjlnohaaGreatDoor
set_option linter.unusedSimpArgs false
set_option linter.unusedVariables false
set_option linter.unnecessarySimpa false
open Go.RowKit

theorem sure11_any {w : World} {u v : Value} {x y : Int} {b : Nat} (hu : Rd w 1 u 1 (icells [x])) (hv : Rd w 1 v 1 (icells [y])) (hb : w.cell? ⟨b, 0, none⟩ = some u) :
    Calls Tryz.prog 115 #[v, .pointer (some ⟨b, 0, none⟩)] w fun e w' => e = .returned (.bool (decide (x = y))) ∧ Keep (fun _ => False) w w' := by
  have HC : Hid (∀ W, w = W → Calls Tryz.prog 11 #[u, v] W (DrawPost W (.bool (eqJ [x] [y])))) := Lib.hid (fun W e => by subst e; exact eqI_any (l := [x]) (m := [y]) hu hv (by simp))
  obtain ⟨ua, uc, hue, _⟩ := hu.shape
  obtain ⟨va, vc, hve, _⟩ := hv.shape
  subst hue hve
  have he : eqJ [x] [y] = decide (x = y) := by unfold eqJ; simp
  rw [he] at HC
  obtain ⟨r, hr⟩ : ∃ r, decide (x = y) = r := ⟨_, rfl⟩
  rw [hr] at HC ⊢
  clear hu hv hr he
  go_enter Tryz.func115, Tryz.ntmps115
  go_wp2_with (go_at_call 11; refine (HC.out _ rfl).mono ?_; rintro e w' ⟨rfl, q, rfl⟩)
  go_ret
  exact ⟨rfl, (Keep.refl _ _).drewN _⟩
/-- Not among the rows of l. -/
theorem sure1_any {w : World} {base lb : Nat} {lv x : Value} {us : List Value} {rows : List Int} {a : Int} (hl : RowsAt base w lv us rows) (hx : Rd w 1 x 1 (icells [a])) (hb : w.cell? ⟨lb, 0, none⟩ = some lv) (hn : rows.length ≤ 1000) :
    Calls Tryz.prog 113 #[x, .pointer (some ⟨lb, 0, none⟩)] w fun e w' => e = .returned (.bool (!decide (a ∈ rows))) ∧ Keep (fun _ => False) w w' := by
  obtain ⟨la, lc, hle, _⟩ := ownsRow_shape hl.own
  subst hle
  obtain ⟨xa, xc, hxe, _⟩ := hx.shape
  subst hxe
  have hul := hl.len
  have HBX : Hid (Blk (w.alloc (.cells #[.slice xa 1 xc] 22)) w.heap.size #[.slice xa 1 xc] 22) := Lib.hid (Blk.new _ _ _)
  have hq : anyQ (fun j => decide (a = rat rows j)) us.length = decide (a ∈ rows) := by
    rw [Bool.eq_iff_iff, anyQ_iff, decide_eq_true_iff, hul]
    constructor
    · rintro ⟨k, hk, h⟩
      rw [decide_eq_true_iff] at h
      rw [h, show rat rows k = rows[k] by simp [rat, List.getD, hk]]
      exact List.getElem_mem _
    · intro h
      obtain ⟨k, hk, rfl⟩ := List.getElem_of_mem h
      exact ⟨k, hk, by simp [rat, List.getD, hk]⟩
  have HC : Hid (∀ W, Keep (fun _ => False) (w.alloc (.cells #[.slice xa 1 xc] 22)) W → Calls Tryz.prog 114 #[.slice la rows.length lc, .func (.func 115) #[] #[.pointer (some ⟨w.heap.size, 0, none⟩)]] W (IdxPost W (.bool (decide (a ∈ rows))))) := Lib.hid (fun W k => by
    have kk := ((Keep.refl (fun _ => False) w).alloc (.cells #[.slice xa 1 xc] 22)).trans k (fun _ _ h => h)
    have h2 := hl.keep kk
    rw [← hq]
    refine contW_any (vs := us) (q := fun j => decide (a = rat rows j)) (by rw [hul]; exact ownsRow_rd h2.own h2.one) (enters_of Tryz.func115 (by kernel_rfl) rfl) (fun W2 k2 j hj => ?_) (by omega)
    have k3 := kk.trans k2 (fun _ _ h => h)
    exact sure11_any (hx.keep k3 (fun _ _ h => h)) ((hl.keep k3).rd j (by omega)) ((HBX.out.keep (k.trans k2 (fun _ _ h => h)) (fun h => h)).cell 0))
  obtain ⟨n, hn2⟩ : ∃ n, rows.length = n := ⟨_, rfl⟩
  rw [hn2] at HC hb
  obtain ⟨r, hr⟩ : ∃ r, decide (a ∈ rows) = r := ⟨_, rfl⟩
  rw [hr] at HC ⊢
  clear hl hx hq hul hn2 hr hn HBX
  go_enter Tryz.func113, Tryz.ntmps113
  have hb2 : (w.alloc (.cells #[.slice xa 1 xc] 22)).cell? ⟨lb, 0, none⟩ = some (.slice la n lc) := Go.Lib.cell?_alloc_some _ hb
  go_wp2_with (go_at_call 114; refine (HC.out _ (Keep.refl _ _)).mono ?_; rintro e w' ⟨rfl, hk⟩; have HK := Lib.hid (((Keep.refl (fun _ => False) w).alloc _).trans hk (fun _ _ h => h)); clear hk)
  go_ret
  exact ⟨rfl, HK.out⟩
end Go.Proofs.YtkkjonkcjlnohaaGreatDoor

/- repair.books.key and repair.books.block. -/
namespace Go.Proofs.YtkkjonkcjlnohaaGreatDoor
set_option linter.unusedSimpArgs false
set_option linter.unusedVariables false
set_option linter.unnecessarySimpa false
open Go.RowKit

/-- How many Args are the key: one, for the relation 0. -/
def sch (s : Int) : List Int := [1, s, s, s, s, s]
theorem key_any {w : World} {sv fv : Value} {s : Int} {b o cap : Nat} (hs : Rd w 1 sv 6 (icells (sch s))) (hf : ∃ (a : Option Addr) (n c : Nat), fv = .slice a n c) (hc : 2 ≤ cap) :
    Calls Tryz.prog 136 #[.agg #[sv, fv], .int .i64 0, .slice (some ⟨b, o, none⟩) 2 cap] w (IdxPost w (.slice (some ⟨b, o, none⟩) 1 cap)) := by
  obtain ⟨so, sc, hse, _⟩ := hs.shape
  subst hse
  obtain ⟨sb, sof, hse, c0⟩ := rd_int (hs.keep ((Keep.refl (fun _ => False) w).alloc (.cells #[.slice so 6 sc, fv] 72)) (fun _ _ h => h)) (k := 0) (by omega)
  subst hse
  have c0' : (w.alloc (.cells #[.slice (some ⟨sb, sof, none⟩) 6 sc, fv] 72)).cell? ⟨sb, sof, none⟩ = some (.int .i64 1) := by simpa [sch] using c0
  have h1 : ((1 : Int) ≤ (cap : Int)) = True := eq_true (by omega)
  have h2 : 1 ≤ cap := by omega
  clear c0 hs hc
  obtain ⟨fb, fo, fc, rfl⟩ := hf
  go_enter Tryz.func136, Tryz.ntmps136
  go_wp2_with fail
  go_ret
  exact ⟨rfl, (Keep.refl _ _).alloc _⟩
set_option maxHeartbeats 4000000 in
set_option maxRecDepth 100000 in
theorem block1_any {w : World} {sv fv u v : Value} {s : Int} {f g : Fct} {bf bb : Nat} (hs : Rd w 1 sv 6 (icells (sch s))) (hfv : ∃ (a : Option Addr) (n c : Nat), fv = .slice a n c) (hu : Rd w 1 u 2 (icells (fl g))) (hv : Rd w 1 v 2 (icells (fl f))) (hbf : Blk w bf #[.int .i64 0, v] 38) (hbb : Blk w bb #[sv, fv] 72) :
    Calls Tryz.prog 135 #[.agg #[.int .i64 0, u], .pointer (some ⟨bf, 0, none⟩), .pointer (some ⟨bb, 0, none⟩)] w (IdxPost w (.bool (decide (g.1 = f.1)))) := by
  obtain ⟨so, sc, hse, _⟩ := hs.shape
  obtain ⟨uo, uc, hue, huc, _⟩ := hu.shape
  obtain ⟨vo, vc, hve, hvc, _⟩ := hv.shape
  obtain ⟨ub, uof, huo, _⟩ : ∃ b o, uo = some ⟨b, o, none⟩ ∧ True := by
    rw [hue] at hu
    obtain ⟨b, o, h, _⟩ := rd_int hu (k := 0) (by omega)
    exact ⟨b, o, h, trivial⟩
  obtain ⟨vb, vof, hvo, _⟩ : ∃ b o, vo = some ⟨b, o, none⟩ ∧ True := by
    rw [hve] at hv
    obtain ⟨b, o, h, _⟩ := rd_int hv (k := 0) (by omega)
    exact ⟨b, o, h, trivial⟩
  obtain ⟨fa, fn, fc, rfl⟩ := hfv
  subst hse hue hve huo hvo
  have HK1 : Hid (∀ (W : World) (b o cap : Nat), Keep (fun _ => False) w W → 2 ≤ cap → Calls Tryz.prog 136 #[.agg #[.slice so 6 sc, .slice fa fn fc], .int .i64 0, .slice (some ⟨b, o, none⟩) 2 cap] W (IdxPost W (.slice (some ⟨b, o, none⟩) 1 cap))) := Lib.hid (fun W b o cap k h => key_any (hs.keep k (fun _ _ h => h)) ⟨_, _, _, rfl⟩ h)
  have hu1 : ∀ W, Keep (fun _ => False) w W → Rd W 1 (.slice (some ⟨ub, uof, none⟩) 1 uc) 1 (icells [g.1]) := fun W k => by
    have h := (hu.keep k (fun _ _ h => h)).takeN 1 (by omega)
    exact h
  have hv1 : ∀ W, Keep (fun _ => False) w W → Rd W 1 (.slice (some ⟨vb, vof, none⟩) 1 vc) 1 (icells [f.1]) := fun W k => by
    have h := (hv.keep k (fun _ _ h => h)).takeN 1 (by omega)
    exact h
  have HEQ : Hid (∀ W, Keep (fun _ => False) w W → Calls Tryz.prog 11 #[.slice (some ⟨ub, uof, none⟩) 1 uc, .slice (some ⟨vb, vof, none⟩) 1 vc] W (DrawPost W (.bool (decide (g.1 = f.1))))) := Lib.hid (fun W k => by
    have h := eqI_any (l := [g.1]) (m := [f.1]) (hu1 W k) (hv1 W k) (by simp)
    have he : eqJ [g.1] [f.1] = decide (g.1 = f.1) := by unfold eqJ; simp
    rw [he] at h
    exact h)
  obtain ⟨r, hr⟩ : ∃ r, decide (g.1 = f.1) = r := ⟨_, rfl⟩
  rw [hr] at HEQ ⊢
  have HBF := Lib.hid hbf; have HBB := Lib.hid hbb; have HUC := Lib.hid huc; have HVC := Lib.hid hvc
  clear hs hu hv hu1 hv1 hr hbf hbb huc hvc
  go_enter Tryz.func135, Tryz.ntmps135
  go_wp2_with fail
  obtain ⟨w2, hw2⟩ : ∃ w2, w2 = w.alloc (.cells #[.int .i64 0, .slice (some ⟨ub, uof, none⟩) 2 uc] 38) := ⟨_, rfl⟩
  have HKW : Hid (Keep (fun _ => False) w w2) := Lib.hid (by rw [hw2]; exact (Keep.refl _ _).alloc _)
  have HBG : Hid (Blk w2 w.heap.size #[.int .i64 0, .slice (some ⟨ub, uof, none⟩) 2 uc] 38) := Lib.hid (by rw [hw2]; exact Blk.new _ _ _)
  rw [← hw2]
  clear hw2
  have HDC : Hid (∀ W : World, Keep (fun _ => False) w2 W → W.cell? ⟨w.heap.size, 0, none⟩ = some (.int .i64 0) ∧ W.cell? ⟨w.heap.size, 1, none⟩ = some (.slice (some ⟨ub, uof, none⟩) 2 uc) ∧ W.cell? ⟨bf, 0, none⟩ = some (.int .i64 0) ∧ W.cell? ⟨bf, 1, none⟩ = some (.slice (some ⟨vb, vof, none⟩) 2 vc) ∧ W.cell? ⟨bb, 0, none⟩ = some (.slice so 6 sc) ∧ W.cell? ⟨bb, 1, none⟩ = some (.slice fa fn fc)) :=
    Lib.hid (fun W k => ⟨(HBG.out.keep k (fun h => h)).cell 0, (HBG.out.keep k (fun h => h)).cell 1, (HBF.out.keep (HKW.out.trans k (fun _ _ h => h)) (fun h => h)).cell 0, (HBF.out.keep (HKW.out.trans k (fun _ _ h => h)) (fun h => h)).cell 1, (HBB.out.keep (HKW.out.trans k (fun _ _ h => h)) (fun h => h)).cell 0, (HBB.out.keep (HKW.out.trans k (fun _ _ h => h)) (fun h => h)).cell 1⟩)
  go_region_held3 (fun W => W.cell? ⟨w.heap.size, 0, none⟩ = some (.int .i64 0) ∧ W.cell? ⟨w.heap.size, 1, none⟩ = some (.slice (some ⟨ub, uof, none⟩) 2 uc) ∧ W.cell? ⟨bf, 0, none⟩ = some (.int .i64 0) ∧ W.cell? ⟨bf, 1, none⟩ = some (.slice (some ⟨vb, vof, none⟩) 2 vc) ∧ W.cell? ⟨bb, 0, none⟩ = some (.slice so 6 sc) ∧ W.cell? ⟨bb, 1, none⟩ = some (.slice fa fn fc))
    ((refine HDC.out _ ?_; first | exact HKB.out | exact HKB.out.drew | exact HKA.out | exact HKA.out.drew | exact Keep.refl _ _ | exact (Keep.refl _ _).drew))
    ((first
      | (go_at_call 136; refine (HK1.out _ _ _ _ (HKW.out.trans (T := fun _ => False) (by first | exact HKA.out | exact HKA.out.drew | exact Keep.refl _ _ | exact (Keep.refl _ _).drew) (fun _ _ h => h)) (by first | exact HUC.out | exact HVC.out)).mono ?_; rintro e w' ⟨rfl, hk⟩; have HKA := Lib.hid ((show Keep (fun _ => False) w2 _ from (by first | exact HKA.out | exact HKA.out.drew | exact Keep.refl _ _ | exact (Keep.refl _ _).drew)).trans hk (fun _ _ h => h)); clear hk)
      | (go_at_call 11; refine (HEQ.out _ (HKW.out.trans (T := fun _ => False) (by first | exact HKA.out | exact HKA.out.drew | exact Keep.refl _ _ | exact (Keep.refl _ _).drew) (fun _ _ h => h))).mono ?_; rintro e w' ⟨rfl, q, rfl⟩; have HKB := Lib.hid ((show Keep (fun _ => False) w2 _ from (by first | exact HKA.out | exact HKA.out.drew | exact Keep.refl _ _ | exact (Keep.refl _ _).drew)).drewN q))))
  go_wp2_with fail
  go_ret
  exact ⟨rfl, HKW.out.trans HKB.out (fun _ _ h => h)⟩
set_option maxHeartbeats 2000000 in
set_option maxRecDepth 100000 in
theorem block_any {w : World} {sv fv : Value} {vs : List Value} {F : List Fct} {s : Int} {i : Nat} (hs : Rd w 1 sv 6 (icells (sch s))) (hf : FRd w fv vs F) (hi : i < F.length) (hl : F.length ≤ 12) :
    Calls Tryz.prog 90 #[.agg #[sv, fv], .int .i64 i] w (IdxPost w (.int .i64 (firstF F i))) := by
  obtain ⟨so, sc, hse, _⟩ := hs.shape
  subst hse
  obtain ⟨fb, fo, fcp, hfe, c0, c1⟩ := rd_fc hf.rd hi
  subst hfe
  obtain ⟨vb, vo, vc, hvi, _, _, _, _⟩ := hf.ar.shape hi
  rw [hvi] at c1
  have hi1 : ((i : Int) < (F.length : Int)) = True := eq_true (by omega)
  have hX : ∀ (W : World) (bf bb : Nat), Keep (fun _ => False) w W → Blk W bf #[.int .i64 0, .slice (some ⟨vb, vo, none⟩) 2 vc] 38 → Blk W bb #[.slice so 6 sc, .slice (some ⟨fb, fo, none⟩) F.length fcp] 72 →
      Calls Tryz.prog 26 #[.slice (some ⟨fb, fo, none⟩) F.length fcp, .func (.func 135) #[] #[.pointer (some ⟨bf, 0, none⟩), .pointer (some ⟨bb, 0, none⟩)]] W (IdxPost W (.int .i64 (firstF F i))) := fun W bf bb k hbf hbb => by
    have h := idxF_any (w := W) (v := .slice (some ⟨fb, fo, none⟩) F.length fcp) (vs := vs) (F := 135) (capt := #[.pointer (some ⟨bf, 0, none⟩), .pointer (some ⟨bb, 0, none⟩)]) (q := fun j => decide ((fat F j).1 = (fat F i).1)) (by rw [hf.len]; exact (hf.keep k).rd) (enters_of Tryz.func135 (by kernel_rfl) rfl) (fun w1 k1 j hj => by
      have hj' : j < F.length := by rw [← hf.len]; exact hj
      have hk1 := k.trans k1 (fun _ _ h => h)
      have ha := hf.ar.keep hk1
      have hvr := ha.2 i hi
      rw [hvi] at hvr
      exact block1_any (hs.keep hk1 (fun _ _ h => h)) ⟨_, _, _, rfl⟩ (ha.2 j hj') hvr (hbf.keep k1 (fun h => h)) (hbb.keep k1 (fun h => h))) (by rw [hf.len]; omega)
    rw [hf.len] at h
    obtain ⟨a, b, c⟩ := firstF_spec hi
    rw [fstQ_at (k := firstF F i) (by omega) (decide_eq_true b) (fun j hj => decide_eq_false (c j hj))] at h
    exact h
  have HX := Lib.hid hX
  have kW : Keep (fun _ => False) w (w.alloc (.cells #[.slice so 6 sc, .slice (some ⟨fb, fo, none⟩) F.length fcp] 72)) := (Keep.refl _ _).alloc _
  have hbl := World.block_lt_of_cell? _ _ c0
  have d0 : (w.alloc (.cells #[.slice so 6 sc, .slice (some ⟨fb, fo, none⟩) F.length fcp] 72)).cell? ⟨fb, fo + i * 2, none⟩ = some (.int .i64 0) := (kW.cell (p := ⟨fb, fo + i * 2, none⟩) hbl (fun h => h)).trans c0
  have d1 : (w.alloc (.cells #[.slice so 6 sc, .slice (some ⟨fb, fo, none⟩) F.length fcp] 72)).cell? ⟨fb, fo + i * 2 + 1, none⟩ = some (.slice (some ⟨vb, vo, none⟩) 2 vc) := (kW.cell (p := ⟨fb, fo + i * 2 + 1, none⟩) hbl (fun h => h)).trans c1
  obtain ⟨n, hn⟩ : ∃ n, F.length = n := ⟨_, rfl⟩
  rw [hn] at HX d0 d1 hi1 ⊢
  obtain ⟨r, hr⟩ : ∃ r, firstF F i = r := ⟨_, rfl⟩
  rw [hr] at HX ⊢
  clear hs hf hi hl c0 c1 hvi hX kW hbl hn hr
  go_enter Tryz.func90, Tryz.ntmps90
  go_wp2_with (go_at_call 26; refine (HX.out _ w.heap.size.succ w.heap.size (((Keep.refl _ _).alloc _).alloc _) ?_ ((Blk.new w _ _).alloc _)).mono ?_)
  · have h := Blk.new (w.alloc (.cells #[.slice so 6 sc, .slice (some ⟨fb, fo, none⟩) n fcp] 72)) #[.int .i64 0, .slice (some ⟨vb, vo, none⟩) 2 vc] 38
    rw [World.size_alloc] at h
    exact h
  · rintro e w1 ⟨rfl, hk⟩
    have HK := Lib.hid hk; clear hk
    go_wp2
    go_ret
    exact ⟨rfl, (((Keep.refl _ _).alloc _).alloc _).trans HK.out (fun _ _ h => h)⟩
end Go.Proofs.YtkkjonkcjlnohaaGreatDoor

/- repair.read at good facts. -/
namespace Go.Proofs.YtkkjonkcjlnohaaGreatDoor
set_option linter.unusedSimpArgs false
set_option linter.unusedVariables false
set_option linter.unnecessarySimpa false
open Go.RowKit

theorem MapAt.lookOk {w : World} {b n : Nat} {f : Int → Option Value} (h : MapAt w b n f) {t e : TypeId} (ht : Tryz.prog.underlying t = some (.map 3 e)) {z : Value} (hz : ∀ W, (zeroValue e).run Tryz.prog W = .ok z W) {x : Int} (hx : (kI x).wf = true) :
    (Instr.lookup t (.map (some b)) (.int .i64 x) true).run Tryz.prog w = .ok (.tuple #[(f x).getD z, .bool (f x).isSome]) w := by
  obtain ⟨D, h, h1, h2⟩ := h
  obtain ⟨v, ps, hrun, hv⟩ := h.look_ok keyI ht (hz w) (R := rawE) (zd := .held z) (zp := []) rfl (keyOfI hx)
  rw [hrun]
  have hv' : DataW.held v = D.atKey (kI x) (.held z) := by
    have e1 := Option.some.inj hv
    exact congrArg Prod.fst e1
  have h3 := h1 x hx
  rw [h3]
  cases hf : f x with
  | none =>
    rw [hf] at h3
    rw [Go.Maps.atKey_of_not_has h3] at hv'
    cases hv'; rfl
  | some u =>
    rw [h2 x u hx hf] at hv'
    cases hv'; rfl
theorem read1_any {w : World} {u v : Value} {f g : Fct} {bf : Nat} (hu : Rd w 1 u 2 (icells (fl g))) (hv : Rd w 1 v 2 (icells (fl f))) (hbf : Blk w bf #[.int .i64 0, v] 38) (hne : g ≠ f) :
    Calls Tryz.prog 88 #[.agg #[.int .i64 0, u], .pointer (some ⟨bf, 0, none⟩)] w (IdxPost w (.bool false)) := by
  obtain ⟨uo, uc, hue, _⟩ := hu.shape
  obtain ⟨vo, vc, hve, _⟩ := hv.shape
  subst hue hve
  have HEQ : Hid (∀ W, Keep (fun _ => False) w W → Calls Tryz.prog 11 #[.slice uo 2 uc, .slice vo 2 vc] W (DrawPost W (.bool false))) := Lib.hid (fun W k => by
    have h := eqI_any (l := fl g) (m := fl f) (hu.keep k (fun _ _ h => h)) (hv.keep k (fun _ _ h => h)) (by simp [fl])
    have he : eqJ (fl g) (fl f) = false := decide_eq_false (fun e => hne (by
      unfold fl at e
      injection e with e1 e2
      injection e2 with e2 _
      exact Prod.ext e1 e2))
    rw [he] at h
    exact h)
  have hb2 := hbf.alloc (.cells #[.int .i64 0, .slice uo 2 uc] 38)
  have c0 := hb2.cell 0; have c1 := hb2.cell 1
  simp at c0 c1
  clear hu hv hbf hne hb2
  go_enter Tryz.func88, Tryz.ntmps88
  go_wp2_with (go_at_call 11; refine (HEQ.out _ ((Keep.refl _ _).alloc _)).mono ?_; rintro e w' ⟨rfl, q, rfl⟩)
  go_ret
  exact ⟨rfl, ((Keep.refl _ _).alloc _).drewN _⟩
theorem Rd.takeS {w : World} {size : Nat} {ao : Option Addr} {n c : Nat} {xs : List Value} (h : Rd w size (.slice ao n c) n xs) (k : Nat) (hk : k ≤ n) : Rd w size (.slice ao k c) k (xs.take (k * size)) := by
  obtain ⟨h1, h2, h3⟩ := h
  have hkn : k * size ≤ n * size := Nat.mul_le_mul_right _ hk
  refine ⟨by rw [List.length_take]; omega, fun u hu => h2 u (List.mem_of_mem_take hu), ?_⟩
  rcases h3 with ⟨hv, rfl⟩ | ⟨b, o, cap, hv, hc, hm, hx⟩
  · cases hv
    exact .inl ⟨by rw [Nat.le_zero.1 hk], by omega⟩
  · cases hv
    refine .inr ⟨b, o, c, rfl, by omega, hm, fun j u hu => ?_⟩
    rw [List.getElem?_take] at hu
    split at hu
    · exact hx j u hu
    · cases hu
theorem fcells_take : ∀ (vs : List Value) (k : Nat), (fcells vs).take (k * 2) = fcells (vs.take k)
  | [], k => by simp [fcells]
  | a :: l, 0 => by simp [fcells]
  | a :: l, k + 1 => by
    have ih := fcells_take l k
    have e : fcells (a :: l) = .int .i64 0 :: a :: fcells l := rfl
    have e2 : fcells ((a :: l).take (k + 1)) = .int .i64 0 :: a :: fcells (l.take k) := rfl
    rw [e, e2, show (k + 1) * 2 = k * 2 + 1 + 1 by omega, List.take_succ_cons, List.take_succ_cons, ih]
def relF (k : Nat) (x : Int) : Option Value := if x = 0 ∧ 0 < k then some (.int .i64 2) else none
theorem relF_zero : relF 0 = fun _ => none := by
  funext x
  unfold relF
  rw [if_neg (fun h => Nat.lt_irrefl 0 h.2)]
theorem relF_next (k : Nat) : (fun y => if y = 0 then some (Value.int .i64 2) else relF k y) = relF (k + 1) := by
  funext y
  unfold relF
  by_cases e : y = 0
  · rw [if_pos e, if_pos ⟨e, Nat.succ_pos _⟩]
  · rw [if_neg e, if_neg (fun h => e h.1), if_neg (fun h => e h.1)]
theorem relF_pos {k : Nat} (h : 0 < k) : relF k 0 = some (.int .i64 2) := by unfold relF; rw [if_pos ⟨rfl, h⟩]
theorem relF_neg {k : Nat} (h : ¬ 0 < k) : relF k 0 = none := by unfold relF; rw [if_neg (fun q => h q.2)]
def ReadRel (w : World) (F : List Fct) (mb : Nat) (i : Value) (wr : World) : Prop :=
  ∃ k nn : Nat, k ≤ F.length ∧ nn ≤ k ∧ i = .int .i64 k ∧ MapAt wr mb nn (relF k) ∧ w.heap.size ≤ mb ∧ Blk wr w.heap.size #[.slice none 0 0, .slice none 0 0] 72 ∧ Keep (fun _ => False) w wr
def RdPost (w : World) (sv fv : Value) (e : Ending) (w' : World) : Prop := e = .returned (.tuple #[.agg #[sv, fv], .bool true]) ∧ Keep (fun _ => False) w w'
theorem size72 (a b : Value) : (Tryz.prog.info? 72).map (·.size) = some (#[a, b] : Array Value).size := by
  have h : (Tryz.prog.info? 72).map (·.size) = some 2 := by kernel_rfl
  rw [h]; rfl
set_option maxHeartbeats 8000000 in
set_option maxRecDepth 100000 in
theorem rdBooks_any {w : World} {sv fv : Value} {vs : List Value} {F : List Fct} {s : Int} (hs : Rd w 1 sv 6 (icells (sch s))) (hs01 : s = 0 ∨ s = 1) (hf : FRd w fv vs F) (hg : Good12 F) :
    Calls Tryz.prog 55 #[sv, fv] w (RdPost w sv fv) := by
  obtain ⟨so, sc, hse, _⟩ := hs.shape
  obtain ⟨fo, fcp, hfe, hfc, _⟩ := hf.rd.shape
  subst hse hfe
  have hsr : ∀ r, r ∈ sch s → 0 ≤ r ∧ r ≤ 3 := fun r h => by
    simp only [sch, List.mem_cons, List.not_mem_nil, or_false] at h
    rcases hs01 with rfl | rfl <;> omega
  have HSR := Lib.hid hsr
  have HSN : Hid (∀ W, Keep (fun _ => False) w W → Calls Tryz.prog 86 #[.slice so 6 sc] W (OneOf W (sch s))) := Lib.hid (fun W k => minI_any (hs.keep k (fun _ _ h => h)) (by simp [sch]) (by simp [sch]))
  have HSX : Hid (∀ W, Keep (fun _ => False) w W → Calls Tryz.prog 87 #[.slice so 6 sc] W (OneOf W (sch s))) := Lib.hid (fun W k => maxI_any (hs.keep k (fun _ _ h => h)) (by simp [sch]) (by simp [sch]))
  have HF := Lib.hid hf; have HG := Lib.hid hg; have HFC := Lib.hid hfc
  obtain ⟨n, hn⟩ : ∃ n, F.length = n := ⟨_, rfl⟩
  have hn12 : n ≤ 12 := by rw [← hn]; exact hg.len
  have HN := Lib.hid hn
  have h12 : ((12 : Int) < (n : Int)) = False := eq_false (by omega)
  have hmm := @run_makeMap Tryz.prog
  rw [hn]
  rw [hn] at HF
  clear hs hs01 hf hg hsr hfc hn
  go_enter Tryz.func55, Tryz.ntmps55
  go_wp2_with (first
    | (go_at_call 86; refine (HSN.out _ ((Keep.refl _ _).alloc _)).mono ?_; rintro e w1 ⟨r1, rfl, hm1, rfl⟩; have hlo : (r1 < 0) = False := eq_false (by have := HSR.out r1 hm1; omega); have HM1 := Lib.hid hm1; clear hm1)
    | (go_at_call 87; refine (HSX.out _ ((Keep.refl _ _).alloc _)).mono ?_; rintro e w2 ⟨r2, rfl, hm2, rfl⟩; have hhi : (3 < r2) = False := eq_false (by have := HSR.out r2 hm2; omega); have HM2 := Lib.hid hm2; clear hm2))
  obtain ⟨w3, hw3⟩ : ∃ w3, w3 = (w.alloc (.cells #[.slice none 0 0, .slice none 0 0] 72)).alloc (.map #[] 0) := ⟨_, rfl⟩
  have HM3 : Hid (MapAt w3 (w.heap.size + 1) 0 (fun _ => none)) := Lib.hid (by rw [hw3]; have h := MapAt.made (w.alloc (.cells #[.slice none 0 0, .slice none 0 0] 72)); rwa [World.size_alloc] at h)
  have HB3 : Hid (Blk w3 w.heap.size #[.slice none 0 0, .slice none 0 0] 72) := Lib.hid (by rw [hw3]; exact (Blk.new _ _ _).alloc _)
  have HK3 : Hid (Keep (fun _ => False) w w3) := Lib.hid (by rw [hw3]; exact ((Keep.refl _ _).alloc _).alloc _)
  rw [← hw3]
  clear hw3
  obtain ⟨mb, hmb⟩ : ∃ x, w.heap.size + 1 = x := ⟨_, rfl⟩
  have HMB := Lib.hid hmb
  rw [hmb] at HM3 ⊢
  clear hmb
  go_loopw [33] (fun i wr => ReadRel w F mb i wr) (fun i _ => n - (intOf i).toNat)
  case atStart =>
    refine ⟨0, 0, Nat.zero_le _, Nat.le_refl _, rfl, ?_, by have := HMB.out; omega, HB3.out, HK3.out⟩
    rw [relF_zero]
    exact HM3.out
  case round =>
    obtain ⟨k, nn, hk, hnk, rfl, hm, hge, hbr, hke⟩ := hrel
    have HM := Lib.hid hm; have HGE := Lib.hid hge; have HBR := Lib.hid hbr; have HKE := Lib.hid hke
    have HNE : Hid (w.heap.size ≠ mb) := Lib.hid (by have := HMB.out; omega)
    clear hm hge hbr hke
    by_cases hlt : k < n
    · have hlti : ((k : Int) < (n : Int)) = True := eq_true (by omega)
      have hkF : k < F.length := by have := HN.out; omega
      have hcap1 : ((k : Int) ≤ (fcp : Int)) = True := eq_true (by have := HFC.out; have := HN.out; omega)
      have hcap2 : k ≤ fcp := by have := HFC.out; have := HN.out; omega
      have hfw := HF.out.keep HKE.out
      obtain ⟨fb, fof, fcc, hfe, c0, c1⟩ := rd_fc hfw.rd (k := k) hkF
      rw [HN.out] at hfe
      cases hfe
      obtain ⟨vb, vo, vc, hvk, _, _, _, _⟩ := hfw.ar.shape hkF
      rw [hvk] at c1
      have har := hfw.ar.2 k hkF
      rw [hvk] at har
      have hgk := HG.out.at hkF
      have hrg : ∀ r, r ∈ fl (fat F k) → 1 ≤ r ∧ r ≤ 99 := fun r h => by
        simp only [fl, List.mem_cons, List.not_mem_nil, or_false] at h
        rcases h with rfl | rfl <;> omega
      have HRG := Lib.hid hrg
      have HMN : Hid (∀ W, Keep (fun _ => False) wr W → Calls Tryz.prog 86 #[.slice (some ⟨vb, vo, none⟩) 2 vc] W (OneOf W (fl (fat F k)))) := Lib.hid (fun W k => minI_any (har.keep k (fun _ _ h => h)) (by simp [fl]) (by simp [fl]))
      have HMX : Hid (∀ W, Keep (fun _ => False) wr W → Calls Tryz.prog 87 #[.slice (some ⟨vb, vo, none⟩) 2 vc] W (OneOf W (fl (fat F k)))) := Lib.hid (fun W k => maxI_any (har.keep k (fun _ _ h => h)) (by simp [fl]) (by simp [fl]))
      have HCT : Hid (∀ (W : World) (bf : Nat), Keep (fun _ => False) w W → Blk W bf #[.int .i64 0, .slice (some ⟨vb, vo, none⟩) 2 vc] 38 → Calls Tryz.prog 9 #[.slice (some ⟨fb, fof, none⟩) k fcp, .func (.func 88) #[] #[.pointer (some ⟨bf, 0, none⟩)]] W (IdxPost W (.bool false))) := Lib.hid (fun W bf kW hb => by
        have hrd := ((HF.out.keep kW).rd)
        rw [HN.out] at hrd
        have hrk := hrd.takeS k (by omega)
        have htk : (fcells vs).take (k * 2) = fcells (vs.take k) := fcells_take vs k
        have hlk : (vs.take k).length = k := by rw [List.length_take, HF.out.len]; omega
        have hrk2 : Rd W 2 (.slice (some ⟨fb, fof, none⟩) k fcp) k (fcells (vs.take k)) := by rw [← htk]; exact hrk
        have h := contF_any (w := W) (v := .slice (some ⟨fb, fof, none⟩) k fcp) (vs := vs.take k) (F := 88) (capt := #[.pointer (some ⟨bf, 0, none⟩)]) (q := fun _ => false) (by rw [hlk]; exact hrk2) (enters_of Tryz.func88 (by kernel_rfl) rfl) (fun w1 k1 j hj => by
          rw [hlk] at hj
          have kk := kW.trans k1 (fun _ _ h => h)
          have ha := HF.out.ar.keep kk
          have hvt : vat (vs.take k) j = vat vs j := by simp [vat, List.getD, hj]
          rw [hvt]
          have hv2 := ha.2 k hkF
          rw [hvk] at hv2
          exact read1_any (ha.2 j (by omega)) hv2 (hb.keep k1 (fun h => h)) (HG.out.ne (by omega) hkF (by omega))) (by omega)
        rw [anyQ_false (fun _ _ => rfl), ] at h
        exact h)
      clear hfw hvk har hgk hrg hkF
      by_cases hk0 : 0 < k
      · have HK0 := Lib.hid hk0
        have HLK := Lib.hid (show ∀ W, Keep (fun _ => False) wr W → (Instr.lookup 166 (.map (some mb)) (.int .i64 0) true).run Tryz.prog W = .ok (.tuple #[.int .i64 2, .bool true]) W from fun W kW => by
          have h := (HM.out.keep kW (fun h => h)).lookOk (t := 166) (e := 3) Tryz.underlying166 (z := .int .i64 0) Tryz.zeroValue3 (x := 0) (by decide)
          rw [relF_pos hk0] at h
          exact h)
        go_wp2_with (first
          | (go_at_call 86; refine (HMN.out _ ((Keep.refl _ _).alloc _)).mono ?_; rintro e w1 ⟨r1, rfl, hm1, rfl⟩; have hlo : (r1 < 1) = False := eq_false (by have := HRG.out r1 hm1; omega); have HM1 := Lib.hid hm1; clear hm1)
          | (go_at_call 87; go_loud (
             refine (HMX.out _ ((Keep.refl _ _).alloc _)).mono ?_; rintro e w2 ⟨r2, rfl, hm2, rfl⟩; have hhi : (99 < r2) = False := eq_false (by have := HRG.out r2 hm2; omega); have HM2 := Lib.hid hm2; clear hm2
             have kA : Keep (fun _ => False) wr (wr.alloc (.cells #[.int .i64 0, .slice (some ⟨vb, vo, none⟩) 2 vc] 38)) := (Keep.refl _ _).alloc _
             have hlook := HLK.out _ kA
             obtain ⟨w7, hrun, hm7, hk7, hs7⟩ := (HM.out.keep kA (fun h => h)).store (t := 166) (e := 3) Tryz.underlying166 (by unfold maxLen; omega) (x := 0) (by decide) (.int .i64 2)
             have HM7 := Lib.hid hm7; have HK7 := Lib.hid hk7; have HS7 := Lib.hid hs7
             have hbn : wr.heap.size ≠ mb := by have := HM.out.lt; omega
             have HBX := Lib.hid ((Blk.new wr #[.int .i64 0, .slice (some ⟨vb, vo, none⟩) 2 vc] 38).keep hk7 hbn)
             have HKA7 : Hid (Keep (fun _ => False) w w7) := Lib.hid ((HKE.out.trans kA (fun _ _ h => h)).trans hk7 (fun i hi e => by have := HGE.out; omega))
             clear hm7 hk7 hs7 hbn kA))
          | (go_at_call 9; go_loud (refine (HCT.out w7 wr.heap.size HKA7.out HBX.out).mono ?_; rintro e w8 ⟨rfl, hk8⟩; have HK8 := Lib.hid hk8; clear hk8)))
        go_roundw
        case rel =>
          have hm8 := HM7.out.keep HK8.out (fun h => h)
          rw [relF_next] at hm8
          have kA : Keep (fun _ => False) wr (wr.alloc (.cells #[.int .i64 0, .slice (some ⟨vb, vo, none⟩) 2 vc] 38)) := (Keep.refl _ _).alloc _
          refine ⟨k + 1, nn + 1, by have := HN.out; omega, by omega, by go_num, hm8, HGE.out, ((HBR.out.keep kA (fun h => h)).keep HK7.out HNE.out).keep HK8.out (fun h => h), HKA7.out.trans HK8.out (fun _ _ h => h)⟩
        case measure => simp [intOf]; omega
      · have HK0 := Lib.hid hk0
        have HLK := Lib.hid (show ∀ W, Keep (fun _ => False) wr W → (Instr.lookup 166 (.map (some mb)) (.int .i64 0) true).run Tryz.prog W = .ok (.tuple #[.int .i64 0, .bool false]) W from fun W kW => by
          have h := (HM.out.keep kW (fun h => h)).lookOk (t := 166) (e := 3) Tryz.underlying166 (z := .int .i64 0) Tryz.zeroValue3 (x := 0) (by decide)
          rw [relF_neg hk0] at h
          exact h)
        go_wp2_with (first
          | (go_at_call 86; refine (HMN.out _ ((Keep.refl _ _).alloc _)).mono ?_; rintro e w1 ⟨r1, rfl, hm1, rfl⟩; have hlo : (r1 < 1) = False := eq_false (by have := HRG.out r1 hm1; omega); have HM1 := Lib.hid hm1; clear hm1)
          | (go_at_call 87; go_loud (
             refine (HMX.out _ ((Keep.refl _ _).alloc _)).mono ?_; rintro e w2 ⟨r2, rfl, hm2, rfl⟩; have hhi : (99 < r2) = False := eq_false (by have := HRG.out r2 hm2; omega); have HM2 := Lib.hid hm2; clear hm2
             have kA : Keep (fun _ => False) wr (wr.alloc (.cells #[.int .i64 0, .slice (some ⟨vb, vo, none⟩) 2 vc] 38)) := (Keep.refl _ _).alloc _
             have hlook := HLK.out _ kA
             obtain ⟨w7, hrun, hm7, hk7, hs7⟩ := (HM.out.keep kA (fun h => h)).store (t := 166) (e := 3) Tryz.underlying166 (by unfold maxLen; omega) (x := 0) (by decide) (.int .i64 2)
             have HM7 := Lib.hid hm7; have HK7 := Lib.hid hk7; have HS7 := Lib.hid hs7
             have hbn : wr.heap.size ≠ mb := by have := HM.out.lt; omega
             have HBX := Lib.hid ((Blk.new wr #[.int .i64 0, .slice (some ⟨vb, vo, none⟩) 2 vc] 38).keep hk7 hbn)
             have HKA7 : Hid (Keep (fun _ => False) w w7) := Lib.hid ((HKE.out.trans kA (fun _ _ h => h)).trans hk7 (fun i hi e => by have := HGE.out; omega))
             clear hm7 hk7 hs7 hbn kA))
          | (go_at_call 9; go_loud (refine (HCT.out w7 wr.heap.size HKA7.out HBX.out).mono ?_; rintro e w8 ⟨rfl, hk8⟩; have HK8 := Lib.hid hk8; clear hk8)))
        go_roundw
        case rel =>
          have hm8 := HM7.out.keep HK8.out (fun h => h)
          rw [relF_next] at hm8
          have kA : Keep (fun _ => False) wr (wr.alloc (.cells #[.int .i64 0, .slice (some ⟨vb, vo, none⟩) 2 vc] 38)) := (Keep.refl _ _).alloc _
          refine ⟨k + 1, nn + 1, by have := HN.out; omega, by omega, by go_num, hm8, HGE.out, ((HBR.out.keep kA (fun h => h)).keep HK7.out HNE.out).keep HK8.out (fun h => h), HKA7.out.trans HK8.out (fun _ _ h => h)⟩
        case measure => simp [intOf]; omega
    · have hke : k = n := by have := HN.out; omega
      subst hke
      have hji : ((k : Int) < (k : Int)) = False := by simp
      have f0 := HBR.out.free 0; have f1 := HBR.out.free 1; have c0 := HBR.out.cell 0; have c1 := HBR.out.cell 1
      simp at c0 c1
      go_wp2_with fail
      (try simp only [Exit.inBlock, Exit.then])
      refine bodyPost_ret (results_cell_row2 rfl _ _ w.heap.size 72 #[.slice so 6 sc, .slice fo k fcp] _ rfl ?_ Tryz.underlying72 rfl (size72 _ _)) rfl ?_
      · have h := (HBR.out.set 0 (.slice so 6 sc)).set 1 (.slice fo k fcp)
        simpa using h
      · exact ⟨rfl, (HKE.out.setCell _ _ (fun h => absurd h (Nat.lt_irrefl _))).setCell _ _ (fun h => absurd h (Nat.lt_irrefl _))⟩
end Go.Proofs.YtkkjonkcjlnohaaGreatDoor

/- repair.books.chosen: the facts of a set. -/
namespace Go.Proofs.YtkkjonkcjlnohaaGreatDoor
set_option linter.unusedSimpArgs false
set_option linter.unusedVariables false
set_option linter.unnecessarySimpa false
open Go.RowKit

def ChosenPost (w : World) (F : List Fct) (r : Nat) (e : Ending) (w' : World) : Prop :=
  ∃ (v : Value) (us : List Value), e = .returned v ∧ FRd w' v us (pick F r) ∧ Keep (fun _ => False) w w'
def ChRel (w : World) (vs : List Value) (F : List Fct) (r : Nat) (c v : Value) (wr : World) : Prop :=
  ∃ (x : Nat) (l : List Nat), c = .int .i64 x ∧ x < 2 ^ F.length ∧ elems r = l ++ elems x ∧ (∀ j ∈ l, j < F.length) ∧ wr.ownsRow w.heap.size 38 2 v l.length (fcells (l.map (vat vs))) ∧ Keep (fun _ => False) w wr
theorem args_map {w : World} {vs : List Value} {F : List Fct} (h : ArgsOf w vs F) : ∀ (l : List Nat), (∀ j ∈ l, j < F.length) → ArgsOf w (l.map (vat vs)) (l.map (fat F)) := by
  intro l hl
  refine ⟨by simp, fun j hj => ?_⟩
  rw [List.length_map] at hj
  have e1 : fat (l.map (fat F)) j = fat F (l.getD j 0) := by simp [fat, List.getD, hj]
  have e2 : vat (l.map (vat vs)) j = vat vs (l.getD j 0) := by simp [vat, List.getD, hj]
  rw [e1, e2]
  refine h.2 _ (hl _ ?_)
  have : l.getD j 0 = l[j] := by simp [List.getD, hj]
  rw [this]; exact List.getElem_mem _
set_option maxHeartbeats 2000000 in
set_option maxRecDepth 100000 in
theorem chosen_any {w : World} {sv fv : Value} {vs : List Value} {F : List Fct} {r : Nat} (hsv : ∃ (a : Option Addr) (n c : Nat), sv = .slice a n c) (hf : FRd w fv vs F) (hl : F.length ≤ 12) (hr : r < 2 ^ F.length) (hT : TabAt 6 Lib.deBruijn64tab w) (h6 : 6 < w.heap.size) :
    Calls Tryz.prog 58 #[.agg #[sv, fv], .int .i64 r] w (ChosenPost w F r) := by
  obtain ⟨sa, sn, sc, rfl⟩ := hsv
  obtain ⟨fo, fcp, hfe, hfc, _⟩ := hf.rd.shape
  subst hfe
  have HF := Lib.hid hf; have HT := Lib.hid hT; have HR := Lib.hid hr
  obtain ⟨n, hn⟩ : ∃ n, F.length = n := ⟨_, rfl⟩
  have HN := Lib.hid hn
  have HFR : Hid (∀ W, Keep (fun _ => False) w W → FRd W (.slice fo n fcp) vs F) := Lib.hid (fun W k => by rw [← hn]; exact hf.keep k)
  rw [hn] at hl ⊢
  have h12 := two_12 hl
  clear hf hT hr hn
  go_enter Tryz.func58, Tryz.ntmps58
  go_wp2_with fail
  obtain ⟨w2, hw2⟩ : ∃ w2, w2 = w.alloc (.cells #[.slice sa sn sc, .slice fo n fcp] 72) := ⟨_, rfl⟩
  have HB : Hid (Blk w2 w.heap.size #[.slice sa sn sc, .slice fo n fcp] 72) := Lib.hid (by rw [hw2]; exact Blk.new _ _ _)
  have HK2 : Hid (Keep (fun _ => False) w w2) := Lib.hid (by rw [hw2]; exact (Keep.refl _ _).alloc _)
  have HSZ : Hid (w2.heap.size = w.heap.size + 1) := Lib.hid (by rw [hw2]; simp)
  rw [← hw2]
  clear hw2
  go_loopw [1, 5] (fun c v wr => ChRel w2 vs F r c v wr) (fun c _ _ => (intOf c).toNat)
  case atStart => exact ⟨r, [], rfl, HR.out, rfl, fun j hj => absurd hj List.not_mem_nil, World.ownsRow_nil _ _ _ _, Keep.refl _ _⟩
  case round =>
    obtain ⟨x, l, rfl, hx, hel, hlm, hown, hkeep⟩ := hrel
    obtain ⟨a5, c5, hve, _⟩ := ownsRow_shape hown
    subst hve
    have HX := Lib.hid hx; have HE := Lib.hid hel; have HLM := Lib.hid hlm; have HO := Lib.hid hown; have HKE := Lib.hid hkeep
    clear hx hel hlm hown hkeep
    by_cases h0 : x = 0
    · subst h0
      go_wp2_with fail
      go_ret
      have hl2 : elems r = l := by rw [HE.out, elems_zero, List.append_nil]
      have kk := HK2.out.trans HKE.out (fun _ _ h => h)
      have ha := args_map (HF.out.ar.keep kk) l HLM.out
      refine ⟨_, l.map (vat vs), rfl, ⟨?_, ?_⟩, kk⟩
      · have e : (pick F r).length = l.length := by unfold pick; rw [hl2, List.length_map]
        rw [e]
        exact ownsRow_rd HO.out (fcells_one ha.one)
      · have e : pick F r = l.map (fat F) := by unfold pick; rw [hl2]
        rw [e]
        exact ha
    · have hxl : x < 4096 := by have := HX.out; rw [HN.out] at this; omega
      have hst := elems_step x hxl h0
      have hne : ((x : Int) != 0) = true := by rw [bne_iff_ne]; omega
      have hkk := HK2.out.trans HKE.out (fun _ _ h => h)
      have HT' := Lib.hid (show TabAt 6 Lib.deBruijn64tab wr.drew from fun j hj => (hkk.cell (p := ⟨6, j, none⟩) h6 (fun h => h)).trans (HT.out j hj))
      have hcn : Lib.ctz 64 x < n := by
        have hm : Lib.ctz 64 x ∈ elems x := by rw [hst]; exact List.mem_cons_self ..
        have hb := (mem_elems.1 hm).2
        rcases Nat.lt_or_ge (Lib.ctz 64 x) n with h | h
        · exact h
        · have h2 := HX.out
          rw [HN.out] at h2
          have := Nat.testBit_lt_two_pow (Nat.lt_of_lt_of_le h2 (Nat.pow_le_pow_right (by decide) h))
          rw [this] at hb; cases hb
      have hll : l.length + 1 ≤ 12 := by
        have h1 := congrArg List.length HE.out
        rw [hst] at h1
        have h2 := elems_len r
        simp at h1
        omega
      have hTZ : ∀ W, W = wr.drew → Calls Tryz.prog 92 #[.int .u64 x] W fun e w' => e = .returned (.int .i64 (Lib.ctz 64 x)) ∧ W = w' := fun W e => by subst e; exact tz_any x hxl h0 _ HT'.out
      obtain ⟨kk, hkk2⟩ : ∃ kk, Lib.ctz 64 x = kk := ⟨_, rfl⟩
      have HCT := Lib.hid hkk2
      rw [hkk2] at hst hcn hTZ
      have hand : bits BinOp.and IntKind.i64 (x : Int) ((x : Int) - 1) = ((x &&& (x - 1) : Nat) : Int) := by
        rw [show ((x : Int) - 1) = ((x - 1 : Nat) : Int) by omega]
        exact i64_and_nat x (x - 1) (by omega) (by omega)
      have hlow : x &&& (x - 1) < x := Nat.lt_of_le_of_lt Nat.and_le_right (by omega)
      have HTZ := Lib.hid hTZ; have HST := Lib.hid hst; have HXL := Lib.hid hxl; have H0 := Lib.hid h0
      have hkn : ((kk : Int) < (n : Int)) = True := eq_true (by omega)
      have b0 := (HB.out.keep HKE.out (fun h => h)).cell 0
      have b1 := (HB.out.keep HKE.out (fun h => h)).cell 1
      simp at b0 b1
      obtain ⟨fb, fof, fcc, hfe, c0, c1⟩ := rd_fc (HFR.out wr hkk).rd (k := kk) (by rw [HN.out]; omega)
      rw [HN.out] at hfe
      cases hfe
      obtain ⟨vb, vo, vc, hvk, _, _, _, _⟩ := (HFR.out wr hkk).ar.shape (j := kk) (by rw [HN.out]; omega)
      rw [hvk] at c1
      have HVK := Lib.hid hvk
      have hsub : ((x : Int) - 1) = ((x - 1 : Nat) : Int) := by omega
      have HKK := Lib.hid hkk
      have hx1 : (1 : Int) ≤ x := by omega
      clear hst hTZ hkk hkk2 hvk hsub
      go_wp2_with fail
      have hfbl : fb < w.heap.size := by
        obtain ⟨fb', fof', fcc', hfe', d0, _⟩ := rd_fc (HFR.out w (Keep.refl _ _)).rd (k := kk) (by rw [HN.out]; omega)
        rw [HN.out] at hfe'
        cases hfe'
        exact World.block_lt_of_cell? _ _ d0
      have hw2s : w2.heap.size = w.heap.size + 1 := HSZ.out
      have HDC : Hid (∀ W : World, Keep (fun i => w2.heap.size ≤ i) wr W → W.cell? ⟨w.heap.size, 0, none⟩ = some (.slice sa sn sc) ∧ W.cell? ⟨w.heap.size, 1, none⟩ = some (.slice (some ⟨fb, fof, none⟩) n fcp) ∧ W.cell? ⟨fb, fof + kk * 2, none⟩ = some (.int .i64 0) ∧ W.cell? ⟨fb, fof + kk * 2 + 1, none⟩ = some (.slice (some ⟨vb, vo, none⟩) 2 vc)) := Lib.hid (fun W k => ⟨(k.cell (World.block_lt_of_cell? _ _ b0) (fun h => by have h' : w2.heap.size ≤ w.heap.size := h; omega)).trans b0, (k.cell (World.block_lt_of_cell? _ _ b1) (fun h => by have h' : w2.heap.size ≤ w.heap.size := h; omega)).trans b1, (k.cell (World.block_lt_of_cell? _ _ c0) (fun h => by have h' : w2.heap.size ≤ fb := h; omega)).trans c0, (k.cell (World.block_lt_of_cell? _ _ c1) (fun h => by have h' : w2.heap.size ≤ fb := h; omega)).trans c1⟩)
      clear hfbl hw2s
      have HTZ2 : Hid (∀ W : World, Keep (fun _ => False) wr W → Calls Tryz.prog 92 #[.int .u64 x] W fun e w' => e = .returned (.int .i64 kk) ∧ W = w') := Lib.hid (fun W k => by
        have h := tz_any x HXL.out H0.out W (fun j hj => (k.cell (p := ⟨6, j, none⟩) (Nat.lt_of_lt_of_le h6 HKK.out.size) (fun h => h)).trans (HT'.out j hj))
        rw [HCT.out] at h
        exact h)
      clear b0 b1 c0 c1
      have hwx : IntKind.u64.wrap (x : Int) = (x : Int) := by simp [IntKind.wrap, IntKind.bits, IntKind.signed]; omega
      go_region_held3 (fun W => W.cell? ⟨w.heap.size, 0, none⟩ = some (.slice sa sn sc) ∧ W.cell? ⟨w.heap.size, 1, none⟩ = some (.slice (some ⟨fb, fof, none⟩) n fcp) ∧ W.cell? ⟨fb, fof + kk * 2, none⟩ = some (.int .i64 0) ∧ W.cell? ⟨fb, fof + kk * 2 + 1, none⟩ = some (.slice (some ⟨vb, vo, none⟩) 2 vc))
        ((refine HDC.out _ ?_; repeat (first | exact HK9.out | exact (Keep.refl _ _) | apply Keep.drewN | apply Keep.drew | apply Keep.alloc)))
        ((first
          | (go_at_call 92; refine (HTZ2.out _ (by repeat (first | exact (Keep.refl _ _) | apply Keep.drewN | apply Keep.drew | apply Keep.alloc))).mono ?_; rintro e w' ⟨rfl, rfl⟩)
          | (refine oper_app (w := wr.drew.alloc (.cells #[.int .i64 0, .slice (some ⟨vb, vo, none⟩) 2 vc] 38)) (.tmp 12) (.tmp 20) 33 33 rfl 38 zFact 2 32 Tryz.underlying33 info38 rfl (ownsRow_keep HO.out ((Keep.refl (fun _ => False) wr).drew.alloc _) (fun _ _ h => h)) rfl (Src.new (P := Tryz.prog) Tryz.underlying33 wr.drew 1 [.int .i64 0, .slice (some ⟨vb, vo, none⟩) 2 vc] 38 rfl (by simp [Value.oneCell'])) rfl (by unfold maxLen; omega) (by omega) (by have := HKE.out.size; simp; omega) (fun v9 w9 happ => ?_)
             have HK9 := Lib.hid (show Keep (fun i => w2.heap.size ≤ i) wr w9 from (((Keep.refl _ wr).drew.alloc _).trans happ.keep (fun i hi e => (HO.out.lt i e).1)))
             have HA := Lib.hid happ; clear happ)))
      go_wp2_with fail
      refine ⟨?_, by simp [intOf]; omega⟩
      have ha := HA.out
      refine ⟨x &&& (x - 1), l ++ [kk], rfl, Nat.lt_of_le_of_lt Nat.and_le_left HX.out, by rw [HE.out, HST.out]; simp, fun j hj => ?_, ?_, HKE.out.trans HK9.out (fun i hi e => by have e' : w2.heap.size ≤ i := e; omega)⟩
      · rcases List.mem_append.1 hj with h | h
        · exact HLM.out j h
        · rw [List.mem_singleton.1 h, HN.out]; exact hcn
      · rw [List.length_append, List.map_append, fcells_append]
        have e : fcells ([kk].map (vat vs)) = [.int .i64 0, .slice (some ⟨vb, vo, none⟩) 2 vc] := by simp [fcells, HVK.out]
        rw [e]
        exact ha.own
end Go.Proofs.YtkkjonkcjlnohaaGreatDoor

/- repair.books.repairs: the map of blocks. -/
namespace Go.Proofs.YtkkjonkcjlnohaaGreatDoor
set_option linter.unusedSimpArgs false
set_option linter.unusedVariables false
set_option linter.unnecessarySimpa false
open Go.RowKit

/-- The map of blocks, as far as k facts go. -/
def blkF (F : List Fct) (k : Nat) (x : Int) : Option Value := if 0 ≤ x ∧ blkM F k x.toNat ≠ 0 then some (.int .i64 (blkM F k x.toNat)) else none
theorem blkF_zero (F : List Fct) : blkF F 0 = fun _ => none := by
  funext x
  unfold blkF
  rw [if_neg (fun h => h.2 rfl)]
theorem blkF_look (F : List Fct) (k b : Nat) : (blkF F k (b : Int)).getD (.int .i64 0) = .int .i64 (blkM F k b) := by
  unfold blkF
  by_cases h : blkM F k b = 0
  · rw [if_neg (fun q => q.2 (by simpa using h)), h]; rfl
  · rw [if_pos ⟨by omega, by simpa using h⟩]; simp
theorem blkF_next (F : List Fct) (k : Nat) : (fun y => if y = ((firstF F k : Nat) : Int) then some (Value.int .i64 ((blkM F k (firstF F k) ||| 2 ^ k : Nat) : Int)) else blkF F k y) = blkF F (k + 1) := by
  funext y
  have hp : (blkM F k (firstF F k) ||| 2 ^ k) ≠ 0 := bit_ne (i := k) (by rw [Nat.testBit_or, Nat.testBit_two_pow_self]; simp)
  by_cases e : y = ((firstF F k : Nat) : Int)
  · subst e
    unfold blkF
    simp only [Int.toNat_natCast, if_true]
    have e2 : blkM F (k + 1) (firstF F k) = blkM F k (firstF F k) ||| 2 ^ k := by simp [blkM]
    rw [e2, if_pos ⟨by omega, hp⟩]
  · rw [if_neg e]
    unfold blkF
    by_cases h0 : 0 ≤ y
    · have hne : firstF F k ≠ y.toNat := fun h => e (by omega)
      have e2 : blkM F (k + 1) y.toNat = blkM F k y.toNat := by simp [blkM, hne]
      rw [e2]
    · rw [if_neg (fun h => h0 h.1), if_neg (fun h => h0 h.1)]
theorem kI_small {x : Nat} (h : x ≤ 100) : (kI (x : Int)).wf = true := by
  have : ∀ x : Fin 101, (kI (x.val : Int)).wf = true := by decide
  exact this ⟨x, by omega⟩
def BRel (w : World) (F : List Fct) (sv fv : Value) (mb : Nat) (i : Value) (wr : World) : Prop :=
  ∃ k nn : Nat, k ≤ F.length ∧ nn ≤ k ∧ i = .int .i64 k ∧ MapAt wr mb nn (blkF F k) ∧ w.heap.size ≤ mb ∧ Blk wr w.heap.size #[sv, fv] 72 ∧ w.heap.size ≠ mb ∧ Keep (fun _ => False) w wr
theorem low_bit {x : Nat} (hx : x < 4096) (h0 : x ≠ 0) : bits BinOp.and IntKind.i64 (x : Int) (-(x : Int)) = ((2 ^ Lib.ctz 64 x : Nat) : Int) := by
  have h := below4096 (q := fun x => x = 0 ∨ bits BinOp.and IntKind.i64 (x : Int) (-(x : Int)) = ((2 ^ Lib.ctz 64 x : Nat) : Int)) (by decide +kernel) x hx
  exact h.resolve_left h0
theorem RangeAt.rowNe {w : World} {b r n : Nat} {f : Int → Option Value} {left : Int → Bool} {cnt : Nat} (h : RangeAt w b r n f left cnt) {base : Nat} {e : TypeId} {size : Nat} {v : Value} {m : Nat} {xs : List Value} (ho : w.ownsRow base e size v m xs) : v.ownBlock ≠ some r ∧ v.ownBlock ≠ some b := by
  refine ⟨fun hb => ?_, fun hb => ?_⟩
  · obtain ⟨cur, fz, hc⟩ := ownsRow_cells ho hb
    obtain ⟨D, lf, ⟨es, clock, since, seen, c0, hm, F, e2, e3, hr, _⟩, _⟩ := h
    rw [hc] at hr; cases hr
  · obtain ⟨cur, fz, hc⟩ := ownsRow_cells ho hb
    obtain ⟨D, lf, ⟨es, clock, _, _, _, hm, _⟩, _⟩ := h
    rw [hc] at hm; cases hm
theorem rowNew {w : World} {base : Nat} (hb : base ≤ w.heap.size) (l : List Nat) (hl : l.length ≤ 1000) : (w.alloc (.cells (ncells l).toArray 3)).ownsRow base 3 1 (.slice (some ⟨w.heap.size, 0, none⟩) l.length l.length) l.length (ncells l) :=
  ⟨by simp [ncells], .inr ⟨w.heap.size, l.length, _, rfl, hb, heap_alloc_new _ _, Nat.le_refl _, by unfold maxLen; omega, by simp [ncells], by rw [Nat.mul_one]; exact List.take_of_length_le (by simp [ncells])⟩⟩
theorem ncells_length (l : List Nat) : (ncells l).length = l.length := by simp [ncells]
theorem ncells_one (l : List Nat) : ∀ u ∈ ncells l, u.oneCell' = true := by
  intro u hu; obtain ⟨_, _, rfl⟩ := List.mem_map.1 hu; rfl
theorem ncells_append (a b : List Nat) : ncells (a ++ b) = ncells a ++ ncells b := by simp [ncells]
theorem rd_nat {w : World} {ao : Option Addr} {n cap : Nat} {l : List Nat} (h : Rd w 1 (.slice ao n cap) n (ncells l)) {k : Nat} (hk : k < n) : ∃ b o, ao = some ⟨b, o, none⟩ ∧ w.cell? ⟨b, o + k, none⟩ = some (.int .i64 ((l.getD k 0 : Nat) : Int)) := by
  have hl : l.length = n := by have := h.1; rw [ncells_length] at this; omega
  rcases h.2.2 with ⟨_, h'⟩ | ⟨b, o, c, h2, _, _, hx⟩
  · omega
  · cases h2
    refine ⟨b, o, rfl, hx k _ ?_⟩
    simp [ncells, List.getD, show k < l.length by omega]
theorem stepO_len (s : Nat) : ∀ out : List Nat, (stepO out s).length ≤ 12 * out.length
  | [] => by simp [stepO]
  | r :: out => by
    have ih := stepO_len s out
    have h2 := elems_len s
    have e : stepO (r :: out) s = (elems s).map (fun j => r ||| 2 ^ j) ++ stepO out s := by simp [stepO]
    rw [e, List.length_append, List.length_map, List.length_cons]
    omega
theorem stepO_take {out : List Nat} {s k : Nat} (h : k < out.length) : stepO (out.take (k + 1)) s = stepO (out.take k) s ++ (elems s).map fun j => out.getD k 0 ||| 2 ^ j := by
  have e : out.getD k 0 = out[k] := by simp [List.getD, h]
  unfold stepO
  rw [List.take_succ_eq_append_getElem h, e, List.flatMap_append, List.flatMap_cons, List.flatMap_nil, List.append_nil]
theorem prods_snoc (l : List Nat) (s : Nat) : prods (l ++ [s]) = stepO (prods l) s := by simp [prods, List.foldl_append]
theorem pow12 {c : Nat} (h : c ≤ 12) : 12 ^ c ≤ 8916100448256 := Nat.le_trans (Nat.pow_le_pow_right (by decide) h) (by decide)
theorem prods_lt {F : List Fct} {ds : List Nat} (hl : F.length ≤ 12) : ∀ m ∈ prods (ds.map (blkM F F.length)), m < 4096 := by
  intro m hm
  have h := fold_lt (n := F.length) (ds.map (blkM F F.length)) [0] (fun r hr => by simp at hr; subst hr; exact Nat.two_pow_pos _) (fun s hs => by
    obtain ⟨b, _, rfl⟩ := List.mem_map.1 hs
    exact blkM_lt F b _) m hm
  have := two_12 hl
  omega
/-- slices.Sort at an owned row of small numbers. -/
theorem sortR {base : Nat} {w : World} {v : Value} {R0 : List Nat} (h : w.ownsRow base 3 1 v R0.length (ncells R0)) (hl : R0.length ≤ 8916100448256) :
    Calls Tryz.prog 91 #[v] w fun e w' => e = .returned (.tuple #[]) ∧ ∃ R : List Nat, R.Perm R0 ∧ w'.ownsRow base 3 1 v R.length (ncells R) ∧ Keep (fun k => v.ownBlock = some k) w w' := by
  rcases h.2 with ⟨hv, h0⟩ | ⟨g, cap, cur, hv, hb, hgg, hnc, hcm, hcs, htake⟩
  · subst hv
    refine (Tryz.slices_Sort_int_none none 0 w).mono ?_
    rintro e w' ⟨rfl, rfl⟩
    have : R0 = [] := List.eq_nil_of_length_eq_zero h0
    subst this
    exact ⟨rfl, [], List.Perm.refl _, h, Keep.refl _ _⟩
  · subst hv
    have hgl : g < w.heap.size := (Array.getElem?_eq_some_iff.1 hgg).1
    obtain ⟨zs, hzs⟩ : ∃ zs : List Int, R0.map Int.ofNat = zs := ⟨_, rfl⟩
    have hzl : zs.length = R0.length := by rw [← hzs]; simp
    have hnz : ncells R0 = zs.map (Value.int .i64) := by rw [← hzs]; simp [ncells]
    have hH : Go.Sort.Holds (Value.int .i64) w g 0 zs.toArray := fun j hj => by
      have hj' : j < zs.length := by simpa using hj
      refine ⟨?_, by simp [World.frozen?, hgg]⟩
      rw [cell_of_row w g (0 + j) cur 3 (0, 0) hgg, Nat.zero_add]
      have hx : (ncells R0)[j]? = some (Value.int .i64 (zs.toArray[j]!)) := by rw [hnz]; simp [hj']
      rw [← htake, List.getElem?_take] at hx
      split at hx
      · rw [Array.getElem?_toList] at hx; exact hx
      · cases hx
    have hs := Tryz.slices_Sort_int g 0 cap zs w hH hgl (by omega)
    rw [hzl] at hs
    refine hs.mono ?_
    rintro e w' ⟨rfl, q, os, rfl⟩
    obtain ⟨ys, hys⟩ : ∃ ys, zs.mergeSort (fun x y => decide (x ≤ y)) = ys := ⟨_, rfl⟩
    have hp : ys.Perm zs := by rw [← hys]; exact List.mergeSort_perm _ _
    rw [hys]
    have hyl : ys.length = R0.length := by rw [hp.length_eq, hzl]
    have hnat : ∀ y ∈ ys, ((y.toNat : Nat) : Int) = y := fun y hy => by
      have := hp.mem_iff.1 hy
      rw [← hzs] at this
      obtain ⟨m, _, rfl⟩ := List.mem_map.1 this
      simp
    have hyn : (ys.map Int.toNat).map Int.ofNat = ys := by
      rw [List.map_map]
      conv => rhs; rw [← List.map_id ys]
      exact List.map_congr_left (fun y hy => hnat y hy)
    have hk := sort1_keep (enc := Value.int .i64) (n := q) (off := 0) (os := os) (d := ys.toArray) hgl
    have hh := heap_sort1 (enc := Value.int .i64) (n := q) (os := os) ys.toArray hgg
    refine ⟨rfl, ys.map Int.toNat, ?_, ⟨by simp [ncells], .inr ⟨g, cap, _, ?_, hb, hh, ?_, hcm, by simp [Go.Sort.putCells]; omega, ?_⟩⟩, hk.mono (fun k _ e => by rw [e]; rfl)⟩
    · have h1 := hp.map Int.toNat
      rw [← hzs, List.map_map] at h1
      have e : R0.map (Int.toNat ∘ Int.ofNat) = R0 := by
        conv => rhs; rw [← List.map_id R0]
        exact List.map_congr_left (fun y _ => rfl)
      rw [e] at h1
      exact h1
    · rw [List.length_map, hyl]
    · rw [List.length_map, hyl]; exact hnc
    · have e := putCells_take (enc := Value.int .i64) ys.toArray cur (by simp; omega)
      have e2 : ncells (ys.map Int.toNat) = ys.map (Value.int .i64) := by
        unfold ncells
        rw [List.map_map]
        exact List.map_congr_left (fun y hy => by show Value.int .i64 ((y.toNat : Nat) : Int) = _; rw [hnat y hy])
      rw [e2, List.length_map, Nat.mul_one]
      simpa using e
/-- The loop over the blocks: those of ds are done. -/
def PRel (base : Nat) (F : List Fct) (mb it nn : Nat) (wb : World) (v : Value) (wx : World) : Prop :=
  ∃ (left : Int → Bool) (cnt : Nat) (ds : List Nat), wx.ownsRow base 3 1 v (prods (ds.map (blkM F F.length))).length (ncells (prods (ds.map (blkM F F.length)))) ∧ RangeAt wx mb it nn (blkF F F.length) left cnt ∧ ds.Nodup ∧
    (∀ b ∈ ds, ∃ i, i < F.length ∧ firstF F i = b) ∧ (∀ x, (kI x).wf = true → left x = ((blkF F F.length x).isSome && decide (∀ b ∈ ds, (b : Int) ≠ x))) ∧ cnt + ds.length ≤ 12 ∧ (prods (ds.map (blkM F F.length))).length ≤ 12 ^ ds.length ∧ Keep (fun k => k = it) wb wx
def P3Rel (base : Nat) (R0 : List Nat) (s : Nat) (w6 : World) (v i : Value) (wx : World) : Prop :=
  ∃ k : Nat, k ≤ R0.length ∧ i = .int .i64 k ∧ wx.ownsRow base 3 1 v (stepO (R0.take k) s).length (ncells (stepO (R0.take k) s)) ∧ Keep (fun _ => False) w6 wx
def P6Rel (base : Nat) (P0 : List Nat) (r s : Nat) (w6 : World) (v c : Value) (wx : World) : Prop :=
  ∃ (x : Nat) (l : List Nat), c = .int .i64 x ∧ x < 4096 ∧ elems s = l ++ elems x ∧ wx.ownsRow base 3 1 v (P0.length + l.length) (ncells (P0 ++ l.map fun j => r ||| 2 ^ j)) ∧ Keep (fun _ => False) w6 wx
def RepPost (w : World) (F : List Fct) (e : Ending) (w' : World) : Prop :=
  ∃ (v : Value) (R : List Nat), e = .returned v ∧ Rd w' 1 v R.length (ncells R) ∧ RepsOf F R ∧ R.length ≤ 8916100448256 ∧ Keep (fun _ => False) w w'
set_option maxHeartbeats 8000000 in
set_option maxRecDepth 100000 in
theorem repairs_any {w : World} {sv fv : Value} {vs : List Value} {F : List Fct} {s : Int} (hs : Rd w 1 sv 6 (icells (sch s))) (hf : FRd w fv vs F) (hl : F.length ≤ 12) :
    Calls Tryz.prog 57 #[.agg #[sv, fv]] w (RepPost w F) := by
  obtain ⟨so, sc, hse, _⟩ := hs.shape
  obtain ⟨fo, fcp, hfe, hfc, _⟩ := hf.rd.shape
  subst hse hfe
  have hmm := @run_makeMap Tryz.prog
  have HBL : Hid (∀ (W : World) (i : Nat), Keep (fun _ => False) w W → i < F.length → Calls Tryz.prog 90 #[.agg #[.slice so 6 sc, .slice fo F.length fcp], .int .i64 i] W (IdxPost W (.int .i64 (firstF F i)))) := Lib.hid (fun W i k hi => block_any (hs.keep k (fun _ _ h => h)) (hf.keep k) hi hl)
  obtain ⟨n, hn⟩ : ∃ n, F.length = n := ⟨_, rfl⟩
  have HN := Lib.hid hn
  rw [hn] at hl HBL ⊢
  have h12 := two_12 hl
  clear hs hf hfc hn
  go_enter Tryz.func57, Tryz.ntmps57
  go_wp2_with fail
  obtain ⟨w3, hw3⟩ : ∃ w3, w3 = (w.alloc (.cells #[.slice so 6 sc, .slice fo n fcp] 72)).alloc (.map #[] 0) := ⟨_, rfl⟩
  have HM3 : Hid (MapAt w3 (w.heap.size + 1) 0 (fun _ => none)) := Lib.hid (by rw [hw3]; have h := MapAt.made (w.alloc (.cells #[.slice so 6 sc, .slice fo n fcp] 72)); rwa [World.size_alloc] at h)
  have HB3 : Hid (Blk w3 w.heap.size #[.slice so 6 sc, .slice fo n fcp] 72) := Lib.hid (by rw [hw3]; exact (Blk.new _ _ _).alloc _)
  have HK3 : Hid (Keep (fun _ => False) w w3) := Lib.hid (by rw [hw3]; exact ((Keep.refl _ _).alloc _).alloc _)
  rw [← hw3]
  clear hw3
  obtain ⟨mb, hmb⟩ : ∃ x, w.heap.size + 1 = x := ⟨_, rfl⟩
  have HMB := Lib.hid hmb
  rw [hmb] at HM3 ⊢
  clear hmb
  go_loopw [16] (fun i wr => BRel w F (.slice so 6 sc) (.slice fo n fcp) mb i wr) (fun i _ => n - (intOf i).toNat)
  case atStart => exact ⟨0, 0, Nat.zero_le _, Nat.le_refl _, rfl, by rw [blkF_zero]; exact HM3.out, by have := HMB.out; omega, HB3.out, by have := HMB.out; omega, HK3.out⟩
  case round =>
    obtain ⟨k, nn, hk, hnk, rfl, hm, hge, hb, hne, hke⟩ := hrel
    have HM := Lib.hid hm; have HGE := Lib.hid hge; have HB := Lib.hid hb; have HNE := Lib.hid hne; have HKE := Lib.hid hke
    clear hm hge hb hne hke
    by_cases hlt : k < n
    · have hlti : ((k : Int) < (n : Int)) = True := eq_true (by omega)
      have hfk : firstF F k ≤ 100 := by have := (firstF_spec (F := F) (i := k) (by have := HN.out; omega)).1; omega
      have HWF := Lib.hid (kI_small hfk)
      have hbm : blkM F k (firstF F k) < 4096 := by
        have h1 := blkM_lt F (firstF F k) k
        have h2 := two_12 (n := k) (by omega)
        omega
      have hpk : 2 ^ k ≤ 4096 := two_12 (by omega)
      have hor := i64_or_nat (blkM F k (firstF F k)) (2 ^ k) (by omega) (by omega)
      have hsh := shl_one k (by omega)
      rw [Nat.min_eq_left (by omega)] at hsh
      have hlk := blkF_look F k (firstF F k)
      have hnx := blkF_next F k
      obtain ⟨fb, hfb⟩ : ∃ x, firstF F k = x := ⟨_, rfl⟩
      have hbc := HBL.out
      have HBC : Hid (∀ W, Keep (fun _ => False) wr W → Calls Tryz.prog 90 #[.agg #[.slice so 6 sc, .slice fo n fcp], .int .i64 k] W (IdxPost W (.int .i64 fb))) := Lib.hid (fun W kW => by rw [← hfb]; exact HBL.out W k (HKE.out.trans kW (fun _ _ h => h)) hlt)
      rw [hfb] at HWF hor hlk hnx
      obtain ⟨bm, hbm2⟩ : ∃ x, blkM F k fb = x := ⟨_, rfl⟩
      rw [hbm2] at hor hlk hnx
      obtain ⟨p, hp⟩ : ∃ p, 2 ^ k = p := ⟨_, rfl⟩
      rw [hp] at hor hnx hsh hpk
      have HLK := Lib.hid hlk; have HNX := Lib.hid hnx
      have HDC : Hid (∀ W : World, Keep (fun i => i = mb) wr W → W.cell? ⟨w.heap.size, 0, none⟩ = some (.slice so 6 sc) ∧ W.cell? ⟨w.heap.size, 1, none⟩ = some (.slice fo n fcp)) := Lib.hid (fun W k => ⟨(HB.out.keep k HNE.out).cell 0, (HB.out.keep k HNE.out).cell 1⟩)
      clear hlk hnx hfb hbm hbm2 hbc hfk hp
      go_wp2_with fail
      go_region_held3 (fun W => W.cell? ⟨w.heap.size, 0, none⟩ = some (.slice so 6 sc) ∧ W.cell? ⟨w.heap.size, 1, none⟩ = some (.slice fo n fcp))
        ((refine HDC.out _ ?_; repeat (first | exact HK7.out | exact HK6.out | exact (Keep.refl _ _) | apply Keep.drewN | apply Keep.drew)))
        ((first
          | (go_at_call 90; refine (HBC.out _ (by repeat (first | exact (Keep.refl _ _) | apply Keep.drewN | apply Keep.drew))).mono ?_; rintro e w6 ⟨rfl, hk6⟩
             have kA : Keep (fun _ => False) wr w6 := ((Keep.refl (fun _ => False) wr).drew).trans hk6 (fun _ _ h => h)
             have hm6 := HM.out.keep kA (fun h => h)
             have hlook := hm6.look (t := 166) (e := 3) Tryz.underlying166 (z := .int .i64 0) Tryz.zeroValue3 HWF.out
             rw [HLK.out] at hlook
             obtain ⟨w7, hrun, hm7, hk7, hs7⟩ := hm6.store (t := 166) (e := 3) Tryz.underlying166 (by unfold maxLen; omega) HWF.out (.int .i64 ((bm ||| p : Nat) : Int))
             rw [HNX.out] at hm7
             have HK6 := Lib.hid (kA.mono (T := fun i => i = mb) (fun _ _ h => h.elim))
             have HK7 := Lib.hid (HK6.out.trans hk7 (fun _ _ h => h))
             have HM7 := Lib.hid hm7
             clear hk6 kA hm6 hm7 hk7 hs7)))
      go_wp2_with fail
      go_roundw
      case rel => exact ⟨k + 1, nn + 1, by have := HN.out; omega, by omega, by go_num, HM7.out, HGE.out, HB.out.keep HK7.out HNE.out, HNE.out, HKE.out.trans HK7.out (fun i hi e => by have := HGE.out; have e' : i = mb := e; omega)⟩
      case measure => simp [intOf]; omega
    · have hke : k = n := by have := HN.out; omega
      subst hke
      have hji : ((k : Int) < (k : Int)) = False := by simp
      obtain ⟨w5, cnt, hrun, hrg, hcnt, hk5, hs5⟩ := (HM.out.keep ((Keep.refl (fun _ => False) wr).alloc (.cells #[.int .i64 0] 3)) (fun h => h)).range Tryz.underlying166
      have HRG := Lib.hid hrg
      have HK5 := Lib.hid (((Keep.refl (fun _ => False) wr).alloc (.cells #[.int .i64 0] 3)).trans hk5 (fun _ _ h => h))
      have HROW : Hid (w5.ownsRow wr.heap.size 3 1 (.slice (some ⟨wr.heap.size, 0, none⟩) 1 1) 1 (ncells [0])) := Lib.hid (by
        exact ownsRow_keep (rowNew (Nat.le_refl _) [0] (by simp)) hk5 (fun _ _ h => h))
      have HCNT : Hid (cnt ≤ 12) := Lib.hid (by omega)
      have HSZ5 := Lib.hid hs5
      clear hrg hk5 hcnt hs5 hk
      go_wp2_with fail
      obtain ⟨it, hit⟩ : ∃ x, wr.heap.size + 1 = x := ⟨_, rfl⟩
      obtain ⟨b0, hb0⟩ : ∃ x, wr.heap.size = x := ⟨_, rfl⟩
      have hsz1 : (wr.alloc (.cells #[.int .i64 0] 3)).heap.size = it := by rw [World.size_alloc]; exact hit
      rw [hsz1] at HRG HSZ5
      rw [hit]
      have HIT := Lib.hid (show it = b0 + 1 by omega)
      rw [hb0] at HROW ⊢
      have HWB : Hid (w.heap.size ≤ b0) := Lib.hid (by rw [← hb0]; exact HKE.out.size)
      have HK5W := Lib.hid (HKE.out.trans HK5.out (fun _ _ h => h))
      have HMBL : Hid (mb < b0) := Lib.hid (by rw [← hb0]; exact HM.out.lt)
      clear hit hb0 hsz1 hrun
      have HFN : Hid (F.length = k) := HN
      go_loopw [5] (fun v wx => PRel b0 F mb it nn w5 v wx) (fun _ wx => wx.rangeLeft mb it)
      case atStart =>
        refine ⟨_, cnt, [], ?_, by rw [HFN.out]; exact HRG.out, List.nodup_nil, fun b hb => absurd hb List.not_mem_nil, fun x hx => by rw [HFN.out]; simp, by have := HCNT.out; simpa using this, by simp [prods], Keep.refl _ _⟩
        exact HROW.out
      case round =>
        obtain ⟨left, cnt2, ds, hown, hrg, hnd, hds, hlf, hcn, hlen, hkx⟩ := hrel
        obtain ⟨a5, c5, hve, _⟩ := ownsRow_shape hown
        subst hve
        have HO := Lib.hid hown; have HND := Lib.hid hnd; have HDS := Lib.hid hds; have HLF := Lib.hid hlf; have HCN := Lib.hid hcn; have HLEN := Lib.hid hlen; have HKX := Lib.hid hkx
        have hle := hrg.left_eq
        have HLE := Lib.hid hle
        have HRG2 := Lib.hid hrg
        rcases hrg.next 0 with ⟨h0, hlf0, hrun2⟩ | ⟨x, v, w6, cnt3, hwf, hlx, hfx, hrun2, hrg6, hlt, hk6, hs6, hen⟩
        · have HLF0 := Lib.hid hlf0
          clear hown hnd hds hlf hcn hlen hkx hle hrg hlf0 h0
          have hl12 : (prods (ds.map (blkM F F.length))).length ≤ 8916100448256 := Nat.le_trans HLEN.out (pow12 (by have := HCN.out; omega))
          have HL12 := Lib.hid hl12
          have HSRT := Lib.hid (sortR HO.out hl12)
          clear hl12
          go_wp2_with (go_at_call 91; refine HSRT.out.mono ?_; rintro e w6 ⟨rfl, R, hp, ho6, hk6⟩; have HP := Lib.hid hp; have HO6 := Lib.hid ho6; have HK6 := Lib.hid hk6; clear hp ho6 hk6)
          go_ret
          refine ⟨_, R, rfl, ?_, ⟨ds, HND.out, fun b => ⟨HDS.out b, ?_⟩, fun m => HP.out.mem_iff⟩, by rw [HP.out.length_eq]; exact HL12.out, ?_⟩
          · have h := ownsRow_rd HO6.out (ncells_one R)
            rw [HP.out.length_eq] at h ⊢
            exact h
          · rintro ⟨i, hi, rfl⟩
            have hb := blkM_ne (F := F) hi
            have hfi := (firstF_spec hi).1
            have hw := kI_small (x := firstF F i) (by have := HFN.out; omega)
            have h1 := HLF0.out _ hw
            rw [HLF.out _ hw] at h1
            have hs : (blkF F F.length ((firstF F i : Nat) : Int)).isSome = true := by
              unfold blkF
              rw [if_pos ⟨by omega, by simpa using hb⟩]; rfl
            rw [hs, Bool.true_and, decide_eq_false_iff_not] at h1
            by_cases hm : firstF F i ∈ ds
            · exact hm
            · exact absurd (fun b hb2 e => hm (by
                have e2 : b = firstF F i := by omega
                rw [← e2]
                exact hb2)) h1
          · refine (HK5W.out.trans HKX.out (fun i hi e => ?_)).trans HK6.out (fun i hi e => ?_)
            · have e' : i = it := e
              have := HIT.out; have := HWB.out; omega
            · have := (HO.out.lt i e).1; have := HWB.out; omega
        · have HWF := Lib.hid hwf; have HLX := Lib.hid hlx; have HFX := Lib.hid hfx; have HRG6 := Lib.hid hrg6; have HLT := Lib.hid hlt; have HK6 := Lib.hid hk6; have HS6 := Lib.hid hs6
          clear hown hnd hds hlf hcn hlen hkx hle hrg hwf hlx hlt hk6 hs6
          obtain ⟨b, hxb, hvb, hb0⟩ : ∃ b : Nat, x = (b : Int) ∧ v = .int .i64 (blkM F F.length b) ∧ blkM F F.length b ≠ 0 := by
            unfold blkF at hfx
            split at hfx
            · rename_i hh
              exact ⟨x.toNat, by omega, by cases hfx; rfl, hh.2⟩
            · cases hfx
          subst hxb hvb
          have hsl : blkM F F.length b < 4096 := by
            have h1 := blkM_lt F b F.length
            have := two_12 (n := F.length) (by rw [HFN.out]; exact hl)
            omega
          obtain ⟨R0, hR0⟩ : ∃ R0, prods (ds.map (blkM F F.length)) = R0 := ⟨_, rfl⟩
          have hRlt := prods_lt (F := F) (ds := ds) (by rw [HFN.out]; exact hl)
          rw [hR0] at HO HLEN hRlt ⊢
          have HR0 := Lib.hid hR0
          obtain ⟨s, hs⟩ : ∃ s, blkM F F.length b = s := ⟨_, rfl⟩
          have HS := Lib.hid hs
          rw [hs] at hsl hb0 hrun2 hen
          have hc11 : ds.length + 1 ≤ 12 := by have h1 := HCN.out; have h2 := HLT.out; omega
          have hlen12 : 12 * R0.length ≤ 8916100448256 := by
            have h1 := pow12 hc11
            have h2 := HLEN.out
            rw [Nat.pow_succ] at h1
            omega
          have HRL := Lib.hid hRlt
          have HB0 := Lib.hid hb0
          clear hfx hrg6 hR0 hs hRlt hb0
          go_wp2_with fail
          have ho6 := ownsRow_keep HO.out HK6.out (fun g e e2 => (HRG2.out.rowNe HO.out).1 (by rw [e, e2]))
          have HO6 := Lib.hid ho6
          have HR6 := Lib.hid (ownsRow_rd ho6 (ncells_one R0))
          have HB06 : Hid (b0 ≤ w6.heap.size) := Lib.hid (by have h1 := HK6.out.size; have h2 := HKX.out.size; have h3 := HSZ5.out; have h4 := HIT.out; omega)
          clear ho6 hrun2 hen
          obtain ⟨nr, hnr⟩ : ∃ n, R0.length = n := ⟨_, rfl⟩
          have HNR := Lib.hid hnr
          rw [hnr] at HR6 hlen12 ⊢
          clear hnr
          go_loopw [8, 37] (fun v i wx => P3Rel w6.heap.size R0 s w6 v i wx) (fun _ i _ => nr - (intOf i).toNat)
          case atStart => exact ⟨0, Nat.zero_le _, rfl, World.ownsRow_nil w6 _ 3 1, Keep.refl _ _⟩
          case round =>
            obtain ⟨j, hj, rfl, ho8, hk8⟩ := hrel
            obtain ⟨a8, c8, hve, _⟩ := ownsRow_shape ho8
            subst hve
            have HO8 := Lib.hid ho8; have HK8 := Lib.hid hk8
            clear ho8 hk8
            by_cases hlj : j < nr
            · have hlji : ((j : Int) < (nr : Int)) = True := eq_true (by omega)
              obtain ⟨rb, ro, hao, hc⟩ := rd_nat (HR6.out.keep HK8.out (fun _ _ h => h)) hlj
              subst hao
              have hst := stepO_take (out := R0) (s := s) (k := j) (by have := HNR.out; omega)
              have hsl2 := stepO_len s (R0.take j)
              rw [List.length_take, Nat.min_eq_left (by have := HNR.out; omega)] at hsl2
              have hrlt : R0.getD j 0 < 4096 := HRL.out _ (by
                have : R0.getD j 0 = R0[j]'(by have := HNR.out; omega) := by simp [List.getD, show j < R0.length by have := HNR.out; omega]
                rw [this]; exact List.getElem_mem _)
              obtain ⟨rr, hrr⟩ : ∃ rr, R0.getD j 0 = rr := ⟨_, rfl⟩
              rw [hrr] at hc hst hrlt
              obtain ⟨P0, hP0⟩ : ∃ P0, stepO (R0.take j) s = P0 := ⟨_, rfl⟩
              rw [hP0] at hst hsl2 HO8 ⊢
              have HST := Lib.hid hst
              clear hst hrr hP0
              go_wp2_with fail
              go_loopw [8, 11] (fun v c wx => P6Rel w6.heap.size P0 rr s w6 v c wx) (fun _ c _ => (intOf c).toNat)
              case atStart => exact ⟨s, [], rfl, hsl, rfl, by simpa using HO8.out, HK8.out⟩
              case round =>
                obtain ⟨x, l, rfl, hx, hel, ho9, hk9⟩ := hrel
                obtain ⟨a9, c9, hve, _⟩ := ownsRow_shape ho9
                subst hve
                have HEL := Lib.hid hel; have HO9 := Lib.hid ho9; have HK9 := Lib.hid hk9
                clear hel ho9 hk9
                by_cases h0 : x = 0
                · subst h0
                  go_wp2_with fail
                  refine ⟨⟨j + 1, by have := HNR.out; omega, by go_num, ?_, HK9.out⟩, by simp [intOf]; omega⟩
                  have hl2 : elems s = l := by rw [HEL.out, elems_zero, List.append_nil]
                  rw [HST.out, hl2, List.length_append, List.length_map]
                  exact HO9.out
                · have hne : ((x : Int) != 0) = true := by rw [bne_iff_ne]; omega
                  have hstp := elems_step x hx h0
                  have hlow := low_bit hx h0
                  have hneg := IntWalk.i64_in (-(x : Int)) ⟨by omega, by omega⟩
                  have hct : Lib.ctz 64 x < 12 := by
                    have hm : Lib.ctz 64 x ∈ elems x := by rw [hstp]; exact List.mem_cons_self ..
                    exact (mem_elems.1 hm).1
                  have hand : bits BinOp.and IntKind.i64 (x : Int) ((x : Int) - 1) = ((x &&& (x - 1) : Nat) : Int) := by
                    rw [show ((x : Int) - 1) = ((x - 1 : Nat) : Int) by omega]
                    exact i64_and_nat x (x - 1) (by omega) (by omega)
                  have hlowx : x &&& (x - 1) < x := Nat.lt_of_le_of_lt Nat.and_le_right (by omega)
                  have hsub1 := IntWalk.i64_in ((x : Int) - 1) ⟨by omega, by omega⟩
                  have hp12 : 2 ^ Lib.ctz 64 x ≤ 4096 := two_12 (by omega)
                  obtain ⟨kk, hkk⟩ : ∃ kk, Lib.ctz 64 x = kk := ⟨_, rfl⟩
                  rw [hkk] at hstp hlow hp12
                  obtain ⟨p, hp⟩ : ∃ p, 2 ^ kk = p := ⟨_, rfl⟩
                  rw [hp] at hlow hp12
                  have hor := i64_or_nat rr p (by omega) (by omega)
                  have HSTP := Lib.hid hstp; have HPP := Lib.hid hp
                  have hll : l.length + 1 ≤ 12 := by
                    have h1 := congrArg List.length HEL.out
                    rw [hstp] at h1
                    have h2 := elems_len s
                    simp at h1
                    omega
                  clear hstp hct hkk hp
                  go_wp2_with (at_builtin; go_loud (refine wpList_app (w := wr.alloc (.cells #[.int .i64 ((rr ||| p : Nat) : Int)] 3)) rfl (.tmp 48) (.tmp 55) 22 22 rfl 3 (.int .i64 0) 1 8 Tryz.underlying22 info3k rfl (HO9.out.alloc _) rfl (Src.new (P := Tryz.prog) Tryz.underlying22 wr 1 [.int .i64 ((rr ||| p : Nat) : Int)] 3 rfl (by simp [Value.oneCell'])) rfl (by unfold maxLen; omega) (by omega) (by have := HK9.out.size; simp; omega) ?_; intro v9 w9 happ; have HA := Lib.hid happ; clear happ))
                  refine ⟨⟨x &&& (x - 1), l ++ [kk], rfl, Nat.lt_trans hlowx hx, by rw [HEL.out, HSTP.out]; simp, ?_, (HK9.out.alloc _).trans HA.out.keep (fun i hi e => by have := (HO9.out.lt i e).1; omega)⟩, by simp [intOf]; omega⟩
                  have ha := HA.out.own
                  rw [List.length_append, List.map_append, ← List.append_assoc, ncells_append]
                  rw [List.map_cons, List.map_nil, HPP.out]
                  exact ha
            · have hje : j = nr := by have := HNR.out; omega
              subst hje
              have hji2 : ((j : Int) < (j : Int)) = False := by simp
              have htk : R0.take j = R0 := List.take_of_length_le (by rw [HNR.out]; exact Nat.le_refl _)
              rw [htk] at HO8
              rw [htk]
              clear htk
              go_wp2_with fail
              have hbm : blkM F F.length b ≠ 0 := by rw [HS.out]; exact HB0.out
              have hlx := HLX.out
              rw [HLF.out _ HWF.out, Bool.and_eq_true, decide_eq_true_eq] at hlx
              have hnb : b ∉ ds := fun h => hlx.2 b h rfl
              refine ⟨⟨fun y => left y && !(y == (b : Int)), cnt3, ds ++ [b], ?_, HRG6.out.keep HK8.out (fun h => h) (fun h => h), ?_, fun b' hb' => ?_, fun y hy => ?_, ?_, ?_, (HKX.out.trans HK6.out (fun _ _ h => h)).trans HK8.out (fun _ _ h => h.elim)⟩, ?_⟩
              · rw [List.map_append, List.map_cons, List.map_nil, prods_snoc, HR0.out, HS.out]
                exact ownsRow_base HO8.out HB06.out
              · rw [List.nodup_append]
                exact ⟨HND.out, by simp, fun a ha c hc e => by rw [List.mem_singleton.1 hc] at e; exact hnb (e ▸ ha)⟩
              · rcases List.mem_append.1 hb' with h | h
                · exact HDS.out b' h
                · rw [List.mem_singleton.1 h]
                  obtain ⟨i, hi⟩ := List.exists_mem_of_ne_nil _ (elems_ne (x := blkM F F.length b) hbm (by rw [HS.out]; exact hsl))
                  have h2 := (mem_elems.1 hi).2
                  rw [blkM_bit] at h2
                  simp only [Bool.and_eq_true, decide_eq_true_eq] at h2
                  exact ⟨i, h2.1, h2.2⟩
              · show (left y && !(y == (b : Int))) = _
                rw [HLF.out y hy]
                by_cases e : y = (b : Int)
                · subst e
                  simp
                · have e2 : (y == (b : Int)) = false := by simpa using e
                  rw [e2, Bool.not_false, Bool.and_true]
                  congr 1
                  rw [decide_eq_decide]
                  constructor
                  · intro h c hc
                    rcases List.mem_append.1 hc with h3 | h3
                    · exact h c h3
                    · rw [List.mem_singleton.1 h3]; exact fun q => e q.symm
                  · intro h c hc
                    exact h c (List.mem_append_left _ hc)
              · rw [List.length_append, List.length_singleton]
                have h1 := HCN.out; have h2 := HLT.out; omega
              · rw [List.map_append, List.map_cons, List.map_nil, prods_snoc, HR0.out, HS.out, List.length_append, List.length_singleton, Nat.pow_succ]
                have h1 := stepO_len s R0
                have h2 := HLEN.out
                omega
              · rw [(HRG6.out.keep HK8.out (fun h => h) (fun h => h)).left_eq, HLE.out]
                exact HLT.out
end Go.Proofs.YtkkjonkcjlnohaaGreatDoor

/- repair.ask, repair.books.counts and repair.Certain. -/
namespace Go.Proofs.YtkkjonkcjlnohaaGreatDoor
set_option linter.unusedSimpArgs false
set_option linter.unusedVariables false
set_option linter.unnecessarySimpa false
open Go.RowKit

def AskRPost (w : World) (sv fv : Value) (e : Ending) (w' : World) : Prop := e = .returned (.tuple #[.agg #[sv, fv], .int .i64 0]) ∧ Keep (fun _ => False) w w'
set_option maxHeartbeats 4000000 in
set_option maxRecDepth 100000 in
theorem askR_any {w : World} {sv fv hv bv av : Value} {vs : List Value} {F : List Fct} {s t0 t1 : Int} {hd : List Int} {b : Bool} (hs : Rd w 1 sv 6 (icells (sch s))) (hs01 : s = 0 ∨ s = 1) (hf : FRd w fv vs F) (hg : Good12 F) (q : QAt w hv bv av t0 t1 hd) (hb : b = true → hd = []) :
    Calls Tryz.prog 30 #[sv, fv, .agg #[hv, bv], .bool b] w (AskRPost w sv fv) := by
  obtain ⟨ho, hc, bb, bo, cap, rfl, rfl⟩ := q.shapes
  obtain ⟨so, sc, hse, _⟩ := hs.shape
  obtain ⟨fo, fcp, hfe, hfc, _⟩ := hf.rd.shape
  subst hse hfe
  have HRB : Hid (∀ W, Keep (fun _ => False) w W → Calls Tryz.prog 55 #[.slice so 6 sc, .slice fo F.length fcp] W (RdPost W (.slice so 6 sc) (.slice fo F.length fcp))) := Lib.hid (fun W k => rdBooks_any (hs.keep k (fun _ _ h => h)) hs01 (hf.keep k) hg)
  have HCO : Hid (∀ W, Keep (fun _ => False) w W → Calls Tryz.prog 56 #[.agg #[.slice ho hd.length hc, .slice (some ⟨bb, bo, none⟩) 1 cap], .slice fo F.length fcp] W (IdxPost W (.tuple #[.int .i64 (cnt t0 t1 F), .int .i64 0]))) := Lib.hid (fun W k => count_any (q.keep k) (hf.keep k) hg)
  have hgt : b = true → hd.length = 0 := fun h => by rw [hb h]; rfl
  obtain ⟨c, hcc⟩ : ∃ c, cnt t0 t1 F = c := ⟨_, rfl⟩
  obtain ⟨n, hn⟩ : ∃ n, F.length = n := ⟨_, rfl⟩
  obtain ⟨nh, hnh⟩ : ∃ n, hd.length = n := ⟨_, rfl⟩
  rw [hn] at HRB HCO ⊢
  rw [hnh] at HCO hgt ⊢
  clear hnh
  rw [hcc] at HCO
  clear hs hs01 hf hg q hb hcc hn hfc
  have body : ∀ b : Bool, (b = true → nh = 0) → Calls Tryz.prog 30 #[.slice so 6 sc, .slice fo n fcp, .agg #[.slice ho nh hc, .slice (some ⟨bb, bo, none⟩) 1 cap], .bool b] w (AskRPost w (.slice so 6 sc) (.slice fo n fcp)) := by
    intro b hgt
    cases b with
    | false =>
      clear hgt
      go_enter Tryz.func30, Tryz.ntmps30
      go_wp2_with (first
        | (go_at_call 55; go_loud (
           refine (HRB.out _ (((Keep.refl _ w).alloc _).alloc _)).mono ?_
           rintro e w1 ⟨rfl, hk⟩
           have hq := ((Blk.new w #[.slice ho nh hc, .slice (some ⟨bb, bo, none⟩) 1 cap] 49).alloc (.cells #[.slice none 0 0, .slice none 0 0] 72)).keep hk (fun h => h)
           have hr := Blk.new (w.alloc (.cells #[.slice ho nh hc, .slice (some ⟨bb, bo, none⟩) 1 cap] 49)) #[.slice none 0 0, .slice none 0 0] 72
           rw [World.size_alloc] at hr
           have hr2 := hr.keep hk (fun h => h)
           have HQ1 := Lib.hid hq; have HR1 := Lib.hid hr2
           have c0 := (hq.alloc (.cells #[.slice so 6 sc, .slice fo n fcp] 72)).cell 0; have c1 := (hq.alloc (.cells #[.slice so 6 sc, .slice fo n fcp] 72)).cell 1
           simp at c0 c1
           have HK1 := Lib.hid ((((Keep.refl (fun _ => False) w).alloc _).alloc _).trans hk (fun _ _ h => h))
           clear hk hq hr hr2))
        | (go_at_call 56; go_loud (
           refine (HCO.out _ (HK1.out.alloc _)).mono ?_
           rintro e w2 ⟨rfl, hk⟩
           have hb := (Blk.new w1 #[.slice so 6 sc, .slice fo n fcp] 72).keep hk (fun h => h)
           have hr := (HR1.out.alloc (.cells #[.slice so 6 sc, .slice fo n fcp] 72)).keep hk (fun h => h)
           have d0 := hb.cell 0; have d1 := hb.cell 1; have f0 := hr.free 0; have f1 := hr.free 1; have g0 := hr.cell 0; have g1 := hr.cell 1
           simp at d0 d1 g0 g1
           have HR2 := Lib.hid hr
           have HK2 := Lib.hid ((HK1.out.alloc (.cells #[.slice so 6 sc, .slice fo n fcp] 72)).trans hk (fun _ _ h => h))
           clear hk hb hr)))
      (try simp only [Exit.inBlock, Exit.then])
      refine bodyPost_ret (results_cell_row2 rfl _ _ (w.heap.size + 1) 72 #[.slice so 6 sc, .slice fo n fcp] _ rfl ?_ Tryz.underlying72 rfl (size72 _ _)) rfl ?_
      · have h := (HR2.out.set 0 (.slice so 6 sc)).set 1 (.slice fo n fcp)
        simpa using h
      · exact ⟨rfl, (HK2.out.setCell _ _ (fun h => absurd h (by show ¬ w.heap.size + 1 < w.heap.size; omega))).setCell _ _ (fun h => absurd h (by show ¬ w.heap.size + 1 < w.heap.size; omega))⟩
    | true =>
      have hgt2 := hgt rfl
      clear hgt
      subst hgt2
      go_enter Tryz.func30, Tryz.ntmps30
      go_wp2_with (first
        | (go_at_call 55; go_loud (
           refine (HRB.out _ (((Keep.refl _ w).alloc _).alloc _)).mono ?_
           rintro e w1 ⟨rfl, hk⟩
           have hq := ((Blk.new w #[.slice ho 0 hc, .slice (some ⟨bb, bo, none⟩) 1 cap] 49).alloc (.cells #[.slice none 0 0, .slice none 0 0] 72)).keep hk (fun h => h)
           have hr := Blk.new (w.alloc (.cells #[.slice ho 0 hc, .slice (some ⟨bb, bo, none⟩) 1 cap] 49)) #[.slice none 0 0, .slice none 0 0] 72
           rw [World.size_alloc] at hr
           have hr2 := hr.keep hk (fun h => h)
           have HQ1 := Lib.hid hq; have HR1 := Lib.hid hr2
           have c0 := (hq.alloc (.cells #[.slice so 6 sc, .slice fo n fcp] 72)).cell 0; have c1 := (hq.alloc (.cells #[.slice so 6 sc, .slice fo n fcp] 72)).cell 1
           simp at c0 c1
           have HK1 := Lib.hid ((((Keep.refl (fun _ => False) w).alloc _).alloc _).trans hk (fun _ _ h => h))
           clear hk hq hr hr2))
        | (go_at_call 56; go_loud (
           refine (HCO.out _ (HK1.out.alloc _)).mono ?_
           rintro e w2 ⟨rfl, hk⟩
           have hb := (Blk.new w1 #[.slice so 6 sc, .slice fo n fcp] 72).keep hk (fun h => h)
           have hr := (HR1.out.alloc (.cells #[.slice so 6 sc, .slice fo n fcp] 72)).keep hk (fun h => h)
           have d0 := hb.cell 0; have d1 := hb.cell 1; have f0 := hr.free 0; have f1 := hr.free 1; have g0 := hr.cell 0; have g1 := hr.cell 1
           simp at d0 d1 g0 g1
           have HR2 := Lib.hid hr
           have HK2 := Lib.hid ((HK1.out.alloc (.cells #[.slice so 6 sc, .slice fo n fcp] 72)).trans hk (fun _ _ h => h))
           clear hk hb hr)))
      (try simp only [Exit.inBlock, Exit.then])
      refine bodyPost_ret (results_cell_row2 rfl _ _ (w.heap.size + 1) 72 #[.slice so 6 sc, .slice fo n fcp] _ rfl ?_ Tryz.underlying72 rfl (size72 _ _)) rfl ?_
      · have h := (HR2.out.set 0 (.slice so 6 sc)).set 1 (.slice fo n fcp)
        simpa using h
      · exact ⟨rfl, (HK2.out.setCell _ _ (fun h => absurd h (by show ¬ w.heap.size + 1 < w.heap.size; omega))).setCell _ _ (fun h => absurd h (by show ¬ w.heap.size + 1 < w.heap.size; omega))⟩
  exact body b hgt
end Go.Proofs.YtkkjonkcjlnohaaGreatDoor

/- repair.books.counts and repair.Certain. -/
namespace Go.Proofs.YtkkjonkcjlnohaaGreatDoor
set_option linter.unusedSimpArgs false
set_option linter.unusedVariables false
set_option linter.unnecessarySimpa false
open Go.RowKit

theorem Good12.pick {F : List Fct} {r : Nat} (h : Good12 F) (hr : r < 2 ^ F.length) : Good12 (pick F r) := by
  refine ⟨?_, pick_nodup h.len hr h.nd, fun f hf => ?_⟩
  · have := elems_len r
    show ((elems r).map (fat F)).length ≤ 12
    rw [List.length_map]; exact this
  · obtain ⟨j, hj, _, rfl⟩ := (mem_pick h.len hr).1 hf
    exact h.rg _ (fat_mem hj)
def cntI (t0 t1 : Int) (F : List Fct) (r : Nat) : Int := (cnt t0 t1 (pick F r) : Int)
theorem icells_snoc (l : List Int) (x : Int) : icells (l ++ [x]) = icells l ++ [.int .i64 x] := by simp [icells]
def CntsPost (w : World) (t0 t1 : Int) (F : List Fct) (e : Ending) (w' : World) : Prop :=
  ∃ (v1 v2 : Value) (R : List Nat), e = .returned (.tuple #[v1, v2]) ∧ RepsOf F R ∧ R.length ≤ 8916100448256 ∧ Rd w' 1 v2 R.length (icells (R.map (cntI t0 t1 F))) ∧ Keep (fun _ => False) w w'
def CRel (w1 : World) (t0 t1 : Int) (F : List Fct) (R : List Nat) (v i : Value) (wr : World) : Prop :=
  ∃ k : Nat, k ≤ R.length ∧ i = .int .i64 k ∧ wr.ownsRow w1.heap.size 3 1 v k (icells ((R.take k).map (cntI t0 t1 F))) ∧ Keep (fun _ => False) w1 wr
theorem take_map_snoc {α β : Type} [Inhabited α] (l : List α) (d : α) (f : α → β) {k : Nat} (h : k < l.length) : (l.take (k + 1)).map f = (l.take k).map f ++ [f (l.getD k d)] := by
  have e : l.getD k d = l[k] := by simp [List.getD, h]
  rw [List.take_succ_eq_append_getElem h, e, List.map_append]
  rfl
set_option maxHeartbeats 4000000 in
set_option maxRecDepth 100000 in
theorem counts_any {w : World} {sv fv hv bv av : Value} {vs : List Value} {F : List Fct} {s t0 t1 : Int} {hd : List Int} (hs : Rd w 1 sv 6 (icells (sch s))) (hf : FRd w fv vs F) (hg : Good12 F) (q : QAt w hv bv av t0 t1 hd) (hT : TabAt 6 Lib.deBruijn64tab w) (h6 : 6 < w.heap.size) :
    Calls Tryz.prog 31 #[.agg #[sv, fv], .agg #[hv, bv]] w (CntsPost w t0 t1 F) := by
  obtain ⟨ho, hc, bb, bo, cap, rfl, rfl⟩ := q.shapes
  obtain ⟨so, sc, hse, _⟩ := hs.shape
  obtain ⟨fo, fcp, hfe, hfc, _⟩ := hf.rd.shape
  subst hse hfe
  have HRP : Hid (∀ W, Keep (fun _ => False) w W → Calls Tryz.prog 57 #[.agg #[.slice so 6 sc, .slice fo F.length fcp]] W (RepPost W F)) := Lib.hid (fun W k => repairs_any (hs.keep k (fun _ _ h => h)) (hf.keep k) hg.len)
  have HCH : Hid (∀ (W : World) (r : Nat), Keep (fun _ => False) w W → r < 2 ^ F.length → Calls Tryz.prog 58 #[.agg #[.slice so 6 sc, .slice fo F.length fcp], .int .i64 r] W (ChosenPost W F r)) := Lib.hid (fun W r k hr => chosen_any ⟨_, _, _, rfl⟩ (hf.keep k) hg.len hr (fun j hj => (k.cell (p := ⟨6, j, none⟩) h6 (fun h => h)).trans (hT j hj)) (Nat.lt_of_lt_of_le h6 k.size))
  have HCO : Hid (∀ (W : World) (v : Value) (us : List Value) (r : Nat), Keep (fun _ => False) w W → r < 2 ^ F.length → FRd W v us (pick F r) → Calls Tryz.prog 56 #[.agg #[.slice ho hd.length hc, .slice (some ⟨bb, bo, none⟩) 1 cap], v] W (IdxPost W (.tuple #[.int .i64 (cntI t0 t1 F r), .int .i64 0]))) := Lib.hid (fun W v us r k hr hv => count_any (q.keep k) hv (hg.pick hr))
  obtain ⟨n, hn⟩ : ∃ n, F.length = n := ⟨_, rfl⟩
  obtain ⟨nh, hnh⟩ : ∃ n, hd.length = n := ⟨_, rfl⟩
  have HN := Lib.hid hn
  rw [hn] at HRP HCH ⊢
  rw [hnh] at HCO ⊢
  clear hnh hs hf hg q hn hfc hT h6
  go_enter Tryz.func31, Tryz.ntmps31
  go_wp2_with (go_at_call 57; refine (HRP.out _ (((Keep.refl _ w).alloc _).alloc _)).mono ?_; rintro e w1 ⟨v1, R, rfl, hr, hre, hrl, hk⟩; obtain ⟨ao, ac, rfl, _⟩ := hr.shape; have HR := Lib.hid hr; have HRE := Lib.hid hre; have HK := Lib.hid hk; clear hr hre hk)
  have HK1 : Hid (Keep (fun _ => False) w w1) := Lib.hid ((((Keep.refl (fun _ => False) w).alloc _).alloc _).trans HK.out (fun _ _ h => h))
  have HB1 : Hid (Blk w1 w.heap.size #[.slice so 6 sc, .slice fo n fcp] 72) := Lib.hid (((Blk.new w #[.slice so 6 sc, .slice fo n fcp] 72).alloc _).keep HK.out (fun h => h))
  have HB2 : Hid (Blk w1 (w.heap.size + 1) #[.slice ho nh hc, .slice (some ⟨bb, bo, none⟩) 1 cap] 49) := Lib.hid (by
    have h := Blk.new (w.alloc (.cells #[.slice so 6 sc, .slice fo n fcp] 72)) #[.slice ho nh hc, .slice (some ⟨bb, bo, none⟩) 1 cap] 49
    rw [World.size_alloc] at h
    exact h.keep HK.out (fun h => h))
  clear HK
  obtain ⟨nr, hnr⟩ : ∃ n, R.length = n := ⟨_, rfl⟩
  have HNR := Lib.hid hnr
  rw [hnr] at HR hrl ⊢
  clear hnr
  go_loopw [5, 14] (fun v i wr => CRel w1 t0 t1 F R v i wr) (fun _ i _ => nr - (intOf i).toNat)
  case atStart => exact ⟨0, Nat.zero_le _, rfl, World.ownsRow_nil w1 _ 3 1, Keep.refl _ _⟩
  case round =>
    obtain ⟨k, hk, rfl, ho8, hk8⟩ := hrel
    obtain ⟨a8, c8, hve, _⟩ := ownsRow_shape ho8
    subst hve
    have HO8 := Lib.hid ho8; have HK8 := Lib.hid hk8
    clear ho8 hk8
    by_cases hlj : k < nr
    · have hlji : ((k : Int) < (nr : Int)) = True := eq_true (by omega)
      obtain ⟨rb, ro, hao, hcl⟩ := rd_nat (HR.out.keep HK8.out (fun _ _ h => h)) hlj
      subst hao
      have hrm : R.getD k 0 ∈ R := by
        have : R.getD k 0 = R[k]'(by have := HNR.out; omega) := by simp [List.getD, show k < R.length by have := HNR.out; omega]
        rw [this]; exact List.getElem_mem _
      have hrlt := HRE.out.lt hrm
      have htk := take_map_snoc R 0 (cntI t0 t1 F) (k := k) (by have := HNR.out; omega)
      have HL : Hid (((R.take k).map (cntI t0 t1 F)).length = k) := Lib.hid (by rw [List.length_map, List.length_take]; have := HNR.out; omega)
      obtain ⟨r, hr⟩ : ∃ r, R.getD k 0 = r := ⟨_, rfl⟩
      rw [hr] at hcl hrlt htk
      have HTK := Lib.hid htk; have HRLT := Lib.hid hrlt
      have hkk := HK1.out.trans HK8.out (fun _ _ h => h)
      have HKK := Lib.hid hkk
      have HDC : Hid (∀ W : World, Keep (fun _ => False) wr W → W.cell? ⟨w.heap.size, 0, none⟩ = some (.slice so 6 sc) ∧ W.cell? ⟨w.heap.size, 1, none⟩ = some (.slice fo n fcp) ∧ W.cell? ⟨w.heap.size + 1, 0, none⟩ = some (.slice ho nh hc) ∧ W.cell? ⟨w.heap.size + 1, 1, none⟩ = some (.slice (some ⟨bb, bo, none⟩) 1 cap)) := Lib.hid (fun W k2 => by
        have kk := HK8.out.trans k2 (fun _ _ h => h)
        exact ⟨(HB1.out.keep kk (fun h => h)).cell 0, (HB1.out.keep kk (fun h => h)).cell 1, (HB2.out.keep kk (fun h => h)).cell 0, (HB2.out.keep kk (fun h => h)).cell 1⟩)
      clear htk hrlt hrm hr hkk
      obtain ⟨ci, hci⟩ : ∃ c, cntI t0 t1 F r = c := ⟨_, rfl⟩
      have HCI := Lib.hid hci
      clear hci
      go_wp2_with fail
      go_region_held3 (fun W => W.cell? ⟨w.heap.size, 0, none⟩ = some (.slice so 6 sc) ∧ W.cell? ⟨w.heap.size, 1, none⟩ = some (.slice fo n fcp) ∧ W.cell? ⟨w.heap.size + 1, 0, none⟩ = some (.slice ho nh hc) ∧ W.cell? ⟨w.heap.size + 1, 1, none⟩ = some (.slice (some ⟨bb, bo, none⟩) 1 cap))
        ((refine HDC.out _ ?_; repeat (first | exact HK7.out | exact HK6.out | exact (Keep.refl _ _) | apply Keep.drewN | apply Keep.drew)))
        ((first
          | (go_at_call 58; go_loud (
             refine (HCH.out _ r (HKK.out.trans (show Keep (fun _ => False) wr _ by repeat (first | exact (Keep.refl _ _) | apply Keep.drewN | apply Keep.drew)) (fun _ _ h => h)) (by rw [← HN.out]; exact HRLT.out)).mono ?_
             rintro e w6 ⟨v6, us6, rfl, hf6, hk6⟩
             obtain ⟨fo6, fc6, hfe6, _⟩ := hf6.rd.shape
             obtain ⟨n6, hn6⟩ : ∃ n, (pick F r).length = n := ⟨_, rfl⟩
             rw [hn6] at hfe6
             subst hfe6
             have HF6 := Lib.hid hf6
             have HK6 := Lib.hid (((Keep.refl (fun _ => False) wr).drew).trans hk6 (fun _ _ h => h))
             clear hf6 hk6 hn6))
          | (go_at_call 56; refine (HCO.out _ _ us6 r (HKK.out.trans HK6.out (fun _ _ h => h)) HRLT.out HF6.out).mono ?_; rintro e w7 ⟨rfl, hk7⟩
             have HK7 := Lib.hid (HK6.out.trans hk7 (fun _ _ h => h))
             rw [HCI.out]
             clear hk7)))
      go_wp2_with (at_builtin; go_loud (refine wpList_app (w := w7.alloc (.cells #[.int .i64 ci] 3)) rfl (.tmp 26) (.tmp 28) 22 22 rfl 3 (.int .i64 0) 1 8 Tryz.underlying22 info3k rfl ((ownsRow_keep HO8.out HK7.out (fun _ _ h => h)).alloc _) rfl (Src.new (P := Tryz.prog) Tryz.underlying22 w7 1 [.int .i64 ci] 3 rfl (by simp [Value.oneCell'])) rfl (by unfold maxLen; omega) (by omega) (by have := HK8.out.size; have := HK7.out.size; simp; omega) ?_; intro v9 w9 happ; have HA := Lib.hid happ; clear happ))
      refine ⟨⟨k + 1, by have := HNR.out; omega, by go_num, ?_, (HK8.out.trans (HK7.out.alloc _) (fun _ _ h => h)).trans HA.out.keep (fun i hi e => by have := (HO8.out.lt i e).1; omega)⟩, by simp [intOf]; omega⟩
      have ha := HA.out.own
      rw [HTK.out, HCI.out, icells_snoc]
      exact ha
    · have hje : k = nr := by have := HNR.out; omega
      subst hje
      have hji2 : ((k : Int) < (k : Int)) = False := by simp
      have htk : R.take k = R := List.take_of_length_le (by rw [HNR.out]; exact Nat.le_refl _)
      rw [htk] at HO8
      clear htk
      go_wp2_with fail
      go_ret2
      refine ⟨_, _, R, rfl, HRE.out, by rw [HNR.out]; exact hrl, ?_, HK1.out.trans HK8.out (fun _ _ h => h)⟩
      rw [HNR.out]
      exact ownsRow_rd HO8.out (icells_one _)
end Go.Proofs.YtkkjonkcjlnohaaGreatDoor

/- repair.Certain. -/
namespace Go.Proofs.YtkkjonkcjlnohaaGreatDoor
set_option linter.unusedSimpArgs false
set_option linter.unusedVariables false
set_option linter.unnecessarySimpa false
open Go.RowKit

def CertPost (w : World) (t0 t1 : Int) (F : List Fct) (e : Ending) (w' : World) : Prop :=
  ∃ R : List Nat, e = .returned (.tuple #[.bool (!(R.map (cntI t0 t1 F)).contains 0), .int .i64 0]) ∧ RepsOf F R ∧ Keep (fun _ => False) w w'
theorem contains_rd {w : World} {v : Value} {l : List Int} {x : Int} (h : Rd w 1 v l.length (icells l)) (hl : l.length ≤ 9223372036854775807) :
    Calls Tryz.prog 32 #[v, .int .i64 x] w fun e w' => e = .returned (.bool (l.contains x)) ∧ w = w' := by
  rcases h.2.2 with ⟨hv, h0⟩ | ⟨b, o, cap, hv, _, _, hx⟩
  · subst hv
    have : l = [] := List.eq_nil_of_length_eq_zero h0
    subst this
    exact (Tryz.slices_Contains_int_empty none 0 x w).mono (fun e w' hh => ⟨hh.1, hh.2.symm⟩)
  · subst hv
    have hh := Tryz.slices_Contains_int b o l.length cap l x w (Nat.le_refl _) hl (fun j hj => hx j _ (by simp [icells, List.getD, hj]))
    rw [List.take_length] at hh
    exact hh.mono (fun e w' hh => ⟨hh.1, hh.2.symm⟩)
set_option maxHeartbeats 4000000 in
set_option maxRecDepth 100000 in
theorem certain_any {w : World} {sv fv hv bv av : Value} {vs : List Value} {F : List Fct} {s t0 t1 : Int} (hs : Rd w 1 sv 6 (icells (sch s))) (hs01 : s = 0 ∨ s = 1) (hf : FRd w fv vs F) (hg : Good12 F) (q : QAt w hv bv av t0 t1 []) (hT : TabAt 6 Lib.deBruijn64tab w) (h6 : 6 < w.heap.size) :
    Calls Tryz.prog 15 #[sv, fv, .agg #[hv, bv]] w (CertPost w t0 t1 F) := by
  obtain ⟨ho, hc, bb, bo, cap, rfl, rfl⟩ := q.shapes
  obtain ⟨so, sc, hse, _⟩ := hs.shape
  obtain ⟨fo, fcp, hfe, hfc, _⟩ := hf.rd.shape
  subst hse hfe
  have HAS : Hid (∀ W, Keep (fun _ => False) w W → Calls Tryz.prog 30 #[.slice so 6 sc, .slice fo F.length fcp, .agg #[.slice ho 0 hc, .slice (some ⟨bb, bo, none⟩) 1 cap], .bool true] W (AskRPost W (.slice so 6 sc) (.slice fo F.length fcp))) := Lib.hid (fun W k => askR_any (hs.keep k (fun _ _ h => h)) hs01 (hf.keep k) hg (q.keep k) (fun _ => rfl))
  have HCN : Hid (∀ W, Keep (fun _ => False) w W → Calls Tryz.prog 31 #[.agg #[.slice so 6 sc, .slice fo F.length fcp], .agg #[.slice ho 0 hc, .slice (some ⟨bb, bo, none⟩) 1 cap]] W (CntsPost W t0 t1 F)) := Lib.hid (fun W k => counts_any (hs.keep k (fun _ _ h => h)) (hf.keep k) hg (q.keep k) (fun j hj => (k.cell (p := ⟨6, j, none⟩) h6 (fun h => h)).trans (hT j hj)) (Nat.lt_of_lt_of_le h6 k.size))
  obtain ⟨n, hn⟩ : ∃ n, F.length = n := ⟨_, rfl⟩
  rw [hn] at HAS HCN ⊢
  clear hs hf hg q hn hfc hT h6 hs01
  show Calls Tryz.prog 15 #[.slice so 6 sc, .slice fo n fcp, .agg #[.slice ho 0 hc, .slice (some ⟨bb, bo, none⟩) 1 cap]] w _
  go_enter Tryz.func15, Tryz.ntmps15
  go_wp2_with (first
    | (go_at_call 30; go_loud (
       refine (HAS.out _ ((Keep.refl _ w).alloc _)).mono ?_
       rintro e w1 ⟨rfl, hk⟩
       have hq := (Blk.new w #[.slice ho 0 hc, .slice (some ⟨bb, bo, none⟩) 1 cap] 49).keep hk (fun h => h)
       have HQ1 := Lib.hid hq
       have c0 := (hq.alloc (.cells #[.slice so 6 sc, .slice fo n fcp] 72)).cell 0; have c1 := (hq.alloc (.cells #[.slice so 6 sc, .slice fo n fcp] 72)).cell 1
       simp at c0 c1
       have HK1 := Lib.hid (((Keep.refl (fun _ => False) w).alloc _).trans hk (fun _ _ h => h))
       clear hk hq))
    | (go_at_call 31; go_loud (
       refine (HCN.out _ (HK1.out.alloc _)).mono ?_
       rintro e w2 ⟨v1, v2, R, rfl, hre, hrl, hr, hk⟩
       have HC := Lib.hid (contains_rd (x := 0) (by rw [List.length_map]; exact hr) (by rw [List.length_map]; omega))
       have HRE := Lib.hid hre
       obtain ⟨cb, hcb⟩ : ∃ cb, (R.map (cntI t0 t1 F)).contains 0 = cb := ⟨_, rfl⟩
       rw [hcb] at HC
       have HCB := Lib.hid hcb
       clear hcb
       have HK2 := Lib.hid hk
       clear hre hr hk))
    | (go_at_call 32; go_loud (
       refine HC.out.mono ?_
       rintro e w3 ⟨rfl, rfl⟩)))
  go_ret2
  refine ⟨R, by rw [HCB.out]; rfl, HRE.out, ?_⟩
  exact (HK1.out.alloc _).trans HK2.out (fun _ _ h => h)
end Go.Proofs.YtkkjonkcjlnohaaGreatDoor

/- repair.Sure. -/
namespace Go.Proofs.YtkkjonkcjlnohaaGreatDoor
set_option linter.unusedSimpArgs false
set_option linter.unusedVariables false
set_option linter.unnecessarySimpa false
open Go.RowKit

theorem RowsAt.keepT {base : Nat} {T : Nat → Prop} {w w' : World} {v : Value} {us : List Value} {rows : List Int} (h : RowsAt base w v us rows) (k : Keep T w w') (hT : ∀ g, T g → g < base) : RowsAt base w' v us rows :=
  ⟨ownsRow_keep h.own k (fun g e t => by have := (h.own.lt g e).1; have := hT g t; omega), fun j hj => (h.rd j hj).keep k (fun g e t => by have := h.fr j hj g e; have := hT g t; omega), h.sep, h.fr⟩
theorem RowsAt.lower {base b : Nat} {w : World} {v : Value} {us : List Value} {rows : List Int} (h : RowsAt base w v us rows) (hb : b ≤ base) : RowsAt b w v us rows :=
  ⟨ownsRow_base h.own hb, h.rd, h.sep, fun j hj g e => Nat.le_trans hb (h.fr j hj g e)⟩
theorem stays_rows {rows rows7 : List Int} {x : Int} : x ∈ (stays (fun j => !decide (rat rows j ∈ rows7)) rows.length).map (rat rows) ↔ x ∈ rows ∧ x ∈ rows7 := by
  rw [List.mem_map]
  constructor
  · rintro ⟨j, hj, rfl⟩
    obtain ⟨h1, h2⟩ := mem_stays.1 hj
    simp at h2
    refine ⟨?_, h2⟩
    rw [show rat rows j = rows[j] by simp [rat, List.getD, h1]]
    exact List.getElem_mem _
  · rintro ⟨h1, h2⟩
    obtain ⟨j, hj, rfl⟩ := List.getElem_of_mem h1
    have e : rat rows j = rows[j] := by simp [rat, List.getD, hj]
    exact ⟨j, mem_stays.2 ⟨hj, by rw [e]; simp [h2]⟩, e⟩
/-- The list l behind the region: in its cell, its rows apart from all that was. -/
structure Aft (wr w8 : World) (bl : Nat) (l : Value) (us : List Value) (rows : List Int) : Prop where
  blk : Blk w8 bl #[l] 136
  row : RowsAt wr.heap.size w8 l us rows
  kept : Keep (fun _ => False) wr w8
  ge : wr.heap.size ≤ bl
theorem aft_alloc {wr w7 : World} {base : Nat} {l : Value} {us : List Value} {rows : List Int} (h : RowsAt base w7 l us rows) (hb : wr.heap.size ≤ base) (k : Keep (fun _ => False) wr w7) : Aft wr (w7.alloc (.cells #[l] 136)) w7.heap.size l us rows :=
  ⟨Blk.new _ _ _, (h.lower hb).keep ((Keep.refl _ _).alloc _), k.alloc _, k.size⟩
theorem aft_set {wr w7 : World} {base bl : Nat} {l z : Value} {us : List Value} {rows : List Int} (h : RowsAt base w7 l us rows) (hb : wr.heap.size ≤ base) (k : Keep (fun _ => False) wr w7) (b : Blk w7 bl #[z] 136) (h1 : bl < base) (h2 : wr.heap.size ≤ bl) : Aft wr (w7.setCell ⟨bl, 0, none⟩ l) bl l us rows := by
  refine ⟨?_, ?_, k.setCell _ _ (fun h => ?_), h2⟩
  · have := b.set 0 l
    simpa using this
  · exact (h.keepT (T := fun g => g = bl) ((Keep.refl _ _).setCell _ _ (fun _ => rfl)) (fun g e => by omega)).lower hb
  · have h' : bl < wr.heap.size := h
    omega
def SurePost (w : World) (t1 : Int) (F : List Fct) (e : Ending) (w' : World) : Prop :=
  ∃ (v : Value) (us : List Value) (rows : List Int) (R : List Nat), e = .returned (.tuple #[v, .int .i64 0]) ∧ RowsAt w.heap.size w' v us rows ∧ rows.length ≤ 12 ∧ RepsOf F R ∧ (∀ x, x ∈ rows ↔ ∀ r ∈ R, (x, -t1) ∈ pick F r) ∧ Keep (fun _ => False) w w'
def SRel (w2 : World) (t1 : Int) (F : List Fct) (R : List Nat) (v i : Value) (wr : World) : Prop :=
  ∃ k : Nat, k ≤ R.length ∧ i = .int .i64 k ∧ (0 < k → ∃ us rows, RowsAt w2.heap.size wr v us rows ∧ rows.length ≤ 12 ∧ ∀ x, x ∈ rows ↔ ∀ r ∈ R.take k, (x, -t1) ∈ pick F r) ∧ Keep (fun _ => False) w2 wr
set_option maxHeartbeats 4000000 in
set_option maxRecDepth 100000 in
theorem sureR_any {w : World} {sv fv hv bv av : Value} {vs : List Value} {F : List Fct} {s t1 : Int} (hs : Rd w 1 sv 6 (icells (sch s))) (hs01 : s = 0 ∨ s = 1) (hf : FRd w fv vs F) (hg : Good12 F) (q : QAt w hv bv av 0 t1 [0]) (hT : TabAt 6 Lib.deBruijn64tab w) (h6 : 6 < w.heap.size) :
    Calls Tryz.prog 74 #[sv, fv, .agg #[hv, bv]] w (SurePost w t1 F) := by
  obtain ⟨ho, hc, bb, bo, cap, rfl, rfl⟩ := q.shapes
  obtain ⟨so, sc, hse, _⟩ := hs.shape
  obtain ⟨fo, fcp, hfe, hfc, _⟩ := hf.rd.shape
  subst hse hfe
  have HAS : Hid (∀ W, Keep (fun _ => False) w W → Calls Tryz.prog 30 #[.slice so 6 sc, .slice fo F.length fcp, .agg #[.slice ho 1 hc, .slice (some ⟨bb, bo, none⟩) 1 cap], .bool false] W (AskRPost W (.slice so 6 sc) (.slice fo F.length fcp))) := Lib.hid (fun W k => askR_any (hs.keep k (fun _ _ h => h)) hs01 (hf.keep k) hg (q.keep k) (fun h => by cases h))
  have HRP : Hid (∀ W, Keep (fun _ => False) w W → Calls Tryz.prog 57 #[.agg #[.slice so 6 sc, .slice fo F.length fcp]] W (RepPost W F)) := Lib.hid (fun W k => repairs_any (hs.keep k (fun _ _ h => h)) (hf.keep k) hg.len)
  have HCH : Hid (∀ (W : World) (r : Nat), Keep (fun _ => False) w W → r < 2 ^ F.length → Calls Tryz.prog 58 #[.agg #[.slice so 6 sc, .slice fo F.length fcp], .int .i64 r] W (ChosenPost W F r)) := Lib.hid (fun W r k hr => chosen_any ⟨_, _, _, rfl⟩ (hf.keep k) hg.len hr (fun j hj => (k.cell (p := ⟨6, j, none⟩) h6 (fun h => h)).trans (hT j hj)) (Nat.lt_of_lt_of_le h6 k.size))
  have HRS : Hid (∀ (W : World) (v : Value) (us : List Value) (r : Nat), Keep (fun _ => False) w W → r < 2 ^ F.length → FRd W v us (pick F r) → Calls Tryz.prog 111 #[.agg #[.slice ho 1 hc, .slice (some ⟨bb, bo, none⟩) 1 cap], v] W (ResPost W t1 (pick F r))) := Lib.hid (fun W v us r k hr hv => results_any (q.keep k) hv (hg.pick hr))
  have HNE : Hid (∀ R, RepsOf F R → R ≠ []) := Lib.hid (fun R h => h.ne hg.len)
  obtain ⟨n, hn⟩ : ∃ n, F.length = n := ⟨_, rfl⟩
  have HN := Lib.hid hn
  rw [hn] at HAS HRP HCH ⊢
  clear hs hf hg q hn hfc hT h6 hs01
  show Calls Tryz.prog 74 #[.slice so 6 sc, .slice fo n fcp, .agg #[.slice ho 1 hc, .slice (some ⟨bb, bo, none⟩) 1 cap]] w _
  go_enter Tryz.func74, Tryz.ntmps74
  go_wp2_with (first
    | (go_at_call 30; go_loud (
       refine (HAS.out _ ((Keep.refl _ w).alloc _)).mono ?_
       rintro e w1 ⟨rfl, hk⟩
       have hq := (Blk.new w #[.slice ho 1 hc, .slice (some ⟨bb, bo, none⟩) 1 cap] 49).keep hk (fun h => h)
       have HQ1 := Lib.hid hq
       have HK1 := Lib.hid (((Keep.refl (fun _ => False) w).alloc _).trans hk (fun _ _ h => h))
       clear hk hq))
    | (go_at_call 57; go_loud (
       refine (HRP.out _ (HK1.out.alloc _)).mono ?_
       rintro e w2 ⟨v1, R, rfl, hr, hre, hrl, hk⟩
       obtain ⟨ao, ac, rfl, _⟩ := hr.shape
       have HR := Lib.hid hr; have HRE := Lib.hid hre
       have HK2 := Lib.hid ((HK1.out.alloc (.cells #[.slice so 6 sc, .slice fo n fcp] 72)).trans hk (fun _ _ h => h))
       have HB1 : Hid (Blk w2 w1.heap.size #[.slice so 6 sc, .slice fo n fcp] 72) := Lib.hid ((Blk.new w1 #[.slice so 6 sc, .slice fo n fcp] 72).keep hk (fun h => h))
       have HB2 : Hid (Blk w2 w.heap.size #[.slice ho 1 hc, .slice (some ⟨bb, bo, none⟩) 1 cap] 49) := Lib.hid ((HQ1.out.alloc (.cells #[.slice so 6 sc, .slice fo n fcp] 72)).keep hk (fun h => h))
       clear hr hre hk)))
  obtain ⟨nr, hnr⟩ : ∃ n, R.length = n := ⟨_, rfl⟩
  have HNR := Lib.hid hnr
  rw [hnr] at HR hrl ⊢
  clear hnr
  obtain ⟨b8, hb8⟩ : ∃ b, w1.heap.size = b := ⟨_, rfl⟩
  rw [hb8] at HB1 ⊢
  clear hb8
  go_loopw [10, 28] (fun v i wr => SRel w2 t1 F R v i wr) (fun _ i _ => nr - (intOf i).toNat)
  case atStart => exact ⟨0, Nat.zero_le _, rfl, fun h => absurd h (Nat.lt_irrefl _), Keep.refl _ _⟩
  case round =>
    obtain ⟨k, hk, rfl, hout, hk8⟩ := hrel
    have HOUT := Lib.hid hout
    have HK8 := Lib.hid hk8
    clear hk8 hout
    by_cases hlj : k < nr
    · have hlji : ((k : Int) < (nr : Int)) = True := eq_true (by omega)
      obtain ⟨rb, ro, hao, hcl⟩ := rd_nat (HR.out.keep HK8.out (fun _ _ h => h)) hlj
      subst hao
      have hrm : R.getD k 0 ∈ R := by
        have : R.getD k 0 = R[k]'(by have := HNR.out; omega) := by simp [List.getD, show k < R.length by have := HNR.out; omega]
        rw [this]; exact List.getElem_mem _
      have hrlt := HRE.out.lt hrm
      have htk : R.take (k + 1) = R.take k ++ [R.getD k 0] := by
        rw [List.take_succ_eq_append_getElem (by have := HNR.out; omega)]
        simp [List.getD, show k < R.length by have := HNR.out; omega]
      obtain ⟨r, hr⟩ : ∃ r, R.getD k 0 = r := ⟨_, rfl⟩
      rw [hr] at hcl hrlt htk
      have HTK := Lib.hid htk; have HRLT := Lib.hid hrlt
      have HKK := Lib.hid (HK2.out.trans HK8.out (fun _ _ h => h))
      have HDC : Hid (∀ W : World, Keep (fun i => wr.heap.size ≤ i) wr W → W.cell? ⟨b8, 0, none⟩ = some (.slice so 6 sc) ∧ W.cell? ⟨b8, 1, none⟩ = some (.slice fo n fcp) ∧ W.cell? ⟨w.heap.size, 0, none⟩ = some (.slice ho 1 hc) ∧ W.cell? ⟨w.heap.size, 1, none⟩ = some (.slice (some ⟨bb, bo, none⟩) 1 cap)) := Lib.hid (fun W k2 => by
        have h1 := HB1.out.keep HK8.out (fun h => h); have h2 := HB2.out.keep HK8.out (fun h => h)
        have l1 := World.block_lt_of_cell? _ _ (h1.cell 0); have l2 := World.block_lt_of_cell? _ _ (h2.cell 0)
        have h3 := h1.keep k2 (fun h => by have h' : wr.heap.size ≤ b8 := h; have l1' : b8 < wr.heap.size := l1; omega)
        have h4 := h2.keep k2 (fun h => by have h' : wr.heap.size ≤ w.heap.size := h; have l2' : w.heap.size < wr.heap.size := l2; omega)
        exact ⟨h3.cell 0, h3.cell 1, h4.cell 0, h4.cell 1⟩)
      clear htk hrlt hrm hr
      go_wp2_with fail
      go_region_held3 (fun W => W.cell? ⟨b8, 0, none⟩ = some (.slice so 6 sc) ∧ W.cell? ⟨b8, 1, none⟩ = some (.slice fo n fcp) ∧ W.cell? ⟨w.heap.size, 0, none⟩ = some (.slice ho 1 hc) ∧ W.cell? ⟨w.heap.size, 1, none⟩ = some (.slice (some ⟨bb, bo, none⟩) 1 cap))
        ((refine HDC.out _ ?_; repeat (first | exact HK7.out.mono (fun _ _ h => h.elim) | exact HK6.out.mono (fun _ _ h => h.elim) | exact (Keep.refl _ _) | apply Keep.drewN | apply Keep.drew | apply Keep.alloc | refine Keep.setCell ?_ _ _ (fun _ => ?_) | exact HS7.out | exact HS6.out | exact Nat.le_refl _)))
        ((first
          | (go_at_call 58; go_loud (
             refine (HCH.out _ r (HKK.out.trans (show Keep (fun _ => False) wr _ by repeat (first | exact (Keep.refl _ _) | apply Keep.drewN | apply Keep.drew | apply Keep.alloc)) (fun _ _ h => h)) (by rw [← HN.out]; exact HRLT.out)).mono ?_
             rintro e w6 ⟨v6, us6, rfl, hf6, hk6⟩
             obtain ⟨fo6, fc6, hfe6, _⟩ := hf6.rd.shape
             obtain ⟨n6, hn6⟩ : ∃ n, (pick F r).length = n := ⟨_, rfl⟩
             rw [hn6] at hfe6
             subst hfe6
             have HF6 := Lib.hid hf6
             first
               | have HBL := Lib.hid ((Blk.new wr #[.slice none 0 0] 136).keep ((Keep.refl (fun _ => False) _).drew.trans hk6 (fun _ _ h => h)) (fun h => h))
               | skip
             have HK6 := Lib.hid (Keep.trans (show Keep (fun _ => False) wr _ from by repeat (first | exact (Keep.refl _ _) | apply Keep.drewN | apply Keep.drew | apply Keep.alloc)) hk6 (fun _ _ h => h))
             have HS6 : Hid (wr.heap.size ≤ w6.heap.size) := Lib.hid HK6.out.size
             clear hf6 hk6 hn6))
          | (go_at_call 111; go_loud (
             refine (HRS.out _ _ us6 r (HKK.out.trans (HK6.out.trans (show Keep (fun _ => False) w6 _ by repeat (first | exact (Keep.refl _ _) | apply Keep.drewN | apply Keep.drew | apply Keep.alloc)) (fun _ _ h => h)) (fun _ _ h => h)) HRLT.out (HF6.out.keep (by repeat (first | exact (Keep.refl _ _) | apply Keep.drewN | apply Keep.drew | apply Keep.alloc)))).mono ?_
             rintro e w7 ⟨v7, us7, rows7, rfl, hr7, hl7, hm7, hk7⟩
             obtain ⟨l7, hl7e⟩ : ∃ l, rows7.length = l := ⟨_, rfl⟩
             obtain ⟨a7, c7, hve7, _⟩ := ownsRow_shape hr7.own
             rw [hl7e] at hve7 hl7
             subst hve7
             have HL7 := Lib.hid hl7e
             have HR7 := Lib.hid hr7; have HM7 := Lib.hid hm7
             have HK67 := Lib.hid (Keep.trans (show Keep (fun _ => False) w6 _ from by repeat (first | exact (Keep.refl _ _) | apply Keep.drewN | apply Keep.drew | apply Keep.alloc)) hk7 (fun _ _ h => h))
             have HK7 := Lib.hid (HK6.out.trans HK67.out (fun _ _ h => h))
             first
               | have HBL2 := Lib.hid (HBL.out.keep HK67.out (fun h => h))
               | have HBL2 := Lib.hid ((Blk.new _ #[.slice none 0 0] 136).keep hk7 (fun h => h))
               | skip
             first
               | have c9 := HBL2.out.cell 0; have f9 := HBL2.out.free 0; simp at c9 f9
               | skip
             have HS7 : Hid (wr.heap.size ≤ w7.heap.size) := Lib.hid HK7.out.size
             clear hr7 hm7 hk7 hl7e))))
      all_goals (
        first
          | (have HAF : Hid (Aft wr (w7.setCell ⟨wr.heap.size, 0, none⟩ (.slice a7 l7 c7)) wr.heap.size (.slice a7 l7 c7) us7 rows7) := Lib.hid (by
              have h1 := World.block_lt_of_cell? _ _ (HBL.out.cell 0)
              have h1' : wr.heap.size < w6.heap.size := h1
              refine aft_set HR7.out ?_ HK7.out HBL2.out ?_ (Nat.le_refl _) <;> (try simp) <;> omega)
             generalize (w7.setCell ⟨wr.heap.size, 0, none⟩ (.slice a7 l7 c7)) = w8 at HAF ⊢
             obtain ⟨bl, hbl⟩ : ∃ b, wr.heap.size = b := ⟨_, rfl⟩
             have HAF2 : Hid (Aft wr w8 bl (.slice a7 l7 c7) us7 rows7) := Lib.hid (by rw [← hbl]; exact HAF.out)
             clear HAF
             rw [hbl]
             clear hbl)
          | (have HAF : Hid (Aft wr (w7.setCell ⟨w6.heap.size, 0, none⟩ (.slice a7 l7 c7)) w6.heap.size (.slice a7 l7 c7) us7 rows7) := Lib.hid (by
              have h6 := HS6.out
              refine aft_set HR7.out ?_ HK7.out HBL2.out ?_ h6 <;> (try simp) <;> omega)
             generalize (w7.setCell ⟨w6.heap.size, 0, none⟩ (.slice a7 l7 c7)) = w8 at HAF ⊢
             obtain ⟨bl, hbl⟩ : ∃ b, w6.heap.size = b := ⟨_, rfl⟩
             have HAF2 : Hid (Aft wr w8 bl (.slice a7 l7 c7) us7 rows7) := Lib.hid (by rw [← hbl]; exact HAF.out)
             clear HAF
             rw [hbl]
             clear hbl)
          | (have HAF : Hid (Aft wr (w7.alloc (.cells #[.slice a7 l7 c7] 136)) w7.heap.size (.slice a7 l7 c7) us7 rows7) := Lib.hid (aft_alloc HR7.out (by have h6 := HS6.out; (try simp); omega) HK7.out)
             generalize (w7.alloc (.cells #[.slice a7 l7 c7] 136)) = w8 at HAF ⊢
             obtain ⟨bl, hbl⟩ : ∃ b, w7.heap.size = b := ⟨_, rfl⟩
             have HAF2 : Hid (Aft wr w8 bl (.slice a7 l7 c7) us7 rows7) := Lib.hid (by rw [← hbl]; exact HAF.out)
             clear HAF
             rw [hbl]
             clear hbl)
        have hblc := HAF2.out.blk.cell 0
        simp at hblc
        by_cases h0 : k = 0
        · have hk0 : ((k : Int) == 0) = true := by rw [h0]; rfl
          go_wp2_with fail
          refine ⟨⟨k + 1, by have := HNR.out; omega, by go_num, fun _ => ⟨us7, rows7, HAF2.out.row.lower HK8.out.size, by rw [HL7.out]; exact hl7, fun x => ?_⟩, HK8.out.trans HAF2.out.kept (fun _ _ h => h)⟩, by simp [intOf]; omega⟩
          rw [HTK.out, HM7.out, h0]
          simp
        · have hk0 : ((k : Int) == 0) = false := by rw [beq_eq_false_iff_ne]; omega
          obtain ⟨us, rows, hro, hrl12, hrm⟩ := HOUT.out (by omega)
          obtain ⟨a10, c10, hve10, _⟩ := ownsRow_shape hro.own
          subst hve10
          have HRO := Lib.hid hro; have HRM := Lib.hid hrm
          have hro8 := hro.keep HAF2.out.kept
          have HDEL := Lib.hid (delete_any (F := 113) (capt := #[.pointer (some ⟨bl, 0, none⟩)]) (q := fun j => !decide (rat rows j ∈ rows7)) hro8 (enters_of Tryz.func113 (by kernel_rfl) rfl) (by omega) (fun W k2 j hj => by
            have hbl := HAF2.out.ge
            have hob : ∀ g, (Value.slice a10 rows.length c10).ownBlock = some g → g < wr.heap.size := fun g e => (HRO.out.own.lt g e).2
            exact sure1_any (HAF2.out.row.keepT k2 hob) ((hro8.rd j hj).keep k2 (fun g e e2 => hro8.sep j hj g e e2)) ((HAF2.out.blk.keep k2 (fun e => by have := hob bl e; omega)).cell 0) (by rw [HL7.out]; omega)))
          clear hro hrm hro8
          obtain ⟨nq, hnq⟩ : ∃ n, rows.length = n := ⟨_, rfl⟩
          rw [hnq] at HDEL hrl12 ⊢
          have HNQ := Lib.hid hnq
          clear hnq
          go_wp2_with (go_at_call 112; refine HDEL.out.mono ?_; rintro e w9 ⟨v9, rfl, hr9, hk9⟩; have HR9 := Lib.hid hr9; have HK9 := Lib.hid hk9; clear hr9 hk9)
          refine ⟨⟨k + 1, by have := HNR.out; omega, by go_num, fun _ => ⟨_, _, HR9.out, ?_, fun x => ?_⟩, (HK8.out.trans HAF2.out.kept (fun _ _ h => h)).trans HK9.out (fun i hi e => ?_)⟩, by simp [intOf]; omega⟩
          · rw [List.length_map]
            have := stays_le (fun j => !decide (rat rows j ∈ rows7)) rows.length
            have := HNQ.out
            omega
          · rw [stays_rows, HRM.out, HTK.out, HM7.out]
            constructor
            · rintro ⟨h1, h2⟩ r' hr'
              rcases List.mem_append.1 hr' with h | h
              · exact h1 r' h
              · rw [List.mem_singleton.1 h]; exact h2
            · intro h
              exact ⟨fun r' hr' => h r' (List.mem_append_left _ hr'), h r (List.mem_append_right _ (List.mem_singleton.2 rfl))⟩
          · have := (HRO.out.own.lt i (by rw [HNQ.out]; exact e)).1; omega)
    · have hje : k = nr := by have := HNR.out; omega
      subst hje
      have hji2 : ((k : Int) < (k : Int)) = False := by simp
      go_wp2_with fail
      go_ret2
      have hpos : 0 < k := by
        have h1 := HNE.out R HRE.out
        rw [← HNR.out]
        exact List.length_pos_iff.2 h1
      obtain ⟨us, rows, hr, hl, hm⟩ := HOUT.out hpos
      have hts : R.take k = R := List.take_of_length_le (by rw [HNR.out]; exact Nat.le_refl _)
      rw [hts] at hm
      exact ⟨_, us, rows, R, rfl, ⟨ownsRow_base hr.own HK2.out.size, hr.rd, hr.sep, fun j hj g e => Nat.le_trans HK2.out.size (hr.fr j hj g e)⟩, hl, HRE.out, hm, HK2.out.trans HK8.out (fun _ _ h => h)⟩
end Go.Proofs.YtkkjonkcjlnohaaGreatDoor

/- slices.Contains at pairs; house.once. -/
namespace Go.Proofs.YtkkjonkcjlnohaaGreatDoor
set_option linter.unusedSimpArgs false
set_option linter.unusedVariables false
set_option linter.unnecessarySimpa false
open Go.RowKit

theorem eqIn_pair (n : Nat) (a b c d : Int) (W : World) : (Op.equalIn (n + 2) 127 (.agg #[.int .i64 a, .int .i64 b]) (.agg #[.int .i64 c, .int .i64 d])).run Tryz.prog W = .ok (decide (a = c) && decide (b = d)) W := by
  have h3 : ∀ (x y : Int) (V : World), (Op.equalIn (n + 1) 3 (.int .i64 x) (.int .i64 y)).run Tryz.prog V = .ok (x == y) V := fun x y V => run_equalIn_int V n 3 .i64 .i64 x y Tryz.underlying3
  have hsz : ∀ V : World, (sizeOf 3).run Tryz.prog V = .ok 1 V := fun V => Tryz.sizeOf3 V
  rw [show n + 2 = (n + 1) + 1 from rfl, Op.equalIn]
  simp only [Sem.run_bind, run_underlying Tryz.underlying127, Result.andThen_ok, hsz]
  have hp : ∀ (x y : Int) (V : World), (part 3 #[Value.int IntKind.i64 x, Value.int IntKind.i64 y] 0).run Tryz.prog V = .ok (.int .i64 x) V := fun x y V => by
    simp [part, hsz]
    try rfl
  have hp1 : ∀ (x y : Int) (V : World), (part 3 #[Value.int IntKind.i64 x, Value.int IntKind.i64 y] 1).run Tryz.prog V = .ok (.int .i64 y) V := fun x y V => by
    simp [part, hsz]
    try rfl
  rw [Std.Legacy.Range.forIn_eq_forIn_range']
  simp [Std.Legacy.Range.size, List.range', hp, hp1, h3]
  by_cases e1 : a = c <;> by_cases e2 : b = d <;> simp [e1, e2, hp, hp1, h3]
theorem eql_pair (a b c d : Int) (W : World) : (binOp .eql 127 (.agg #[.int .i64 a, .int .i64 b]) (.agg #[.int .i64 c, .int .i64 d])).run Tryz.prog W = .ok (.bool (decide (a = c) && decide (b = d))) W := by
  rw [run_eql_struct, eqIn_pair 9998]
  rfl
def pat (l : List (Int × Int)) (k : Nat) : Int × Int := l.getD k (0, 0)
theorem pat_get {l : List (Int × Int)} {k : Nat} (h : k < l.length) : pat l k = l[k] := by simp [pat, List.getD, h]
theorem pairCells_at : ∀ (l : List (Int × Int)) (k : Nat), k < l.length → (pairCells l)[k * 2]? = some (.int .i64 (pat l k).1) ∧ (pairCells l)[k * 2 + 1]? = some (.int .i64 (pat l k).2)
  | [], k, h => by simp at h
  | a :: l, 0, h => ⟨rfl, rfl⟩
  | a :: l, k + 1, h => by
    have ih := pairCells_at l k (by simpa using h)
    have e : pairCells (a :: l) = pairCell a ++ pairCells l := rfl
    rw [e, List.getElem?_append_right (by simp [pairCell]; omega), List.getElem?_append_right (by simp [pairCell]; omega)]
    rw [show (k + 1) * 2 - (pairCell a).length = k * 2 by simp [pairCell]; omega, show (k + 1) * 2 + 1 - (pairCell a).length = k * 2 + 1 by simp [pairCell]; omega]
    exact ih
theorem rd_pc {w : World} {ao : Option Addr} {n cap : Nat} {l : List (Int × Int)} (h : Rd w 2 (.slice ao n cap) n (pairCells l)) {k : Nat} (hk : k < n) :
    ∃ b o, ao = some ⟨b, o, none⟩ ∧ w.cell? ⟨b, o + k * 2, none⟩ = some (.int .i64 (pat l k).1) ∧ w.cell? ⟨b, o + k * 2 + 1, none⟩ = some (.int .i64 (pat l k).2) := by
  have hl : l.length = n := by have := h.1; rw [pairCells_length] at this; omega
  rcases h.2.2 with ⟨_, h'⟩ | ⟨b, o, c, h2, _, _, hx⟩
  · omega
  · cases h2
    have h1 := pairCells_at l k (by omega)
    exact ⟨b, o, rfl, hx _ _ h1.1, by have := hx _ _ h1.2; rwa [← Nat.add_assoc] at this⟩
theorem pairCells_append (a b : List (Int × Int)) : pairCells (a ++ b) = pairCells a ++ pairCells b := by simp [pairCells]
def isP (l : List (Int × Int)) (x : Int × Int) (k : Nat) : Bool := decide (x = pat l k)
theorem isP_any (l : List (Int × Int)) (x : Int × Int) : anyQ (isP l x) l.length = decide (x ∈ l) := by
  rw [Bool.eq_iff_iff, anyQ_iff, decide_eq_true_iff]
  constructor
  · rintro ⟨k, hk, h⟩
    unfold isP at h
    rw [decide_eq_true_iff] at h
    rw [h, pat_get hk]
    exact List.getElem_mem _
  · intro h
    obtain ⟨k, hk, rfl⟩ := List.getElem_of_mem h
    exact ⟨k, hk, by unfold isP; rw [pat_get hk]; simp⟩
set_option maxHeartbeats 1000000 in
set_option maxRecDepth 100000 in
theorem idxP_any {w : World} {v : Value} {l : List (Int × Int)} {a b : Int} (hv : Rd w 2 v l.length (pairCells l)) (hl : l.length ≤ 1000000000) :
    Calls Tryz.prog 155 #[v, .agg #[.int .i64 a, .int .i64 b]] w (IdxPost w (.int .i64 (fstQ (isP l (a, b)) l.length))) := by
  obtain ⟨ao, cap, hve, hn, hm, hsp⟩ := hv.shape
  subst hve
  have HV := Lib.hid hv; clear hv
  clear hsp hn hm
  obtain ⟨q, hq⟩ : ∃ q, isP l (a, b) = q := ⟨_, rfl⟩
  have HQ := Lib.hid hq
  obtain ⟨n, hn⟩ : ∃ n, l.length = n := ⟨_, rfl⟩
  rw [hn] at HV hl
  rw [hn, hq]
  clear hn hq
  go_enter Tryz.func155, Tryz.ntmps155
  go_wp2_with fail
  obtain ⟨w2, hw2⟩ : ∃ w2, w2 = w.alloc (.cells #[.int .i64 a, .int .i64 b] 127) := ⟨_, rfl⟩
  have HB : Hid (Blk w2 w.heap.size #[.int .i64 a, .int .i64 b] 127) := Lib.hid (by rw [hw2]; exact Blk.new _ _ _)
  have HK2 : Hid (Keep (fun _ => False) w w2) := Lib.hid (by rw [hw2]; exact (Keep.refl _ _).alloc _)
  rw [← hw2]
  clear hw2
  go_loopw [8] (fun i wr => ∃ k : Nat, k ≤ n ∧ i = .int .i64 k ∧ Keep (fun _ => False) w2 wr ∧ ∀ j, j < k → q j = false) (fun i _ => n - (intOf i).toNat)
  case atStart => exact ⟨0, Nat.zero_le _, rfl, Keep.refl _ _, fun j h => by omega⟩
  case round =>
    obtain ⟨k, hk, rfl, hkeep, h0⟩ := hrel
    have HK := Lib.hid hkeep; clear hkeep
    have H0 := Lib.hid h0; clear h0
    by_cases hlt : k < n
    · have hlti : ((k : Int) < (n : Int)) = True := eq_true (by omega)
      obtain ⟨rb, ro, hao, c0, c1⟩ := rd_pc (HV.out.keep (HK2.out.trans HK.out (fun _ _ h => h)) (fun _ _ h => h)) hlt
      subst hao
      have hb := HB.out.keep HK.out (fun h => h)
      have b0 := hb.cell 0; have b1 := hb.cell 1
      simp at b0 b1
      obtain ⟨c, hc⟩ : ∃ c, (pat l k).1 = c := ⟨_, rfl⟩
      obtain ⟨d, hd⟩ : ∃ d, (pat l k).2 = d := ⟨_, rfl⟩
      have HQK : Hid (q k = (decide (a = c) && decide (b = d))) := Lib.hid (by rw [← HQ.out]; unfold isP; rw [← hc, ← hd, ← Bool.decide_and]; exact decide_eq_decide.2 Prod.ext_iff)
      rw [hc] at c0
      rw [hd] at c1
      clear hc hd hb
      obtain ⟨qk, hqk⟩ : ∃ x, (decide (a = c) && decide (b = d)) = x := ⟨_, rfl⟩
      have heq : ∀ W, (binOp .eql 127 (.agg #[.int .i64 a, .int .i64 b]) (.agg #[.int .i64 c, .int .i64 d])).run Tryz.prog W = .ok (.bool qk) W := fun W => by rw [eql_pair, hqk]
      rw [hqk] at HQK
      clear hqk
      go_wp2_with fail
      cases qk with
      | true =>
        go_quiet (fail)
        go_wp2_with fail
        go_ret
        refine ⟨?_, (HK2.out.trans HK.out (fun _ _ h => h)).trans ((Keep.refl _ _).drewN _) (fun _ _ h => h)⟩
        rw [fstQ_at hlt HQK.out H0.out]
        rfl
      | false =>
        go_quiet (fail)
        go_wp2_with fail
        go_roundw
        case rel =>
          refine ⟨k + 1, by omega, by go_num, HK.out.trans ((Keep.refl _ _).drewN _) (fun _ _ h => h), fun j hj => ?_⟩
          by_cases e : j = k
          · rw [e]; exact HQK.out
          · exact H0.out j (by omega)
        case measure => simp [intOf]; omega
    · have hke : k = n := by omega
      subst hke
      have hji : ((k : Int) < (k : Int)) = False := by simp
      go_wp2_with fail
      go_ret
      refine ⟨?_, HK2.out.trans HK.out (fun _ _ h => h)⟩
      rw [fstQ_none H0.out]
      rfl
theorem contP_any {w : World} {v : Value} {l : List (Int × Int)} {a b : Int} (hv : Rd w 2 v l.length (pairCells l)) (hl : l.length ≤ 1000000000) :
    Calls Tryz.prog 107 #[v, .agg #[.int .i64 a, .int .i64 b]] w (IdxPost w (.bool (decide ((a, b) ∈ l)))) := by
  have HB := Lib.hid (fstQ_ge (isP l (a, b)) l.length)
  rw [isP_any] at HB
  have h : Hid (∀ W, Keep (fun _ => False) w W → Calls Tryz.prog 155 #[v, .agg #[.int .i64 a, .int .i64 b]] W (IdxPost W (.int .i64 (fstQ (isP l (a, b)) l.length)))) := Lib.hid (fun W k => idxP_any (hv.keep k (fun _ _ h => h)) hl)
  obtain ⟨ao, cap, hve, _⟩ := hv.shape
  subst hve
  clear hv
  go_enter Tryz.func107, Tryz.ntmps107
  go_wp2_with (go_at_call 155; refine (h.out _ ((Keep.refl _ w).alloc _)).mono ?_; rintro e w1 ⟨rfl, hk⟩; have HK := Lib.hid (((Keep.refl (fun _ => False) w).alloc _).trans hk (fun _ _ h => h)); clear hk)
  go_ret
  exact ⟨by rw [← HB.out]; rfl, HK.out⟩
end Go.Proofs.YtkkjonkcjlnohaaGreatDoor

/- house.once at tests. -/
namespace Go.Proofs.YtkkjonkcjlnohaaGreatDoor
set_option linter.unusedSimpArgs false
set_option linter.unusedVariables false
set_option linter.unnecessarySimpa false
open Go.RowKit

/-- Each element once, in the order of its first place. -/
def onceA {α : Type} [DecidableEq α] (acc : List α) (x : α) : List α := if x ∈ acc then acc else acc ++ [x]
def onceL {α : Type} [DecidableEq α] (l : List α) : List α := l.foldl onceA []
theorem onceL_take {α : Type} [DecidableEq α] (l : List α) (d : α) {k : Nat} (h : k < l.length) : onceL (l.take (k + 1)) = onceA (onceL (l.take k)) (l.getD k d) := by
  have e : l.getD k d = l[k] := by simp [List.getD, h]
  unfold onceL
  rw [List.take_succ_eq_append_getElem h, e, List.foldl_append]
  rfl
theorem mem_onceA {α : Type} [DecidableEq α] {acc : List α} {x y : α} : y ∈ onceA acc x ↔ y ∈ acc ∨ y = x := by
  unfold onceA
  split
  · rename_i h
    exact ⟨.inl, fun h2 => h2.elim id (fun e => e ▸ h)⟩
  · simp
theorem mem_fold {α : Type} [DecidableEq α] : ∀ (l acc : List α) {y : α}, y ∈ l.foldl onceA acc ↔ y ∈ acc ∨ y ∈ l
  | [], acc, y => by simp
  | x :: l, acc, y => by
    rw [List.foldl_cons, mem_fold l, mem_onceA, List.mem_cons, or_assoc]
theorem mem_onceL {α : Type} [DecidableEq α] {l : List α} {y : α} : y ∈ onceL l ↔ y ∈ l := by
  unfold onceL
  rw [mem_fold]
  simp
theorem nodup_fold {α : Type} [DecidableEq α] : ∀ (l acc : List α), acc.Nodup → (l.foldl onceA acc).Nodup
  | [], acc, h => h
  | x :: l, acc, h => by
    rw [List.foldl_cons]
    refine nodup_fold l _ ?_
    unfold onceA
    split
    · exact h
    · rename_i hx
      exact List.nodup_append.2 ⟨h, by simp, fun a ha b hb e => by rw [List.mem_singleton] at hb; rw [e, hb] at ha; exact hx ha⟩
theorem onceL_nodup {α : Type} [DecidableEq α] (l : List α) : (onceL l).Nodup := nodup_fold l [] List.nodup_nil
theorem len_fold {α : Type} [DecidableEq α] : ∀ (l acc : List α), (l.foldl onceA acc).length ≤ acc.length + l.length
  | [], acc => by simp
  | x :: l, acc => by
    rw [List.foldl_cons]
    have h := len_fold l (onceA acc x)
    have h2 : (onceA acc x).length ≤ acc.length + 1 := by
      unfold onceA
      split
      · omega
      · simp
    rw [List.length_cons]
    omega
theorem onceL_len {α : Type} [DecidableEq α] (l : List α) : (onceL l).length ≤ l.length := by
  have := len_fold l ([] : List α)
  simpa [onceL] using this
/-- A map that parts what it is given commutes with it. -/
theorem fold_map {α β : Type} [DecidableEq α] [DecidableEq β] (f : α → β) : ∀ (l acc : List α), (∀ x ∈ acc ++ l, ∀ y ∈ acc ++ l, f x = f y → x = y) → (l.map f).foldl onceA (acc.map f) = (l.foldl onceA acc).map f
  | [], acc, _ => rfl
  | x :: l, acc, hf => by
    have e : onceA (acc.map f) (f x) = (onceA acc x).map f := by
      unfold onceA
      by_cases h : x ∈ acc
      · rw [if_pos h, if_pos (List.mem_map.2 ⟨x, h, rfl⟩)]
      · rw [if_neg h, if_neg (fun h2 => by
          obtain ⟨y, hy, e⟩ := List.mem_map.1 h2
          have := hf y (List.mem_append_left _ hy) x (List.mem_append_right _ (List.mem_cons_self ..)) e
          exact h (this ▸ hy))]
        simp
    rw [List.map_cons, List.foldl_cons, e, List.foldl_cons]
    refine fold_map f l _ (fun a ha b hb => hf a ?_ b ?_)
    · rcases List.mem_append.1 ha with h | h
      · rcases mem_onceA.1 h with h | h
        · exact List.mem_append_left _ h
        · rw [h]; simp
      · simp [h]
    · rcases List.mem_append.1 hb with h | h
      · rcases mem_onceA.1 h with h | h
        · exact List.mem_append_left _ h
        · rw [h]; simp
      · simp [h]
theorem onceL_map {α β : Type} [DecidableEq α] [DecidableEq β] (f : α → β) (l : List α) (hf : ∀ x ∈ l, ∀ y ∈ l, f x = f y → x = y) : onceL (l.map f) = (onceL l).map f :=
  fold_map f l [] (by simpa using hf)
def OnceP2 (w : World) (l : List (Int × Int)) (e : Ending) (w' : World) : Prop :=
  ∃ v, e = .returned v ∧ Rd w' 2 v (onceL l).length (pairCells (onceL l)) ∧ Keep (fun _ => False) w w'
def ORel (w : World) (l : List (Int × Int)) (v i : Value) (wr : World) : Prop :=
  ∃ k : Nat, k ≤ l.length ∧ i = .int .i64 k ∧ wr.ownsRow w.heap.size 127 2 v (onceL (l.take k)).length (pairCells (onceL (l.take k))) ∧ Keep (fun _ => False) w wr
set_option maxHeartbeats 2000000 in
set_option maxRecDepth 100000 in
theorem onceP_any {w : World} {v : Value} {l : List (Int × Int)} (hv : Rd w 2 v l.length (pairCells l)) (hl : l.length ≤ 1000000000) :
    Calls Tryz.prog 72 #[v] w (OnceP2 w l) := by
  obtain ⟨ao, cap, hve, hn, hm, hsp⟩ := hv.shape
  subst hve
  have HV := Lib.hid hv; clear hv
  clear hsp hn hm
  obtain ⟨n, hn⟩ : ∃ n, l.length = n := ⟨_, rfl⟩
  have HN := Lib.hid hn
  rw [hn] at HV hl ⊢
  clear hn
  go_enter Tryz.func72, Tryz.ntmps72
  go_wp2_with fail
  go_loopw [3, 8] (fun v i wr => ORel w l v i wr) (fun _ i _ => n - (intOf i).toNat)
  case atStart => exact ⟨0, Nat.zero_le _, rfl, World.ownsRow_nil _ _ _ _, Keep.refl _ _⟩
  case round =>
    obtain ⟨k, hk, rfl, hown, hkeep⟩ := hrel
    obtain ⟨a3, c3, hve, _⟩ := ownsRow_shape hown
    subst hve
    have HK := Lib.hid hkeep; have HO := Lib.hid hown
    have HR := Lib.hid (ownsRow_rd hown (pairCells_one _))
    have hol : (onceL (l.take k)).length ≤ k := by
      have := onceL_len (l.take k)
      rw [List.length_take] at this
      omega
    clear hkeep hown
    by_cases hlt : k < n
    · have hlti : ((k : Int) < (n : Int)) = True := eq_true (by omega)
      obtain ⟨rb, ro, hao, c0, c1⟩ := rd_pc (HV.out.keep HK.out (fun _ _ h => h)) hlt
      subst hao
      have htk := onceL_take l (0, 0) (k := k) (by have := HN.out; omega)
      rw [show l.getD k (0, 0) = pat l k from rfl] at htk
      obtain ⟨a, ha⟩ : ∃ c, (pat l k).1 = c := ⟨_, rfl⟩
      obtain ⟨b, hb⟩ : ∃ d, (pat l k).2 = d := ⟨_, rfl⟩
      rw [ha] at c0
      rw [hb] at c1
      rw [show pat l k = (a, b) from Prod.ext ha hb] at htk
      have HTK := Lib.hid htk
      clear ha hb htk
      obtain ⟨m, hm⟩ : ∃ m, (onceL (l.take k)).length = m := ⟨_, rfl⟩
      have HM := Lib.hid hm
      have HCN := Lib.hid (contP_any (w := wr.alloc (.cells #[.int .i64 a, .int .i64 b] 127)) (a := a) (b := b) (HR.out.keep ((Keep.refl (fun _ => False) wr).alloc _) (fun _ _ h => h)) (by omega))
      rw [hm] at HCN hol HO ⊢
      clear hm
      by_cases hin : (a, b) ∈ onceL (l.take k)
      · rw [decide_eq_true hin] at HCN
        have HIN := Lib.hid hin
        clear hin
        go_wp2_with (go_at_call 107; refine HCN.out.mono ?_; rintro e w1 ⟨rfl, hk⟩; have HK1 := Lib.hid (((Keep.refl (fun _ => False) wr).alloc _).trans hk (fun _ _ h => h)); clear hk)
        go_roundw
        case rel =>
          have e : onceL (l.take (k + 1)) = onceL (l.take k) := by rw [HTK.out]; unfold onceA; rw [if_pos HIN.out]
          refine ⟨k + 1, by have := HN.out; omega, by go_num, ?_, HK.out.trans HK1.out (fun _ _ h => h)⟩
          rw [e, HM.out]
          exact ownsRow_keep HO.out HK1.out (fun _ _ h => h)
        case measure => simp [intOf]; omega
      · rw [decide_eq_false hin] at HCN
        have HIN := Lib.hid hin
        clear hin
        go_wp2_with (first
          | (go_at_call 107; refine HCN.out.mono ?_; rintro e w1 ⟨rfl, hk⟩; have hbb := (Blk.new wr #[.int .i64 a, .int .i64 b] 127).keep hk (fun h => h); have d0 := hbb.cell 0; have d1 := hbb.cell 1; simp at d0 d1; have HK1 := Lib.hid (((Keep.refl (fun _ => False) wr).alloc (.cells #[.int .i64 a, .int .i64 b] 127)).trans hk (fun _ _ h => h)); clear hk hbb)
          | (at_builtin; go_loud (refine wpList_app (w := w1.alloc (.cells #[.int .i64 a, .int .i64 b] 127)) rfl (.tmp 16) (.tmp 18) 88 88 rfl 127 zPair 2 16 Tryz.underlying88 info176 rfl ((ownsRow_keep HO.out HK1.out (fun _ _ h => h)).alloc _) rfl (Src.new (P := Tryz.prog) Tryz.underlying88 w1 1 [.int .i64 a, .int .i64 b] 127 rfl (by simp [Value.oneCell'])) rfl (by unfold maxLen; omega) (by omega) (by have := HK.out.size; have := HK1.out.size; simp; omega) ?_; intro v9 w9 happ; have HA := Lib.hid happ; clear happ)))
        go_roundw
        case rel =>
          have e : onceL (l.take (k + 1)) = onceL (l.take k) ++ [(a, b)] := by rw [HTK.out]; unfold onceA; rw [if_neg HIN.out]
          refine ⟨k + 1, by have := HN.out; omega, by go_num, ?_, (HK.out.trans (HK1.out.alloc _) (fun _ _ h => h)).trans HA.out.keep (fun i hi e => by have := (HO.out.lt i e).1; omega)⟩
          rw [e, List.length_append, HM.out, pairCells_append]
          exact HA.out.own
        case measure => simp [intOf]; omega
    · have hke : k = n := by have := HN.out; omega
      subst hke
      have hji : ((k : Int) < (k : Int)) = False := by simp
      go_wp2_with fail
      go_ret
      have e : l.take k = l := List.take_of_length_le (by rw [HN.out]; exact Nat.le_refl _)
      have h := HR.out
      rw [e] at h ⊢
      exact ⟨_, rfl, h, HK.out⟩
end Go.Proofs.YtkkjonkcjlnohaaGreatDoor
