/- What the rows' condition on the package-level variables gives the walks. -/
import Derived.Test.YtkkjonkcjlnohaaGreatDoorTie
import Derived.Test.YtkkjonkcjlnohaaGreatDoorSM3
import Derived.ProofKit
import Derived.LaidMore
import Derived.OpenShut
import Derived.LaidSub
import Derived.Lib.LaidU8
import Derived.Shelf.Vars

/- What the rows' condition on the package-level variables gives the walks. -/
namespace Go.Proofs.YtkkjonkcjlnohaaGreatDoor
set_option linter.unusedSimpArgs false
set_option linter.unusedVariables false
set_option linter.unnecessarySimpa false
open Go Go.ChangeShapes Go.WideShapes Go.ChangeAt Go.WideMaps Go.WideElems Go.RowKit

theorem gCh : Tryz.prog.globalNamed "cubeb/house.changes" = some 0 := by kernel_rfl
theorem tCh : (Tryz.prog.globals[0]?).map (·.type) = some 118 := by kernel_rfl
theorem gTab : Tryz.prog.globalNamed "math/bits.deBruijn64tab" = some 6 := by kernel_rfl
theorem gEran : Tryz.prog.globalNamed "strconv.ErrRange" = some 8 := by kernel_rfl
theorem gEsyn : Tryz.prog.globalNamed "strconv.ErrSyntax" = some 7 := by kernel_rfl
/-- The table of changes as the row lists it. -/
def chD : DataW Unit := match (Rows.laid_cubeb_house_changes : DataW Unit) with | .iface _ d => d | d => d
theorem chD_eq : (Rows.laid_cubeb_house_changes : DataW Unit) = .iface "func table" chD := rfl
/-- A command's name by its number. -/
def nameOf (f : Nat) : List UInt8 :=
  40 :: ([42, 99, 117, 98, 101, 98, 47, 104, 111, 117, 115, 101, 46, 115, 116, 97, 116, 101, 41, 46] ++
    if f = 399 then [116, 97, 107, 101] else if f = 400 then [98, 108, 101, 110, 100] else if f = 401 then [112, 117, 116] else if f = 402 then [116, 111, 117, 99, 104] else if f = 403 then [116, 101, 115, 116] else [115, 104, 117, 116])
def chE (s : List UInt8) : DataW (List UInt8) :=
  match chF s with
  | none => .nil
  | some (so, f) => .agg [.lit (.string so), .held (nameOf f)]
theorem chD_at (s : List UInt8) : chD.funcsOut.atKey (.string s) .nil = chE s := by
  unfold chE chF
  by_cases h1 : s = [116, 97, 107, 101]
  · subst h1; rfl
  by_cases h2 : s = [98, 108, 101, 110, 100]
  · subst h2; rfl
  by_cases h3 : s = [112, 117, 116]
  · subst h3; rfl
  by_cases h4 : s = [116, 111, 117, 99, 104]
  · subst h4; rfl
  by_cases h5 : s = [116, 101, 115, 116]
  · subst h5; rfl
  by_cases h6 : s = [99, 108, 111, 115, 101]
  · subst h6; rfl
  rw [if_neg h1, if_neg h2, if_neg h3, if_neg h4, if_neg h5, if_neg h6]
  have n : ∀ k : List UInt8, s ≠ k → Lit.sameKey (.string k) (.string s) = false := fun k h => by
    show (k == s) = false
    exact beq_eq_false_iff_ne.2 (fun e => h e.symm)
  show DataW.atKey (.map [(.string [98, 108, 101, 110, 100], _), (.string [99, 108, 111, 115, 101], _), (.string [112, 117, 116], _), (.string [116, 97, 107, 101], _), (.string [116, 101, 115, 116], _), (.string [116, 111, 117, 99, 104], _)]) (.string s) .nil = .nil
  simp only [DataW.atKey, List.find?, n _ h1, n _ h2, n _ h3, n _ h4, n _ h5, n _ h6]

theorem chF_cases {s so : List UInt8} {f : Nat} (h : chF s = some (so, f)) : f = 399 ∨ f = 400 ∨ f = 401 ∨ f = 402 ∨ f = 403 ∨ f = 404 := by
  unfold chF at h
  repeat' split at h
  all_goals first | (cases h; simp; done) | (cases h)
theorem one_name (f : Nat) (h : f = 399 ∨ f = 400 ∨ f = 401 ∨ f = 402 ∨ f = 403 ∨ f = 404) : ((List.range Tryz.prog.funcs.size).filter fun i => (Tryz.prog.funcs[i]?).any (·.name.toUTF8.data.toList == nameOf f)) = [f] := by
  rcases h with rfl | rfl | rfl | rfl | rfl | rfl <;> kernel_rfl

theorem cells132 : Tryz.prog.cellsOf 96 = 2 := by kernel_rfl
theorem cells9 : Tryz.prog.cellsOf 9 = 1 := by kernel_rfl
theorem cells130 : Tryz.prog.cellsOf 94 = 1 := by kernel_rfl
set_option maxRecDepth 100000 in
theorem changes_at {W : World} (h : funcsAt Tryz.prog W "cubeb/house.changes" chD) : ∃ bm, W.cell? ⟨0, 0, none⟩ = some (.map (some bm)) ∧ bm < W.heap.size ∧ ChAt bm W.heap[bm]? := by
  obtain ⟨g, t, cs, fuel, p, hg, ht, hv, hd⟩ := h
  obtain rfl := Option.some.inj (gCh.symm.trans hg)
  obtain rfl := Option.some.inj (tCh.symm.trans ht)
  rcases open_map Tryz.underlying118 hd with ⟨_, hx⟩ | ⟨bm, es, clock, m, rfl, hcs, hb, _, F, hx⟩
  · cases hx
  simp only [Prod.mk.injEq] at hx
  have hcell : W.cell? ⟨0, 0, none⟩ = some (.map (some bm)) := by
    have := World.var?_cell hg hv 0
    rw [Array.eq_one_of_toList hcs] at this
    simpa using this
  refine ⟨bm, hcell, (Array.getElem?_eq_some_iff.1 hb).1, fun w hw s hs => ?_⟩
  rw [hb] at hw
  have zero : (zeroValue 96).run Tryz.prog w = .ok (.agg #[.string ⟨#[]⟩, .nilFunc]) w := by kernel_rfl
  rcases fit_lookup_ok (w := w) (string_law Tryz.underlying9) Tryz.underlying118 zero hw F (keyOf_string_mk (s := s) Tryz.underlying9 (by unfold maxLen; omega)) with ⟨hrun, hat⟩ | ⟨v, y, hrun, hRv, hat, _⟩
  · have h1 := hat .nil
    rw [← hx.1, chD_at] at h1
    have hc : chF s.data.toList = none := by
      cases hc : chF s.data.toList with
      | none => rfl
      | some x => unfold chE at h1; rw [hc] at h1; cases h1
    unfold chV
    rw [hc]
    exact hrun
  · have h1 := hat .nil
    rw [← hx.1, chD_at] at h1
    unfold elemAt at hRv
    split at hRv
    · rename_i hform
      obtain ⟨y0, y1, n, hy, hl, hr0, hr1⟩ := trod_struct2 Tryz.underlying96 hRv
      cases hc : chF s.data.toList with
      | none => unfold chE at h1; rw [hc, hy] at h1; cases h1
      | some x =>
        obtain ⟨so, f⟩ := x
        unfold chE at h1
        rw [hc, hy] at h1
        obtain ⟨cs2, rfl⟩ : ∃ cs2, v = .agg cs2 := by
          cases v with
          | agg cs2 => exact ⟨cs2, rfl⟩
          | _ => simp [Value.formed, Tryz.underlying96] at hform
        have hcl : (Value.agg cs2).cells = cs2 := rfl
        rw [hcl] at hl hr0 hr1
        rw [cells132] at hl
        rw [cells9] at hr0
        rw [cells130] at hr1
        obtain ⟨l2⟩ := cs2
        match l2, hl with
        | [a, b], _ =>
          simp only [List.drop_zero, List.take_succ_cons, List.take_zero, List.drop_succ_cons] at hr0 hr1
          obtain ⟨s', hs', hy0, _⟩ := DataW.trod_string Tryz.underlying9 hr0
          simp only [DataW.agg.injEq, List.cons.injEq, and_true] at h1
          obtain ⟨h10, h11⟩ := h1
          rw [hy0] at h10
          have hso : s' = bs so := by
            simp only [DataW.lit.injEq, Lit.string.injEq] at h10
            exact ByteArray.ext (Array.toList_inj.1 (by rw [← h10]; rfl))
          have hb2 : b = .func (.func f) #[] #[] := by
            obtain ⟨y11, y12⟩ := y1
            simp only at h11
            rw [← h11] at hr1
            exact func_of_trod (f0 := f) Tryz.underlying94 (one_name f (chF_cases hc)) hr1
          simp only [List.cons.injEq, and_true] at hs'
          rw [hs', hb2, hso] at hrun
          unfold chV
          rw [hc]
          exact hrun
    · cases hRv

/-- What every row of this seat lists. -/
def laidL : List (String × DataW Unit) := Rows.topSureRow.laid
theorem tab_eq : (Rows.laid_math_bits_deBruijn64tab : DataW Unit) = Lib.tabData .u8 (Lib.deBruijn64tab.map fun n : Nat => (n : Int)) := by kernel_rfl
theorem pow_eq : (Rows.laid_internal_strconv_uint64pow10 : DataW Unit) = Lib.tabData .u64 Lib.pow10Tab := by kernel_rfl
theorem glob_size : Tryz.prog.globals.size = 12 := by kernel_rfl
theorem cells5 : Tryz.prog.cellsOf 5 = 1 := by kernel_rfl
theorem cells268 : Tryz.prog.cellsOf 305 = 64 := by kernel_rfl
theorem cells222 : Tryz.prog.cellsOf 222 = 1 := by kernel_rfl
theorem cells303 : Tryz.prog.cellsOf 377 = 20 := by kernel_rfl
theorem tTab : (Tryz.prog.globals[6]?).map (·.type) = some 305 := by kernel_rfl
theorem tPow : (Tryz.prog.globals[10]?).map (·.type) = some 377 := by kernel_rfl
theorem tE4 : (Tryz.prog.globals[7]?).map (·.type) = some 120 := by kernel_rfl
theorem tE5 : (Tryz.prog.globals[8]?).map (·.type) = some 120 := by kernel_rfl
theorem shape1 : ((begin Tryz.prog (fun _ _ => 0) default).world.heap[2]?).bind Obj.row? = some (#[.int .i64 0], 3) := by kernel_rfl
theorem shape8 : (((begin Tryz.prog (fun _ _ => 0) default).world.heap[11]?).bind Obj.row?).isSome = true := by kernel_rfl
theorem err_at {W : World} {n : String} {g : Nat} {name : String} {d : DataW Unit} (h : Lib.VarReads Tryz.prog W n (.iface name d)) (hg : Tryz.prog.globalNamed n = some g) (ht : (Tryz.prog.globals[g]?).map (·.type) = some 120) : ErrAt W g := by
  obtain ⟨g', t, cs, fuel, p, hg', ht', hv, hd⟩ := h
  obtain rfl := Option.some.inj (hg.symm.trans hg')
  obtain rfl := Option.some.inj (ht.symm.trans ht')
  obtain ⟨_, u, v, hcs, _, _⟩ := iface_of_trod Tryz.underlying120 hd
  refine ⟨.iface u v, ?_, .inr ⟨u, v, rfl⟩⟩
  have := World.var?_cell hg hv 0
  rw [Array.eq_one_of_toList hcs] at this
  simpa using this
set_option maxRecDepth 100000 in
theorem glob_of_laid {W : World} (h : laidMetH Tryz.prog laidL W) (hs : W.ShapedOpen Tryz.prog) : Glob W := by
  obtain ⟨h1, h2⟩ := laidMetH_iff.1 h
  have hf := laidMetH.funcs h (n := "cubeb/house.changes") (d := chD) (by simp [laidL, Rows.topSureRow, chD_eq])
  have rT : Lib.VarReads Tryz.prog W "math/bits.deBruijn64tab" _ := Lib.laidMet.reads h1 (d := Rows.laid_math_bits_deBruijn64tab) (List.mem_filter.2 ⟨by simp [laidL, Rows.topSureRow], rfl⟩)
  have rP : Lib.VarReads Tryz.prog W "internal/strconv.uint64pow10" _ := Lib.laidMet.reads h1 (d := Rows.laid_internal_strconv_uint64pow10) (List.mem_filter.2 ⟨by simp [laidL, Rows.topSureRow], rfl⟩)
  have rR : Lib.VarReads Tryz.prog W "strconv.ErrRange" _ := Lib.laidMet.reads h1 (d := Rows.laid_strconv_ErrRange) (List.mem_filter.2 ⟨by simp [laidL, Rows.topSureRow], rfl⟩)
  have rS : Lib.VarReads Tryz.prog W "strconv.ErrSyntax" _ := Lib.laidMet.reads h1 (d := Rows.laid_strconv_ErrSyntax) (List.mem_filter.2 ⟨by simp [laidL, Rows.topSureRow], rfl⟩)
  refine ⟨?_, changes_at hf, ?_, ?_, ?_, err_at rS gEsyn tE4, err_at rR gEran tE5⟩
  · obtain ⟨⟨z, t⟩, hz⟩ := Option.isSome_iff_exists.1 shape8
    obtain ⟨cs, hcs, _⟩ := hs.1 11 z t (by rw [glob_size]; omega) hz
    have := (Array.getElem?_eq_some_iff.1 hcs).1
    omega
  · exact cell_of_shapedOpen_int hs (by rw [glob_size]; omega) shape1 rfl (by kernel_rfl) (by kernel_rfl) Tryz.underlying3
  · obtain ⟨g, t, cs, fuel, p, hg, ht, hv, hd⟩ := rT
    obtain rfl := Option.some.inj (gTab.symm.trans hg)
    obtain rfl := Option.some.inj (tTab.symm.trans ht)
    rw [tab_eq] at hd
    have hc := Lib.cells_of_tab Tryz.underlying305 Tryz.underlying5 cells5 cells268 hd
    have hT : Lib.TabIs Tryz.prog W "math/bits.deBruijn64tab" .u8 (Lib.deBruijn64tab.map fun n : Nat => (n : Int)) := by
      unfold Lib.TabIs; rw [hv, ← hc]
    intro j hj
    have := hT.cell gTab j (by rw [List.length_map]; exact hj)
    rw [this]
    simp [List.getD, hj]
  · obtain ⟨g, t, cs, fuel, p, hg, ht, hv, hd⟩ := rP
    obtain rfl := Option.some.inj (gPow.symm.trans hg)
    obtain rfl := Option.some.inj (tPow.symm.trans ht)
    rw [pow_eq] at hd
    have hc := Lib.cells_of_tab Tryz.underlying377 Tryz.underlying222 cells222 cells303 hd
    unfold Lib.TabIs; rw [hv, ← hc]
end Go.Proofs.YtkkjonkcjlnohaaGreatDoor
