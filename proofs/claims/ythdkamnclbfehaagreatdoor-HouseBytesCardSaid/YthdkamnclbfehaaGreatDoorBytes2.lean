/- What the package-level variables hold, as the calls need it; and that it holds on. -/
import Derived.Test.YthdkamnclbfehaaGreatDoorBytes1
import Derived.Shelf.Spec.TrailingZeros
import Derived.Lib.LaidTab
import Derived.Test.YthdkamnclbfehaaGreatDoorTie
import Derived.ProofKit
import Derived.LaidMore
import Derived.OpenShut
import Derived.LaidSub
import Derived.Lib.LaidU8
import Derived.Shelf.Vars
import Derived.Test.YthdkamnclbfehaaGreatDoorProg
import Derived.Outline
import Derived.Deep.QuietTactic
import Derived.BigQuiet
import Derived.Stop.Joined
import Derived.HandedShaped
import Derived.Carry
import Derived.Lay
import Derived.Deep.Slices
import Derived.Lib.SliceRun
import Derived.Deep.RegionHeld3

/- What the package-level variables hold, as the calls need it; and that it holds on. -/
namespace Go.Proofs.YthdkamnclbfehaaGreatDoor
set_option linter.unusedSimpArgs false
set_option linter.unusedVariables false
set_option linter.unnecessarySimpa false
open Go.RowKit

/-- A string of written bytes. -/
def bs (l : List UInt8) : ByteArray := ⟨l.toArray⟩
/-- The table of changes: the sorts of the words and the function's number. -/
def chF (s : List UInt8) : Option (List UInt8 × Nat) :=
  if s = [116, 97, 107, 101] then some ([115, 100], 255)
  else if s = [98, 108, 101, 110, 100] then some ([100, 100, 100], 256)
  else if s = [112, 117, 116] then some ([100, 100], 257)
  else if s = [116, 111, 117, 99, 104] then some ([100, 100], 258)
  else if s = [116, 101, 115, 116] then some ([100, 116], 259)
  else if s = [99, 108, 111, 115, 101] then some ([100], 260)
  else none
def chV (s : List UInt8) : Value :=
  match chF s with
  | some (so, f) => .agg #[.string (bs so), .func (.func f) #[] #[]]
  | none => .agg #[.string (bs []), .nilFunc]
/-- The block of the table answers each look-up, in whatever world holds it. -/
def ChAt (bm : Nat) (o : Option Obj) : Prop :=
  ∀ w : World, w.heap[bm]? = o → ∀ s : ByteArray, s.size ≤ 4096 → (Instr.lookup 182 (.map (some bm)) (.string s) true).run Tryz.prog w = .ok (.tuple #[chV s.data.toList, .bool (chF s.data.toList).isSome]) w

def ErrAt (w : World) (g : Nat) : Prop := ∃ ev, w.cell? ⟨g, 0, none⟩ = some ev ∧ (ev = .nilIface ∨ ∃ te pe, ev = .iface te pe)

structure Glob (w : World) : Prop where
  size : 9 ≤ w.heap.size
  changes : ∃ bm, w.cell? ⟨0, 0, none⟩ = some (.map (some bm)) ∧ bm < w.heap.size ∧ ChAt bm w.heap[bm]?
  maxlen : ∃ m, w.cell? ⟨1, 0, none⟩ = some (.int .i64 m)
  tab : TabAt 3 Lib.deBruijn64tab w
  pow : Lib.TabIs Tryz.prog w "internal/strconv.uint64pow10" .u64 Lib.pow10Tab
  esyn : ErrAt w 4
  eran : ErrAt w 5

theorem gPow : Tryz.prog.globalNamed "internal/strconv.uint64pow10" = some 6 := by kernel_rfl

theorem Glob.below {B : Nat} {w w' : World} (h : Glob w) (hB : w.heap.size = B) (k : Below B w w') : Glob w' := by
  subst hB
  have hs := h.size
  have hc : ∀ (g j : Nat), g < 9 → w'.cell? ⟨g, j, none⟩ = w.cell? ⟨g, j, none⟩ := fun g j hg => k.cell (p := ⟨g, j, none⟩) (show g < w.heap.size by omega)
  refine ⟨Nat.le_trans h.size k.size, ?_, ?_, ?_, ?_, ?_, ?_⟩
  · obtain ⟨bm, h1, h2, h3⟩ := h.changes
    refine ⟨bm, (hc 0 0 (by omega)).trans h1, Nat.lt_of_lt_of_le h2 k.size, ?_⟩
    rw [k.block bm h2]; exact h3
  · obtain ⟨m, h1⟩ := h.maxlen
    exact ⟨m, (hc 1 0 (by omega)).trans h1⟩
  · exact fun j hj => (hc 3 j (by omega)).trans (h.tab j hj)
  · exact var?_below k gPow (by omega) h.pow
  · obtain ⟨ev, h1, h2⟩ := h.esyn
    exact ⟨ev, (hc 4 0 (by omega)).trans h1, h2⟩
  · obtain ⟨ev, h1, h2⟩ := h.eran
    exact ⟨ev, (hc 5 0 (by omega)).trans h1, h2⟩
theorem Glob.keep {w w' : World} (h : Glob w) (k : Keep (fun _ => False) w w') : Glob w' := h.below rfl k.toBelow

/-- The same behind writes to blocks from B on. -/
def GW (B : Nat) (w : World) : Prop := ∃ W, W.heap.size = B ∧ Glob W ∧ Below B W w
theorem GW.glob {B : Nat} {w : World} (h : GW B w) : Glob w := by
  obtain ⟨W, hB, hG, hk⟩ := h; exact hG.below hB hk
theorem GW.size {B : Nat} {w : World} (h : GW B w) : B ≤ w.heap.size := by
  obtain ⟨W, hB, hG, hk⟩ := h; have := hk.size; omega
theorem GW.keep {B : Nat} {S : Nat → Prop} {w w' : World} (h : GW B w) (k : Keep S w w') (hS : ∀ i, i < B → ¬ S i) : GW B w' := by
  obtain ⟨W, hB, hG, hk⟩ := h
  refine ⟨W, hB, hG, hk.trans (k.below ?_ hS)⟩
  have := hk.size; omega
theorem GW.start {w : World} (h : Glob w) : GW w.heap.size w := ⟨w, rfl, h, Below.refl _ _⟩
end Go.Proofs.YthdkamnclbfehaaGreatDoor

/- What the rows' condition on the package-level variables gives the walks. -/
namespace Go.Proofs.YthdkamnclbfehaaGreatDoor
set_option linter.unusedSimpArgs false
set_option linter.unusedVariables false
set_option linter.unnecessarySimpa false
open Go Go.ChangeShapes Go.WideShapes Go.ChangeAt Go.WideMaps Go.WideElems Go.RowKit

theorem gCh : Tryz.prog.globalNamed "cubeb/house.changes" = some 0 := by kernel_rfl
theorem tCh : (Tryz.prog.globals[0]?).map (·.type) = some 182 := by kernel_rfl
theorem gTab : Tryz.prog.globalNamed "math/bits.deBruijn64tab" = some 3 := by kernel_rfl
theorem gEran : Tryz.prog.globalNamed "strconv.ErrRange" = some 5 := by kernel_rfl
theorem gEsyn : Tryz.prog.globalNamed "strconv.ErrSyntax" = some 4 := by kernel_rfl
theorem gMax : Tryz.prog.globalNamed "internal/bytealg.MaxLen" = some 1 := by kernel_rfl

/-- The table of changes as the row lists it. -/
def chD : DataW Unit := match (Rows.laid_cubeb_house_changes : DataW Unit) with | .iface _ d => d | d => d
theorem chD_eq : (Rows.laid_cubeb_house_changes : DataW Unit) = .iface "func table" chD := rfl
/-- A command's name by its number. -/
def nameOf (f : Nat) : List UInt8 :=
  40 :: ([42, 99, 117, 98, 101, 98, 47, 104, 111, 117, 115, 101, 46, 115, 116, 97, 116, 101, 41, 46] ++
    if f = 255 then [116, 97, 107, 101] else if f = 256 then [98, 108, 101, 110, 100] else if f = 257 then [112, 117, 116] else if f = 258 then [116, 111, 117, 99, 104] else if f = 259 then [116, 101, 115, 116] else [115, 104, 117, 116])
def chE (s : List UInt8) : DataW (List UInt8) :=
  match chF s with
  | none => .nil
  | some (so, f) => .agg [.lit (.string so), .held (nameOf f)]
theorem chD_at (s : List UInt8) : chD.funcsOut.atKey (.string s) .nil = chE s := by
  unfold chE chF
  by_cases h1 : s = [116, 97, 107, 101]
  · subst h1; rfl
  by_cases h2 : s = [98, 108, 101, 110, 100]
  · subst h2; rfl
  by_cases h3 : s = [112, 117, 116]
  · subst h3; rfl
  by_cases h4 : s = [116, 111, 117, 99, 104]
  · subst h4; rfl
  by_cases h5 : s = [116, 101, 115, 116]
  · subst h5; rfl
  by_cases h6 : s = [99, 108, 111, 115, 101]
  · subst h6; rfl
  rw [if_neg h1, if_neg h2, if_neg h3, if_neg h4, if_neg h5, if_neg h6]
  have n : ∀ k : List UInt8, s ≠ k → Lit.sameKey (.string k) (.string s) = false := fun k h => by
    show (k == s) = false
    exact beq_eq_false_iff_ne.2 (fun e => h e.symm)
  show DataW.atKey (.map [(.string [98, 108, 101, 110, 100], _), (.string [99, 108, 111, 115, 101], _), (.string [112, 117, 116], _), (.string [116, 97, 107, 101], _), (.string [116, 101, 115, 116], _), (.string [116, 111, 117, 99, 104], _)]) (.string s) .nil = .nil
  simp only [DataW.atKey, List.find?, n _ h1, n _ h2, n _ h3, n _ h4, n _ h5, n _ h6]

theorem chF_cases {s so : List UInt8} {f : Nat} (h : chF s = some (so, f)) : f = 255 ∨ f = 256 ∨ f = 257 ∨ f = 258 ∨ f = 259 ∨ f = 260 := by
  unfold chF at h
  repeat' split at h
  all_goals first | (cases h; simp; done) | (cases h)
theorem one_name (f : Nat) (h : f = 255 ∨ f = 256 ∨ f = 257 ∨ f = 258 ∨ f = 259 ∨ f = 260) : ((List.range Tryz.prog.funcs.size).filter fun i => (Tryz.prog.funcs[i]?).any (·.name.toUTF8.data.toList == nameOf f)) = [f] := by
  rcases h with rfl | rfl | rfl | rfl | rfl | rfl <;> kernel_rfl

theorem cells132 : Tryz.prog.cellsOf 132 = 2 := by kernel_rfl
theorem cells9 : Tryz.prog.cellsOf 9 = 1 := by kernel_rfl
theorem cells130 : Tryz.prog.cellsOf 130 = 1 := by kernel_rfl
set_option maxRecDepth 100000 in
theorem changes_at {W : World} (h : funcsAt Tryz.prog W "cubeb/house.changes" chD) : ∃ bm, W.cell? ⟨0, 0, none⟩ = some (.map (some bm)) ∧ bm < W.heap.size ∧ ChAt bm W.heap[bm]? := by
  obtain ⟨g, t, cs, fuel, p, hg, ht, hv, hd⟩ := h
  obtain rfl := Option.some.inj (gCh.symm.trans hg)
  obtain rfl := Option.some.inj (tCh.symm.trans ht)
  rcases open_map Tryz.underlying182 hd with ⟨_, hx⟩ | ⟨bm, es, clock, m, rfl, hcs, hb, _, F, hx⟩
  · cases hx
  simp only [Prod.mk.injEq] at hx
  have hcell : W.cell? ⟨0, 0, none⟩ = some (.map (some bm)) := by
    have := World.var?_cell hg hv 0
    rw [Array.eq_one_of_toList hcs] at this
    simpa using this
  refine ⟨bm, hcell, (Array.getElem?_eq_some_iff.1 hb).1, fun w hw s hs => ?_⟩
  rw [hb] at hw
  have zero : (zeroValue 132).run Tryz.prog w = .ok (.agg #[.string ⟨#[]⟩, .nilFunc]) w := by kernel_rfl
  rcases fit_lookup_ok (w := w) (string_law Tryz.underlying9) Tryz.underlying182 zero hw F (keyOf_string_mk (s := s) Tryz.underlying9 (by unfold maxLen; omega)) with ⟨hrun, hat⟩ | ⟨v, y, hrun, hRv, hat, _⟩
  · have h1 := hat .nil
    rw [← hx.1, chD_at] at h1
    have hc : chF s.data.toList = none := by
      cases hc : chF s.data.toList with
      | none => rfl
      | some x => unfold chE at h1; rw [hc] at h1; cases h1
    unfold chV
    rw [hc]
    exact hrun
  · have h1 := hat .nil
    rw [← hx.1, chD_at] at h1
    unfold elemAt at hRv
    split at hRv
    · rename_i hform
      obtain ⟨y0, y1, n, hy, hl, hr0, hr1⟩ := trod_struct2 Tryz.underlying132 hRv
      cases hc : chF s.data.toList with
      | none => unfold chE at h1; rw [hc, hy] at h1; cases h1
      | some x =>
        obtain ⟨so, f⟩ := x
        unfold chE at h1
        rw [hc, hy] at h1
        obtain ⟨cs2, rfl⟩ : ∃ cs2, v = .agg cs2 := by
          cases v with
          | agg cs2 => exact ⟨cs2, rfl⟩
          | _ => simp [Value.formed, Tryz.underlying132] at hform
        have hcl : (Value.agg cs2).cells = cs2 := rfl
        rw [hcl] at hl hr0 hr1
        rw [cells132] at hl
        rw [cells9] at hr0
        rw [cells130] at hr1
        obtain ⟨l2⟩ := cs2
        match l2, hl with
        | [a, b], _ =>
          simp only [List.drop_zero, List.take_succ_cons, List.take_zero, List.drop_succ_cons] at hr0 hr1
          obtain ⟨s', hs', hy0, _⟩ := DataW.trod_string Tryz.underlying9 hr0
          simp only [DataW.agg.injEq, List.cons.injEq, and_true] at h1
          obtain ⟨h10, h11⟩ := h1
          rw [hy0] at h10
          have hso : s' = bs so := by
            simp only [DataW.lit.injEq, Lit.string.injEq] at h10
            exact ByteArray.ext (Array.toList_inj.1 (by rw [← h10]; rfl))
          have hb2 : b = .func (.func f) #[] #[] := by
            obtain ⟨y11, y12⟩ := y1
            simp only at h11
            rw [← h11] at hr1
            exact func_of_trod (f0 := f) Tryz.underlying130 (one_name f (chF_cases hc)) hr1
          simp only [List.cons.injEq, and_true] at hs'
          rw [hs', hb2, hso] at hrun
          unfold chV
          rw [hc]
          exact hrun
    · cases hRv

/-- What every row of this seat lists. -/
def laidL : List (String × DataW Unit) := Rows.houseDisksRow.laid
theorem tab_eq : (Rows.laid_math_bits_deBruijn64tab : DataW Unit) = Lib.tabData .u8 (Lib.deBruijn64tab.map fun n : Nat => (n : Int)) := by kernel_rfl
theorem pow_eq : (Rows.laid_internal_strconv_uint64pow10 : DataW Unit) = Lib.tabData .u64 Lib.pow10Tab := by kernel_rfl
theorem glob_size : Tryz.prog.globals.size = 9 := by kernel_rfl
theorem cells5 : Tryz.prog.cellsOf 5 = 1 := by kernel_rfl
theorem cells268 : Tryz.prog.cellsOf 268 = 64 := by kernel_rfl
theorem cells222 : Tryz.prog.cellsOf 222 = 1 := by kernel_rfl
theorem cells303 : Tryz.prog.cellsOf 303 = 20 := by kernel_rfl
theorem tTab : (Tryz.prog.globals[3]?).map (·.type) = some 268 := by kernel_rfl
theorem tPow : (Tryz.prog.globals[6]?).map (·.type) = some 303 := by kernel_rfl
theorem tE4 : (Tryz.prog.globals[4]?).map (·.type) = some 184 := by kernel_rfl
theorem tE5 : (Tryz.prog.globals[5]?).map (·.type) = some 184 := by kernel_rfl
theorem shape1 : ((begin Tryz.prog (fun _ _ => 0) default).world.heap[1]?).bind Obj.row? = some (#[.int .i64 0], 3) := by kernel_rfl
theorem shape8 : (((begin Tryz.prog (fun _ _ => 0) default).world.heap[8]?).bind Obj.row?).isSome = true := by kernel_rfl
theorem err_at {W : World} {n : String} {g : Nat} {name : String} {d : DataW Unit} (h : Lib.VarReads Tryz.prog W n (.iface name d)) (hg : Tryz.prog.globalNamed n = some g) (ht : (Tryz.prog.globals[g]?).map (·.type) = some 184) : ErrAt W g := by
  obtain ⟨g', t, cs, fuel, p, hg', ht', hv, hd⟩ := h
  obtain rfl := Option.some.inj (hg.symm.trans hg')
  obtain rfl := Option.some.inj (ht.symm.trans ht')
  obtain ⟨_, u, v, hcs, _, _⟩ := iface_of_trod Tryz.underlying184 hd
  refine ⟨.iface u v, ?_, .inr ⟨u, v, rfl⟩⟩
  have := World.var?_cell hg hv 0
  rw [Array.eq_one_of_toList hcs] at this
  simpa using this
set_option maxRecDepth 100000 in
theorem glob_of_laid {W : World} (h : laidMetH Tryz.prog laidL W) (hs : W.ShapedOpen Tryz.prog) : Glob W := by
  obtain ⟨h1, h2⟩ := laidMetH_iff.1 h
  have hf := laidMetH.funcs h (n := "cubeb/house.changes") (d := chD) (by simp [laidL, Rows.houseDisksRow, chD_eq])
  have rT : Lib.VarReads Tryz.prog W "math/bits.deBruijn64tab" _ := Lib.laidMet.reads h1 (d := Rows.laid_math_bits_deBruijn64tab) (List.mem_filter.2 ⟨by simp [laidL, Rows.houseDisksRow], rfl⟩)
  have rP : Lib.VarReads Tryz.prog W "internal/strconv.uint64pow10" _ := Lib.laidMet.reads h1 (d := Rows.laid_internal_strconv_uint64pow10) (List.mem_filter.2 ⟨by simp [laidL, Rows.houseDisksRow], rfl⟩)
  have rR : Lib.VarReads Tryz.prog W "strconv.ErrRange" _ := Lib.laidMet.reads h1 (d := Rows.laid_strconv_ErrRange) (List.mem_filter.2 ⟨by simp [laidL, Rows.houseDisksRow], rfl⟩)
  have rS : Lib.VarReads Tryz.prog W "strconv.ErrSyntax" _ := Lib.laidMet.reads h1 (d := Rows.laid_strconv_ErrSyntax) (List.mem_filter.2 ⟨by simp [laidL, Rows.houseDisksRow], rfl⟩)
  refine ⟨?_, changes_at hf, ?_, ?_, ?_, err_at rS gEsyn tE4, err_at rR gEran tE5⟩
  · obtain ⟨⟨z, t⟩, hz⟩ := Option.isSome_iff_exists.1 shape8
    obtain ⟨cs, hcs, _⟩ := hs.1 8 z t (by rw [glob_size]; omega) hz
    have := (Array.getElem?_eq_some_iff.1 hcs).1
    omega
  · exact cell_of_shapedOpen_int hs (by rw [glob_size]; omega) shape1 rfl (by kernel_rfl) (by kernel_rfl) Tryz.underlying3
  · obtain ⟨g, t, cs, fuel, p, hg, ht, hv, hd⟩ := rT
    obtain rfl := Option.some.inj (gTab.symm.trans hg)
    obtain rfl := Option.some.inj (tTab.symm.trans ht)
    rw [tab_eq] at hd
    have hc := Lib.cells_of_tab Tryz.underlying268 Tryz.underlying5 cells5 cells268 hd
    have hT : Lib.TabIs Tryz.prog W "math/bits.deBruijn64tab" .u8 (Lib.deBruijn64tab.map fun n : Nat => (n : Int)) := by
      unfold Lib.TabIs; rw [hv, ← hc]
    intro j hj
    have := hT.cell gTab j (by rw [List.length_map]; exact hj)
    rw [this]
    simp [List.getD, hj]
  · obtain ⟨g, t, cs, fuel, p, hg, ht, hv, hd⟩ := rP
    obtain rfl := Option.some.inj (gPow.symm.trans hg)
    obtain rfl := Option.some.inj (tPow.symm.trans ht)
    rw [pow_eq] at hd
    have hc := Lib.cells_of_tab Tryz.underlying303 Tryz.underlying222 cells222 cells303 hd
    unfold Lib.TabIs; rw [hv, ← hc]
end Go.Proofs.YthdkamnclbfehaaGreatDoor

/- slices.IndexFunc and slices.ContainsFunc at []int, over whatever predicate keeps the memory. -/
namespace Go.Proofs.YthdkamnclbfehaaGreatDoor
set_option linter.unusedSimpArgs false
set_option linter.unusedVariables false
set_option linter.unnecessarySimpa false
open Go.RowKit

def icells (l : List Int) : List Value := l.map (Value.int .i64)
theorem icells_length (l : List Int) : (icells l).length = l.length := by simp [icells]
theorem icells_one (l : List Int) : ∀ u ∈ icells l, u.oneCell' = true := by
  intro u hu; obtain ⟨_, _, rfl⟩ := List.mem_map.1 hu; rfl
theorem icells_get (l : List Int) (j : Nat) (h : j < l.length) : (icells l)[j]? = some (.int .i64 (l.getD j 0)) := by
  simp [icells, List.getD, h]

/-- The first place at which p holds, from k on. -/
def findFrom (p : Int → Bool) (l : List Int) (k : Nat) : Int :=
  match l with
  | [] => -1
  | x :: r => if p x then k else findFrom p r (k + 1)
def findI (p : Int → Bool) (l : List Int) : Int := findFrom p l 0
theorem findFrom_cases (p : Int → Bool) : ∀ (l : List Int) (k : Nat), (findFrom p l k = -1 ∧ ∀ j, j < l.length → p (l.getD j 0) = false) ∨
    ∃ j, j < l.length ∧ findFrom p l k = ((k + j : Nat) : Int) ∧ p (l.getD j 0) = true ∧ ∀ i, i < j → p (l.getD i 0) = false
  | [], k => .inl ⟨rfl, fun j h => by simp at h⟩
  | x :: r, k => by
    unfold findFrom
    by_cases hx : p x = true
    · exact .inr ⟨0, by simp, by simp [hx], by simpa using hx, fun i hi => by omega⟩
    · have hx' : p x = false := by simpa using hx
      rcases findFrom_cases p r (k + 1) with ⟨h1, h2⟩ | ⟨j, h1, h2, h3, h4⟩
      · refine .inl ⟨by simp [hx', h1], fun j hj => ?_⟩
        cases j with
        | zero => simpa using hx'
        | succ j => simpa using h2 j (by simpa using hj)
      · refine .inr ⟨j + 1, by simpa using h1, by simp [hx', h2]; omega, by simpa using h3, fun i hi => ?_⟩
        cases i with
        | zero => simpa using hx'
        | succ i => simpa using h4 i (by omega)
theorem findI_at {p : Int → Bool} {l : List Int} {j : Nat} (hj : j < l.length) (h1 : p (l.getD j 0) = true) (h0 : ∀ i, i < j → p (l.getD i 0) = false) : findI p l = j := by
  rcases findFrom_cases p l 0 with ⟨_, h⟩ | ⟨i, hi, h, h3, h4⟩
  · rw [h j hj] at h1; cases h1
  · unfold findI
    rw [h]
    have : i = j := by
      rcases Nat.lt_trichotomy i j with hl | he | hg
      · rw [h0 i hl] at h3; cases h3
      · exact he
      · rw [h4 j hg] at h1; cases h1
    simp [this]
theorem findI_none {p : Int → Bool} {l : List Int} (h0 : ∀ i, i < l.length → p (l.getD i 0) = false) : findI p l = -1 := by
  rcases findFrom_cases p l 0 with ⟨h, _⟩ | ⟨i, hi, h, h3, _⟩
  · exact h
  · rw [h0 i hi] at h3; cases h3
theorem findI_ge {p : Int → Bool} {l : List Int} : (0 ≤ findI p l) = (l.any p = true) := by
  rcases findFrom_cases p l 0 with ⟨h, h0⟩ | ⟨i, hi, h, h3, _⟩
  · unfold findI; rw [h]
    simp
    intro x hx
    obtain ⟨j, hj, rfl⟩ := List.getElem_of_mem hx
    have := h0 j hj
    simpa [List.getD, hj] using this
  · unfold findI; rw [h]
    simp only [Nat.zero_add, eq_iff_iff]
    constructor
    · intro _
      rw [List.any_eq_true]
      exact ⟨l.getD i 0, by simp [List.getD, hi], h3⟩
    · intro _; omega

/-- A predicate value: called at any later world it answers p and keeps all that is there. -/
def PredOk (w : World) (F : Nat) (capt : Array Value) (l : List Int) (p : Int → Bool) : Prop :=
  ∀ w1, Keep (fun _ => False) w w1 → ∀ x ∈ l, Calls Tryz.prog F (#[.int .i64 x] ++ capt) w1 fun e w2 => e = .returned (.bool (p x)) ∧ Keep (fun _ => False) w1 w2

/-- A call of function F enters it. -/
def Enters (F : Nat) : Prop := ∀ (args : Array Value) (w : World), (callFunc F args).run Tryz.prog w = .ok (.enter F args) w

def IdxPost (w : World) (r : Value) (e : Ending) (w' : World) : Prop := e = .returned r ∧ Keep (fun _ => False) w w'

set_option maxHeartbeats 800000 in
set_option maxRecDepth 100000 in
theorem indexFunc_any {w : World} {v : Value} {l : List Int} {F : Nat} {capt : Array Value} {p : Int → Bool} (hv : Rd w 1 v l.length (icells l)) (hF : Enters F) (hp : PredOk w F capt l p) (hl : l.length < 9223372036854775807) :
    Calls Tryz.prog 126 #[v, .func (.func F) #[] capt] w (IdxPost w (.int .i64 (findI p l))) := by
  obtain ⟨ao, cap, hve, hn, hm, hsp⟩ := hv.shape
  subst hve
  have HV := Lib.hid hv; clear hv
  have HP := Lib.hid hp; clear hp
  clear hsp
  have eF : ∀ (args : Array Value) (w : World), (callFunc F args).run Tryz.prog w = .ok (.enter F args) w := hF
  clear hF
  go_enter Tryz.func126, Tryz.ntmps126
  go_wp2
  go_loopw [8] (fun i wr => ∃ k : Nat, k ≤ l.length ∧ i = .int .i64 k ∧ Keep (fun _ => False) w wr ∧ ∀ j, j < k → p (l.getD j 0) = false) (fun i _ => l.length - (intOf i).toNat)
  case atStart => exact ⟨0, Nat.zero_le _, rfl, Keep.refl _ _, fun j h => by omega⟩
  case round =>
    obtain ⟨k, hk, rfl, hkeep, h0⟩ := hrel
    have HK := Lib.hid hkeep; clear hkeep
    have H0 := Lib.hid h0; clear h0
    by_cases hlt : k < l.length
    · have hrd := HV.out.keep HK.out (fun _ _ h => h)
      obtain ⟨b, o, hao, hcell⟩ : ∃ b o, ao = some ⟨b, o, none⟩ ∧ wr.cell? ⟨b, o + k, none⟩ = some (.int .i64 (l.getD k 0)) := by
        rcases hrd.2.2 with ⟨h, h'⟩ | ⟨b, o, c, h, _, _, hx⟩
        · omega
        · cases h
          exact ⟨b, o, rfl, hx k _ (icells_get l k hlt)⟩
      subst hao
      have HR := Lib.hid hrd; clear hrd
      have hmem : l[k] ∈ l := by simp
      have HC := Lib.hid (HP.out wr HK.out _ hmem); clear hmem
      have HG := Lib.hid (show l.getD k 0 = l[k] by simp [List.getD, hlt])
      cases hpx : p (l.getD k 0)
      · have HX := Lib.hid hpx; clear hpx
        go_wp2
        refine HC.out.mono ?_
        rintro e w2 ⟨he, hk2⟩
        rw [← HG.out, HX.out] at he
        subst he
        have HK2 := Lib.hid (HK.out.trans hk2 (fun _ _ h => h)); clear hk2
        go_wp2
        go_roundw
        case rel =>
          refine ⟨k + 1, by omega, by go_num, HK2.out, fun j hj => ?_⟩
          by_cases hjk : j = k
          · subst hjk; exact HX.out
          · exact H0.out j (by omega)
        case measure => simp [intOf]; omega
      · have HX := Lib.hid hpx; clear hpx
        go_wp2
        refine HC.out.mono ?_
        rintro e w2 ⟨he, hk2⟩
        rw [← HG.out, HX.out] at he
        subst he
        have HK2 := Lib.hid (HK.out.trans hk2 (fun _ _ h => h)); clear hk2
        go_wp2
        go_ret
        exact ⟨by rw [findI_at hlt HX.out H0.out]; rfl, HK2.out⟩
    · go_wp2
      go_ret
      exact ⟨by rw [findI_none (fun i hi => H0.out i (by omega))]; rfl, HK.out⟩

theorem containsFunc_any {w : World} {v : Value} {l : List Int} {F : Nat} {capt : Array Value} {p : Int → Bool} (hv : Rd w 1 v l.length (icells l)) (hF : Enters F) (hp : PredOk w F capt l p) (hl : l.length < 9223372036854775807) :
    Calls Tryz.prog 85 #[v, .func (.func F) #[] capt] w (IdxPost w (.bool (l.any p))) := by
  have h := Lib.hid (indexFunc_any hv hF hp hl)
  have hb : decide (0 ≤ findI p l) = l.any p := by
    have := findI_ge (p := p) (l := l)
    cases hany : l.any p
    · rw [hany] at this; simp at this; simp; omega
    · rw [hany] at this; simpa using this
  have HB := Lib.hid hb
  clear hv hF hp hb
  go_enter Tryz.func85, Tryz.ntmps85
  go_wp2_with (go_at_call 126; refine h.out.mono ?_; rintro e w1 ⟨rfl, hk⟩; have HK := Lib.hid hk; clear hk)
  go_ret
  exact ⟨by rw [← HB.out]; rfl, HK.out⟩
end Go.Proofs.YthdkamnclbfehaaGreatDoor

/- A world that meets the rows' condition: the door's own heap, the one great table laid on it. -/
namespace Go.Proofs.YthdkamnclbfehaaGreatDoor
set_option linter.unusedSimpArgs false
set_option linter.unusedVariables false
set_option linter.unnecessarySimpa false
open Go Go.ChangeShapes Go.WideShapes Go.ChangeAt Go.WideMaps Go.WideElems Go.RowKit

theorem own : ownKnob Tryz.prog.godebug = none := by kernel_rfl
theorem laidOut : laidOutB Tryz.prog = true := by kernel_rfl

/-- What is listed as plain data; the one great table; the rest. -/
def plainL : List (String × DataW Unit) := laidL.filter fun x => x.2.handleName?.isNone
def greatL : List (String × DataW Unit) := plainL.filter fun x => ["unicode/utf8.first"].contains x.1
def restL : List (String × DataW Unit) := plainL.filter fun x => !["unicode/utf8.first"].contains x.1
/-- The witness's world: the door's own heap, the great table laid on it. -/
noncomputable def WL (os : Os) : World := (World.doorLaid Tryz.prog 113 os).layVars Tryz.prog greatL
noncomputable def Bl (os : Os) : List Nat := ((DataW.laidRun Tryz.prog (WL os) 8 (restL.map (·.1))).map fun x => x.2.map (·.block)).getD []
theorem WL_os (os : Os) : (WL os).os = os := by
  unfold WL
  rw [World.layVars_os]; rfl
set_option maxRecDepth 100000 in
theorem fits_first (os : Os) : (World.doorLaid Tryz.prog 113 os).layFits Tryz.prog greatL (Bl os) = true := by kernel_rfl
set_option maxRecDepth 100000 in
theorem ifaces_first (os : Os) : (World.doorLaid Tryz.prog 113 os).layIfaces Tryz.prog greatL (WL os) = true := by kernel_rfl
set_option maxRecDepth 100000 in
theorem rest_in (os : Os) : LaidIn Tryz.prog (WL os) restL (Bl os) := LaidIn.of_run (Bl os) 8 (by kernel_rfl) (by kernel_rfl) (by kernel_rfl) (by kernel_rfl)
theorem funcs_in (os : Os) : funcsRun Tryz.prog (WL os) 8 ((funcsListed laidL).map (·.1)) = some ((funcsListed laidL).map (·.2.funcsOut)) := by kernel_rfl
set_option maxRecDepth 100000 in
/-- The witness's world meets the condition. -/
theorem met_WL (os : Os) : laidMetH Tryz.prog laidL (WL os) :=
  laidMetH_of_parts3 (fuel := 8) (laidMet_layVars (w0 := World.doorLaid Tryz.prog 113 os) ["unicode/utf8.first"] (Bl os) rfl (fits_first os) (ifaces_first os) (rest_in os)) (by kernel_rfl) (funcs_in os)
theorem door_met (os : Os) (args : Array Value) : laidMetH Tryz.prog laidL ((WL os).forCall (fun _ _ => 0) ⟨#[], args, []⟩).memory :=
  (met_WL os).of_heap (by simp [World.memory, World.forCall, Input.heap])
theorem shaped_WL (os : Os) : (WL os).Shaped Tryz.prog := World.shaped_of_ZipB (by kernel_rfl) (by kernel_rfl)
end Go.Proofs.YthdkamnclbfehaaGreatDoor

/- From a walk to a row of this seat: one frame for all nine laws. -/
namespace Go.Proofs.YthdkamnclbfehaaGreatDoor
set_option linter.unusedSimpArgs false
set_option linter.unusedVariables false
set_option linter.unnecessarySimpa false
open Go Go.ChangeShapes Go.WideShapes Go.ChangeAt Go.WideMaps Go.WideElems Go.RowKit

theorem trodAll_length {H : Type} {enc : TypeId × Value → H} {P : Program} {w : World} {base : Nat} {sp : Nat → Bool} {held : Bool} : ∀ {ts : List TypeId} {vs : List Value} {ds : List (DataW H)} {ps : List MemPlace}, DataW.TrodAll enc P w base sp held ts vs ds ps → ds.length = ts.length := by
  intro ts
  induction ts with
  | nil =>
    intro vs ds ps h
    obtain ⟨rfl, rfl, rfl⟩ := trodAll_nil h
    rfl
  | cons t ts ih =>
    intro vs ds ps h
    obtain ⟨v, vs1, d, ds1, a, b, rfl, rfl, rfl, h1, h2⟩ := trodAll_cons h
    simp [ih h2]
/-- Arguments read behind the call as they did. -/
theorem args_stay {H : Type} {enc : TypeId × Value → H} {W W' : World} (hb : Below W.heap.size W W') : ∀ {ts : List TypeId} {vs : List Value} {ds : List (DataW H)} {ps : List MemPlace},
    (ts.all fun t => Tryz.prog.readableRec t && decide (t < Tryz.prog.types.size)) = true → DataW.TrodAll enc Tryz.prog W 0 (fun _ => true) true ts vs ds ps → (∀ x ∈ ps, x.block < W.heap.size) →
    DataW.TrodAll enc Tryz.prog W' 0 (fun b => decide (b < W.heap.size)) true ts vs ds ps := by
  intro ts
  induction ts with
  | nil =>
    intro vs ds ps _ h _
    obtain ⟨rfl, rfl, rfl⟩ := trodAll_nil h
    exact h
  | cons t ts ih =>
    intro vs ds ps ht h hlt
    obtain ⟨v, vs1, d, ds1, a, b, rfl, rfl, rfl, h1, h2⟩ := trodAll_cons h
    simp only [List.all_cons, Bool.and_eq_true, decide_eq_true_eq] at ht
    exact ⟨a, b, Below.trod laidOut ht.1.1 ht.1.2 h1 hb (fun x hx => hlt x (List.mem_append_left _ hx)), ih (by simpa using ht.2) h2 (fun x hx => hlt x (List.mem_append_right _ hx)), rfl⟩

set_option maxRecDepth 100000 in
theorem lift_law {f : FuncId} {fn : Func} {s : ChangeSpec} {H : Type} {enc : TypeId × Value → H} {os : Os} (started : os.Started) (hfn : Tryz.prog.funcs[f]? = some fn) (noInit : Tryz.prog.inits.idxOf? f = none)
    (hvars : s.vars = []) (hres : fn.resultTypes = #[4]) (hpar : (fn.params.toList.all fun t => Tryz.prog.readableRec t && decide (t < Tryz.prog.types.size)) = true)
    (hspec : ∀ ds : List (DataW H), ds.length = fn.params.toList.length → s.fn H ds = { results := [.lit (.bool true)], args := ds, vars := [] })
    (witness : ∃ (w : World) (tape : Tape) (i : Input), w.os = os ∧ (w.forCall tape i).Shaped Tryz.prog ∧ i.vars = [] ∧ Input.okWide Tryz.prog (w.forCall tape i) .any w.heap.size f i ∧
      ((s.pre enc Tryz.prog fn [] false (w.forCall tape i).memory i.args ∧ laidMetH Tryz.prog laidL (w.forCall tape i).memory) ∧ sizedMet enc Tryz.prog fn (OpenSpec.ofChange s) false (w.forCall tape i).memory i.args) ∧
      ({} : Assume).holds Tryz.prog (lone (Frame.enter Tryz.prog f i.args .normal) [] (w.forCall tape i)))
    (walk : ∀ (W : World) (base : Nat) (args : Array Value) (ds : List (DataW H)) (ps : List MemPlace), (∀ (j : Nat) t v, fn.params[j]? = some t → args[j]? = some v → Value.okWide Tryz.prog W .any base t v) →
      DataW.TrodAll enc Tryz.prog W 0 (fun _ => true) true fn.params.toList args.toList ds ps → (∀ x ∈ ps, x.block < W.heap.size) → (∀ (j : Nat) (t : TypeId) (d : DataW H), fn.params.toList[j]? = some t → ds[j]? = some d → ∀ n ∈ d.weights Tryz.prog t, n ≤ reachBytes) → Glob W → Calls Tryz.prog f args W (IdxPost W (.bool true))) :
    ReturnsInHanded {} Tryz.checked os f .any (fun w args => (s.pre enc Tryz.prog fn [] false w args ∧ laidMetH Tryz.prog laidL w) ∧ sizedMet enc Tryz.prog fn (OpenSpec.ofChange s) false w args)
      (s.post enc Tryz.prog fn false true false false) := by
  refine returnsInHanded_of_calls (C := Tryz.checked) own started noInit witness ?_
  intro w tape i _ hsh _ hok hpre _
  obtain ⟨_, _, _, fn', hfn', _, _, _, _, hval⟩ := hok
  obtain rfl : fn' = fn := Option.some.inj (hfn'.symm.trans hfn)
  obtain ⟨⟨⟨ds, gs, before, hw, _⟩, hx⟩, hz⟩ := hpre
  have hwt := hz.weights hw
  have hW := DataW.Whole.of_heap (w' := w.forCall tape i) (by rfl) hw
  have hL : laidMetH Tryz.prog laidL (w.forCall tape i) := hx.of_heap (by rfl)
  have hG := glob_of_laid hL hsh
  have hW' := hW
  obtain ⟨p, q, hA, hV, rfl, _, _⟩ := hW
  rw [hvars] at hV
  obtain ⟨rfl, rfl⟩ := trodVars_none hV
  have hlt : ∀ x ∈ p, x.block < (w.forCall tape i).heap.size := fun x hx => hW'.lt x (by simpa using hx)
  have hlen : ds.length = fn'.params.toList.length := trodAll_length hA
  have hwt2 : ∀ (j : Nat) (t : TypeId) (d : DataW H), fn'.params.toList[j]? = some t → ds[j]? = some d → ∀ n ∈ d.weights Tryz.prog t, n ≤ reachBytes := fun j t d h1 h2 n hn => by
    have hj := (List.getElem?_eq_some_iff.1 h1).1
    have hj2 := (List.getElem?_eq_some_iff.1 h2).1
    have := DataW.weights_mem_each (P := Tryz.prog) (ts := fn'.params.toList ++ (OpenSpec.ofChange s).bare.plain.varTypes Tryz.prog) (ds := ds ++ []) (j := j) (by rw [List.getElem?_append_left hj]; exact h1) (by rw [List.getElem?_append_left hj2]; exact h2) n hn
    have h3 := List.all_eq_true.1 hwt n this
    simpa using h3
  refine (walk (w.forCall tape i) w.heap.size i.args ds p hval hA hlt hwt2 hG).mono fun e W' ⟨he, hk⟩ => ?_
  subst he
  refine ChangeSpec.post_blind ⟨ds, [], p ++ [], [], p, [], hW', ?_, ?_, ?_, hk.toBelow.frame _, fun h => by cases h⟩
  · rw [List.append_nil, hspec ds hlen, hres]
    exact trodAll_mk1 (shut_bool Tryz.underlying4 true)
  · rw [List.append_nil, hspec ds hlen]
    exact args_stay hk.toBelow hpar hA hlt
  · rw [List.append_nil, hspec ds hlen, hvars]
    exact rfl
end Go.Proofs.YthdkamnclbfehaaGreatDoor

/- Arguments of a law, opened: slices of structs, strings, numbers. -/
namespace Go.Proofs.YthdkamnclbfehaaGreatDoor
set_option linter.unusedSimpArgs false
set_option linter.unusedVariables false
set_option linter.unnecessarySimpa false
open Go Go.ChangeShapes Go.WideShapes Go.ChangeAt Go.WideMaps Go.WideElems Go.RowKit

theorem flatten_len {size : Nat} : ∀ (xss : List (List Value)), (∀ c ∈ xss, c.length = size) → xss.flatten.length = xss.length * size := by
  intro xss
  induction xss with
  | nil => intro _; simp
  | cons c cs ih =>
    intro h
    rw [List.flatten_cons, List.length_append, ih (fun x hx => h x (List.mem_cons_of_mem _ hx)), h c (List.mem_cons_self ..), List.length_cons, Nat.add_mul]
    omega
theorem flatten_at {size : Nat} (h0 : 0 < size) : ∀ (xss : List (List Value)), (∀ c ∈ xss, c.length = size) → ∀ (j : Nat) (u : Value), xss.flatten[j]? = some u → ∃ i r c, j = i * size + r ∧ r < size ∧ xss[i]? = some c ∧ c[r]? = some u := by
  intro xss
  induction xss with
  | nil => intro _ j u h; simp at h
  | cons c cs ih =>
    intro hc j u h
    have hcl := hc c (List.mem_cons_self ..)
    rw [List.flatten_cons] at h
    by_cases hj : j < size
    · rw [List.getElem?_append_left (by omega)] at h
      exact ⟨0, j, c, by omega, hj, rfl, h⟩
    · rw [List.getElem?_append_right (by omega), hcl] at h
      obtain ⟨i, r, c', e, hr, h1, h2⟩ := ih (fun x hx => hc x (List.mem_cons_of_mem _ hx)) _ u h
      exact ⟨i + 1, r, c', by rw [Nat.add_mul]; omega, hr, by simpa using h1, h2⟩

theorem weights_all {H : Type} {e : TypeId} {n : Nat} : ∀ (l : List (DataW H)) (d : DataW H), d ∈ l → n ∈ d.weights Tryz.prog e → n ∈ DataW.weightsAll Tryz.prog e l := by
  intro l
  induction l with
  | nil => intro d h; cases h
  | cons a l ih =>
    intro d h hn
    unfold DataW.weightsAll
    rcases List.mem_cons.1 h with rfl | h
    · exact List.mem_append_left _ hn
    · exact List.mem_append_right _ (ih d h hn)
set_option maxRecDepth 100000 in
theorem rd_arg {H : Type} {enc : TypeId × Value → H} {W : World} {base size : Nat} {t e : TypeId} {v : Value} {d : DataW H} {ps : List MemPlace} (ht : Tryz.prog.underlying t = some (.slice e)) (hc : Tryz.prog.cellsOf e = size) (h0 : 0 < size)
    (hval : Value.okWide Tryz.prog W .any base t v) (h : DataW.Trod enc Tryz.prog W 0 (fun _ => true) true t v d ps) (hwt : ∀ n ∈ d.weights Tryz.prog t, n ≤ reachBytes) (G : List Value → Prop)
    (hG : ∀ n cs y, DataW.trod enc Tryz.prog W 0 (fun _ => true) true n e cs = some y → cs.length = size → (∀ m ∈ y.1.weights Tryz.prog e, m ≤ reachBytes) → G cs ∧ ∀ u ∈ cs, u.oneCell' = true) :
    ∃ xss : List (List Value), (∀ c ∈ xss, G c) ∧ xss.length ≤ maxLen ∧ Rd W size v xss.length xss.flatten := by
  obtain ⟨ao, len, cap, rfl⟩ := okWide_slice ht hval
  obtain ⟨fuel, hf⟩ := h
  have hs : ∀ a, ao = some a → a.spot = none := fun a e => by
    subst e
    simp only [Value.okWide, ht, Cell.okWide, Cell.ok] at hval
    exact hval.2.2.2.1
  rcases Deep.open_slice ht hf with ⟨hcs, _⟩ | ⟨a, len', cap', m, n, D, Pl, hcs, _, hl, hm, hmm, hx, hel⟩
  · simp [Value.cells] at hcs
    obtain ⟨rfl, rfl, rfl⟩ := hcs
    exact ⟨[], (fun c hc => absurd hc (List.not_mem_nil)), Nat.zero_le _, Rd.nil _ _⟩
  · simp [Value.cells] at hcs
    obtain ⟨rfl, rfl, rfl⟩ := hcs
    simp only [if_true] at hmm
    rw [hc] at hel
    obtain ⟨b, o, sp⟩ := a
    obtain rfl : sp = none := hs _ rfl
    have hfi : ∀ i, i < len → ∃ cs', W.cells? 0 ((⟨b, o, none⟩ : Addr).add (i * size)) size = some cs' ∧ cs'.length = size ∧ (G cs' ∧ ∀ u ∈ cs', u.oneCell' = true) ∧ ∀ r, r < size → W.cell? ⟨b, o + (i * size + r), none⟩ = cs'[r]? := fun i hi => by
      obtain ⟨cs', h1, h2⟩ := hel i (by omega)
      obtain ⟨_, h3, h4⟩ := World.cells?_some h1
      have hd : d = .slice ((List.range len).map D) ((List.range (m - len)).map fun j => D (len + j)) := (Prod.mk.inj hx).1
      have hw : ∀ k ∈ (D i).weights Tryz.prog e, k ≤ reachBytes := fun k hk => hwt k (by
        rw [hd]
        unfold DataW.weights
        rw [ht]
        exact List.mem_cons_of_mem _ (List.mem_append_left _ (weights_all _ (D i) (List.mem_map.2 ⟨i, List.mem_range.2 hi, rfl⟩) hk)))
      refine ⟨cs', h1, h3, hG _ _ _ h2 h3 hw, fun r hr => ?_⟩
      rw [← h4 r hr, add_lit, add_lit, Nat.add_assoc]
    obtain ⟨f, hf'⟩ : ∃ f : Nat → List Value, ∀ i, i < len → (f i).length = size ∧ (G (f i) ∧ ∀ u ∈ f i, u.oneCell' = true) ∧ ∀ r, r < size → W.cell? ⟨b, o + (i * size + r), none⟩ = (f i)[r]? :=
      ⟨fun i => (W.cells? 0 ((⟨b, o, none⟩ : Addr).add (i * size)) size).getD [], fun i hi => by
        obtain ⟨cs', h1, h2, h3, h4⟩ := hfi i hi
        simp only [h1, Option.getD_some]
        exact ⟨h2, h3, h4⟩⟩
    have hmem : ∀ c ∈ (List.range len).map f, ∃ i, i < len ∧ f i = c := fun c hc' => by
      obtain ⟨i, hi, e⟩ := List.mem_map.1 hc'
      exact ⟨i, List.mem_range.1 hi, e⟩
    have hlen : ∀ c ∈ (List.range len).map f, c.length = size := fun c hc' => by
      obtain ⟨i, hi, rfl⟩ := hmem c hc'
      exact (hf' i hi).1
    have hll : ((List.range len).map f).length = len := by simp
    refine ⟨(List.range len).map f, fun c hc' => ?_, by rw [hll]; omega, ?_⟩
    · obtain ⟨i, hi, rfl⟩ := hmem c hc'
      exact (hf' i hi).2.1.1
    · refine ⟨flatten_len _ hlen, fun u hu => ?_, .inr ⟨b, o, cap, by rw [hll], by rw [hll]; exact hl, by omega, fun j u hu => ?_⟩⟩
      · obtain ⟨c, hc', hu'⟩ := List.mem_flatten.1 hu
        obtain ⟨i, hi, rfl⟩ := hmem c hc'
        exact (hf' i hi).2.1.2 u hu'
      · obtain ⟨i, r, c, rfl, hr, h1, h2⟩ := flatten_at h0 _ hlen j u hu
        have hi : i < len := by
          have := (List.getElem?_eq_some_iff.1 h1).1
          rwa [hll] at this
        have hci : f i = c := by
          rw [List.getElem?_map, List.getElem?_range hi] at h1
          exact Option.some.inj h1
        rw [(hf' i hi).2.2 r hr, hci]
        exact h2
/-- A list of rows that each come of something. -/
theorem map_of {A : Type} (f : A → List Value) (P : A → Prop) : ∀ (xss : List (List Value)), (∀ c ∈ xss, ∃ a, c = f a ∧ P a) → ∃ l : List A, xss = l.map f ∧ ∀ a ∈ l, P a := by
  intro xss
  induction xss with
  | nil => intro _; exact ⟨[], rfl, (fun a ha => absurd ha (List.not_mem_nil))⟩
  | cons c cs ih =>
    intro h
    obtain ⟨a, rfl, ha⟩ := h c (List.mem_cons_self ..)
    obtain ⟨l, rfl, hl⟩ := ih (fun x hx => h x (List.mem_cons_of_mem _ hx))
    exact ⟨a :: l, rfl, fun x hx => by
      rcases List.mem_cons.1 hx with rfl | hx
      · exact ha
      · exact hl x hx⟩
end Go.Proofs.YthdkamnclbfehaaGreatDoor

/- slices.Clone at the five types that the laws meet: a new slice with the same elements. -/
namespace Go.Proofs.YthdkamnclbfehaaGreatDoor
set_option linter.unusedSimpArgs false
set_option linter.unusedVariables false
set_option linter.unnecessarySimpa false
open Go.RowKit
abbrev zLot : Value := .agg #[.string ⟨#[]⟩, .int .i64 0, .int .i64 0, .bool false]
abbrev zPair : Value := .agg #[.int .i64 0, .int .i64 0]
theorem info214 : (Tryz.prog.info? 214).map (fun i => (i.zero, i.size, i.bytes)) = some (some zLot, 4, 40) := by kernel_rfl
theorem info176 : (Tryz.prog.info? 176).map (fun i => (i.zero, i.size, i.bytes)) = some (some zPair, 2, 16) := by kernel_rfl
theorem info9 : (Tryz.prog.info? 9).map (fun i => (i.zero, i.size, i.bytes)) = some (some (.string ⟨#[]⟩), 1, 16) := by kernel_rfl
theorem info3' : (Tryz.prog.info? 3).map (fun i => (i.zero, i.size, i.bytes)) = some (some (.int .i64 0), 1, 8) := by kernel_rfl

def ClonePost (w : World) (t : TypeId) (size n : Nat) (xs : List Value) (e : Ending) (w' : World) : Prop :=
  ∃ v', e = .returned v' ∧ w'.ownsRow w.heap.size t size v' n xs ∧ Keep (fun _ => False) w w'

theorem clone114 {w : World} {v : Value} {n : Nat} {xs : List Value} (hv : Rd w 4 v n xs) (hn : n * 40 ≤ 140737488355328) : Calls Tryz.prog 114 #[v] w (ClonePost w 214 4 n xs) := by
  obtain ⟨ao, cap, hve, _⟩ := hv.shape
  have hsrc := (hv.keep ((Keep.refl (fun _ => False) w).alloc (.cells #[] 214)) (fun _ _ h => h)).src (P := Tryz.prog) Tryz.underlying111
  have hxs : ao = none → n = 0 ∧ xs = [] := by
    intro h
    rcases hv.2.2 with ⟨h1, h2⟩ | ⟨b, o, c, h1, _⟩
    · exact ⟨h2, List.eq_nil_of_length_eq_zero (by rw [hv.1, h2, Nat.zero_mul])⟩
    · rw [hve, h] at h1; cases h1
  subst hve
  have HSRC := Lib.hid hsrc; clear hsrc
  have HNEW := Lib.hid (World.ownsRow_made (base := w.heap.size) (e := 214) (size := 4) w #[] 0 (Nat.le_refl _) (by unfold maxLen; omega) (by simp))
  clear hv
  have hnil := fun W => Lib.run_eql_slice_nil (P := Tryz.prog) W 111 214 ao n cap 0 0 Tryz.underlying111
  cases ao with
  | none =>
    obtain ⟨rfl, rfl⟩ := hxs rfl
    go_enter Tryz.func114, Tryz.ntmps114
    go_wp2
    go_ret
    exact ⟨_, rfl, World.ownsRow_nil _ _ _ _, Keep.refl _ _⟩
  | some a =>
    clear hxs
    go_enter Tryz.func114, Tryz.ntmps114
    go_wp2_with (at_builtin; refine wpList_app (w := w.alloc (.cells #[] 214)) rfl (.tmp 5) (.tmp 6) 111 111 rfl 214 zLot 4 40 Tryz.underlying111 info214 rfl HNEW.out rfl HSRC.out rfl ?hb1 ?hb2 ?hb3 ?hgo)
    case hb1 => unfold maxLen; omega
    case hb2 => omega
    case hb3 => simp
    case hgo =>
    intro v' w1 happ
    have HA := Lib.hid happ; clear happ
    go_wp2
    go_ret
    refine ⟨v', rfl, by simpa using HA.out.own, ?_⟩
    refine ((Keep.refl _ w).alloc _).trans HA.out.keep (fun k hk e => ?_)
    have e' : w.heap.size = k := Option.some.inj e
    omega

theorem clone115 {w : World} {v : Value} {n : Nat} {xs : List Value} (hv : Rd w 2 v n xs) (hn : n * 16 ≤ 140737488355328) : Calls Tryz.prog 115 #[v] w (ClonePost w 176 2 n xs) := by
  obtain ⟨ao, cap, hve, _⟩ := hv.shape
  have hsrc := (hv.keep ((Keep.refl (fun _ => False) w).alloc (.cells #[] 176)) (fun _ _ h => h)).src (P := Tryz.prog) Tryz.underlying71
  have hxs : ao = none → n = 0 ∧ xs = [] := by
    intro h
    rcases hv.2.2 with ⟨h1, h2⟩ | ⟨b, o, c, h1, _⟩
    · exact ⟨h2, List.eq_nil_of_length_eq_zero (by rw [hv.1, h2, Nat.zero_mul])⟩
    · rw [hve, h] at h1; cases h1
  subst hve
  have HSRC := Lib.hid hsrc; clear hsrc
  have HNEW := Lib.hid (World.ownsRow_made (base := w.heap.size) (e := 176) (size := 2) w #[] 0 (Nat.le_refl _) (by unfold maxLen; omega) (by simp))
  clear hv
  have hnil := fun W => Lib.run_eql_slice_nil (P := Tryz.prog) W 71 176 ao n cap 0 0 Tryz.underlying71
  cases ao with
  | none =>
    obtain ⟨rfl, rfl⟩ := hxs rfl
    go_enter Tryz.func115, Tryz.ntmps115
    go_wp2
    go_ret
    exact ⟨_, rfl, World.ownsRow_nil _ _ _ _, Keep.refl _ _⟩
  | some a =>
    clear hxs
    go_enter Tryz.func115, Tryz.ntmps115
    go_wp2_with (at_builtin; refine wpList_app (w := w.alloc (.cells #[] 176)) rfl (.tmp 5) (.tmp 6) 71 71 rfl 176 zPair 2 16 Tryz.underlying71 info176 rfl HNEW.out rfl HSRC.out rfl ?hb1 ?hb2 ?hb3 ?hgo)
    case hb1 => unfold maxLen; omega
    case hb2 => omega
    case hb3 => simp
    case hgo =>
    intro v' w1 happ
    have HA := Lib.hid happ; clear happ
    go_wp2
    go_ret
    refine ⟨v', rfl, by simpa using HA.out.own, ?_⟩
    refine ((Keep.refl _ w).alloc _).trans HA.out.keep (fun k hk e => ?_)
    have e' : w.heap.size = k := Option.some.inj e
    omega

theorem clone22 {w : World} {v : Value} {n : Nat} {xs : List Value} (hv : Rd w 1 v n xs) (hn : n * 16 ≤ 140737488355328) : Calls Tryz.prog 22 #[v] w (ClonePost w 9 1 n xs) := by
  obtain ⟨ao, cap, hve, _⟩ := hv.shape
  have hsrc := (hv.keep ((Keep.refl (fun _ => False) w).alloc (.cells #[] 9)) (fun _ _ h => h)).src (P := Tryz.prog) Tryz.underlying44
  have hxs : ao = none → n = 0 ∧ xs = [] := by
    intro h
    rcases hv.2.2 with ⟨h1, h2⟩ | ⟨b, o, c, h1, _⟩
    · exact ⟨h2, List.eq_nil_of_length_eq_zero (by rw [hv.1, h2, Nat.zero_mul])⟩
    · rw [hve, h] at h1; cases h1
  subst hve
  have HSRC := Lib.hid hsrc; clear hsrc
  have HNEW := Lib.hid (World.ownsRow_made (base := w.heap.size) (e := 9) (size := 1) w #[] 0 (Nat.le_refl _) (by unfold maxLen; omega) (by simp))
  clear hv
  have hnil := fun W => Lib.run_eql_slice_nil (P := Tryz.prog) W 44 9 ao n cap 0 0 Tryz.underlying44
  cases ao with
  | none =>
    obtain ⟨rfl, rfl⟩ := hxs rfl
    go_enter Tryz.func22, Tryz.ntmps22
    go_wp2
    go_ret
    exact ⟨_, rfl, World.ownsRow_nil _ _ _ _, Keep.refl _ _⟩
  | some a =>
    clear hxs
    go_enter Tryz.func22, Tryz.ntmps22
    go_wp2_with (at_builtin; refine wpList_app (w := w.alloc (.cells #[] 9)) rfl (.tmp 5) (.tmp 6) 44 44 rfl 9 (.string ⟨#[]⟩) 1 16 Tryz.underlying44 info9 rfl HNEW.out rfl HSRC.out rfl ?hb1 ?hb2 ?hb3 ?hgo)
    case hb1 => unfold maxLen; omega
    case hb2 => omega
    case hb3 => simp
    case hgo =>
    intro v' w1 happ
    have HA := Lib.hid happ; clear happ
    go_wp2
    go_ret
    refine ⟨v', rfl, by simpa using HA.out.own, ?_⟩
    refine ((Keep.refl _ w).alloc _).trans HA.out.keep (fun k hk e => ?_)
    have e' : w.heap.size = k := Option.some.inj e
    omega

theorem clone57 {w : World} {v : Value} {n : Nat} {xs : List Value} (hv : Rd w 1 v n xs) (hn : n * 8 ≤ 140737488355328) : Calls Tryz.prog 57 #[v] w (ClonePost w 3 1 n xs) := by
  obtain ⟨ao, cap, hve, _⟩ := hv.shape
  have hsrc := (hv.keep ((Keep.refl (fun _ => False) w).alloc (.cells #[] 3)) (fun _ _ h => h)).src (P := Tryz.prog) Tryz.underlying35
  have hxs : ao = none → n = 0 ∧ xs = [] := by
    intro h
    rcases hv.2.2 with ⟨h1, h2⟩ | ⟨b, o, c, h1, _⟩
    · exact ⟨h2, List.eq_nil_of_length_eq_zero (by rw [hv.1, h2, Nat.zero_mul])⟩
    · rw [hve, h] at h1; cases h1
  subst hve
  have HSRC := Lib.hid hsrc; clear hsrc
  have HNEW := Lib.hid (World.ownsRow_made (base := w.heap.size) (e := 3) (size := 1) w #[] 0 (Nat.le_refl _) (by unfold maxLen; omega) (by simp))
  clear hv
  have hnil := fun W => Lib.run_eql_slice_nil (P := Tryz.prog) W 35 3 ao n cap 0 0 Tryz.underlying35
  cases ao with
  | none =>
    obtain ⟨rfl, rfl⟩ := hxs rfl
    go_enter Tryz.func57, Tryz.ntmps57
    go_wp2
    go_ret
    exact ⟨_, rfl, World.ownsRow_nil _ _ _ _, Keep.refl _ _⟩
  | some a =>
    clear hxs
    go_enter Tryz.func57, Tryz.ntmps57
    go_wp2_with (at_builtin; refine wpList_app (w := w.alloc (.cells #[] 3)) rfl (.tmp 5) (.tmp 6) 35 35 rfl 3 (.int .i64 0) 1 8 Tryz.underlying35 info3' rfl HNEW.out rfl HSRC.out rfl ?hb1 ?hb2 ?hb3 ?hgo)
    case hb1 => unfold maxLen; omega
    case hb2 => omega
    case hb3 => simp
    case hgo =>
    intro v' w1 happ
    have HA := Lib.hid happ; clear happ
    go_wp2
    go_ret
    refine ⟨v', rfl, by simpa using HA.out.own, ?_⟩
    refine ((Keep.refl _ w).alloc _).trans HA.out.keep (fun k hk e => ?_)
    have e' : w.heap.size = k := Option.some.inj e
    omega

theorem clone55 {w : World} {v : Value} {n : Nat} {xs : List Value} (hv : Rd w 1 v n xs) (hn : n * 8 ≤ 140737488355328) : Calls Tryz.prog 55 #[v] w (ClonePost w 3 1 n xs) := by
  obtain ⟨ao, cap, hve, _⟩ := hv.shape
  have hsrc := (hv.keep ((Keep.refl (fun _ => False) w).alloc (.cells #[] 3)) (fun _ _ h => h)).src (P := Tryz.prog) Tryz.underlying53
  have hxs : ao = none → n = 0 ∧ xs = [] := by
    intro h
    rcases hv.2.2 with ⟨h1, h2⟩ | ⟨b, o, c, h1, _⟩
    · exact ⟨h2, List.eq_nil_of_length_eq_zero (by rw [hv.1, h2, Nat.zero_mul])⟩
    · rw [hve, h] at h1; cases h1
  subst hve
  have HSRC := Lib.hid hsrc; clear hsrc
  have HNEW := Lib.hid (World.ownsRow_made (base := w.heap.size) (e := 3) (size := 1) w #[] 0 (Nat.le_refl _) (by unfold maxLen; omega) (by simp))
  clear hv
  have hnil := fun W => Lib.run_eql_slice_nil (P := Tryz.prog) W 53 3 ao n cap 0 0 Tryz.underlying53
  cases ao with
  | none =>
    obtain ⟨rfl, rfl⟩ := hxs rfl
    go_enter Tryz.func55, Tryz.ntmps55
    go_wp2
    go_ret
    exact ⟨_, rfl, World.ownsRow_nil _ _ _ _, Keep.refl _ _⟩
  | some a =>
    clear hxs
    go_enter Tryz.func55, Tryz.ntmps55
    go_wp2_with (at_builtin; refine wpList_app (w := w.alloc (.cells #[] 3)) rfl (.tmp 5) (.tmp 6) 53 53 rfl 3 (.int .i64 0) 1 8 Tryz.underlying53 info3' rfl HNEW.out rfl HSRC.out rfl ?hb1 ?hb2 ?hb3 ?hgo)
    case hb1 => unfold maxLen; omega
    case hb2 => omega
    case hb3 => simp
    case hgo =>
    intro v' w1 happ
    have HA := Lib.hid happ; clear happ
    go_wp2
    go_ret
    refine ⟨v', rfl, by simpa using HA.out.own, ?_⟩
    refine ((Keep.refl _ w).alloc _).trans HA.out.keep (fun k hk e => ?_)
    have e' : w.heap.size = k := Option.some.inj e
    omega
end Go.Proofs.YthdkamnclbfehaaGreatDoor

/- house.state in memory; its clone. -/
namespace Go.Proofs.YthdkamnclbfehaaGreatDoor
set_option linter.unusedSimpArgs false
set_option linter.unusedVariables false
set_option linter.unnecessarySimpa false
open Go.RowKit

structure Lot where
  spice : ByteArray
  grams : Int
  bay : Int
  closed : Bool
structure St where
  bays : List Int
  lots : List Lot
  contacts : List (Int × Int)
  tests : List (Int × Int)
  notes : List ByteArray

def lotCell (x : Lot) : List Value := [.string x.spice, .int .i64 x.grams, .int .i64 x.bay, .bool x.closed]
def lotCells (l : List Lot) : List Value := l.flatMap lotCell
def pairCell (p : Int × Int) : List Value := [.int .i64 p.1, .int .i64 p.2]
def pairCells (l : List (Int × Int)) : List Value := l.flatMap pairCell
def strCells (l : List ByteArray) : List Value := l.map Value.string
theorem lotCells_length (l : List Lot) : (lotCells l).length = l.length * 4 := by
  induction l with
  | nil => rfl
  | cons x l ih => simp only [lotCells, List.flatMap_cons, List.length_append, List.length_cons] at ih ⊢; rw [ih]; simp [lotCell]; omega
theorem pairCells_length (l : List (Int × Int)) : (pairCells l).length = l.length * 2 := by
  induction l with
  | nil => rfl
  | cons x l ih => simp only [pairCells, List.flatMap_cons, List.length_append, List.length_cons] at ih ⊢; rw [ih]; simp [pairCell]; omega

/-- Where a state lies. -/
structure StV where
  b : Nat
  vb : Value
  vl : Value
  vc : Value
  vt : Value
  vn : Value
def StV.cells (V : StV) : Array Value := #[V.vb, V.vl, V.vc, V.vt, V.vn]
def StV.fp (V : StV) (k : Nat) : Prop := k = V.b ∨ V.vb.ownBlock = some k ∨ V.vl.ownBlock = some k ∨ V.vc.ownBlock = some k ∨ V.vt.ownBlock = some k ∨ V.vn.ownBlock = some k

/-- The state reads as S. -/
structure StAt (w : World) (V : StV) (S : St) : Prop where
  blk : Blk w V.b V.cells 113
  rb : Rd w 1 V.vb S.bays.length (icells S.bays)
  rl : Rd w 4 V.vl S.lots.length (lotCells S.lots)
  rc : Rd w 2 V.vc S.contacts.length (pairCells S.contacts)
  rt : Rd w 2 V.vt S.tests.length (pairCells S.tests)
  rn : Rd w 1 V.vn S.notes.length (strCells S.notes)
  lt : ∀ k, V.fp k → k < w.heap.size
theorem StAt.keep {T : Nat → Prop} {w w' : World} {V : StV} {S : St} (h : StAt w V S) (k : Keep T w w') (hT : ∀ i, V.fp i → ¬ T i) : StAt w' V S :=
  ⟨h.blk.keep k (hT _ (.inl rfl)), h.rb.keep k fun b e => hT b (.inr (.inl e)), h.rl.keep k fun b e => hT b (.inr (.inr (.inl e))), h.rc.keep k fun b e => hT b (.inr (.inr (.inr (.inl e)))),
   h.rt.keep k fun b e => hT b (.inr (.inr (.inr (.inr (.inl e))))), h.rn.keep k fun b e => hT b (.inr (.inr (.inr (.inr (.inr e))))), fun i hi => Nat.lt_of_lt_of_le (h.lt i hi) k.size⟩
/-- How long it may be. -/
structure St.small (S : St) : Prop where
  l : S.lots.length ≤ 1000000000
  c : S.contacts.length ≤ 1000000000
  t : S.tests.length ≤ 1000000000
  n : S.notes.length ≤ 1000000000

/-- A state that a call has made and may write: all but its bays is its own. -/
structure OSt (base : Nat) (w : World) (V : StV) (S : St) : Prop where
  blk : Blk w V.b V.cells 113
  ge : base ≤ V.b
  rb : Rd w 1 V.vb S.bays.length (icells S.bays)
  bb : ∀ k, V.vb.ownBlock = some k → k < base
  ol : w.ownsRow base 214 4 V.vl S.lots.length (lotCells S.lots)
  oc : w.ownsRow base 176 2 V.vc S.contacts.length (pairCells S.contacts)
  ot : w.ownsRow base 176 2 V.vt S.tests.length (pairCells S.tests)
  on : w.ownsRow base 9 1 V.vn S.notes.length (strCells S.notes)
  ct : ∀ k, V.vc.ownBlock = some k → V.vt.ownBlock ≠ some k

theorem lotCells_one (l : List Lot) : ∀ u ∈ lotCells l, u.oneCell' = true := by
  intro u hu
  obtain ⟨x, _, hx⟩ := List.mem_flatMap.1 hu
  simp [lotCell] at hx
  rcases hx with rfl | rfl | rfl | rfl <;> rfl
theorem pairCells_one (l : List (Int × Int)) : ∀ u ∈ pairCells l, u.oneCell' = true := by
  intro u hu
  obtain ⟨x, _, hx⟩ := List.mem_flatMap.1 hu
  simp [pairCell] at hx
  rcases hx with rfl | rfl <;> rfl
theorem strCells_one (l : List ByteArray) : ∀ u ∈ strCells l, u.oneCell' = true := by
  intro u hu; obtain ⟨_, _, rfl⟩ := List.mem_map.1 hu; rfl
/-- Blocks of owned rows of two element types are two. -/
theorem ownsRow_types {w : World} {b1 b2 : Nat} {e1 e2 : TypeId} {s1 s2 : Nat} {v1 v2 : Value} {n1 n2 : Nat} {x1 x2 : List Value} (h1 : w.ownsRow b1 e1 s1 v1 n1 x1) (h2 : w.ownsRow b2 e2 s2 v2 n2 x2) (hne : e1 ≠ e2) :
    ∀ k, v1.ownBlock = some k → v2.ownBlock ≠ some k := by
  intro k h h'
  rcases h1.2 with ⟨rfl, _⟩ | ⟨g, c, cur, rfl, _, hg, _⟩
  · cases h
  · rcases h2.2 with ⟨rfl, _⟩ | ⟨g', c', cur', rfl, _, hg', _⟩
    · cases h'
    · cases h; cases h'
      rw [hg] at hg'
      cases hg'
      exact hne rfl
theorem ownsRow_blk {w : World} {b1 : Nat} {e1 : TypeId} {s1 : Nat} {v1 : Value} {n1 : Nat} {x1 : List Value} (h1 : w.ownsRow b1 e1 s1 v1 n1 x1) {b : Nat} {cs : Array Value} {t : TypeId} (hb : Blk w b cs t) (hne : e1 ≠ t) : v1.ownBlock ≠ some b := by
  intro h
  rcases h1.2 with ⟨rfl, _⟩ | ⟨g, c, cur, rfl, _, hg, _⟩
  · cases h
  · cases h
    unfold Blk at hb
    rw [hg] at hb
    cases hb
    exact hne rfl
theorem OSt.at {base : Nat} {w : World} {V : StV} {S : St} (h : OSt base w V S) (hb : base ≤ w.heap.size) : StAt w V S :=
  ⟨h.blk, h.rb, ownsRow_rd h.ol (lotCells_one _), ownsRow_rd h.oc (pairCells_one _), ownsRow_rd h.ot (pairCells_one _), ownsRow_rd h.on (strCells_one _), fun k hk => by
    rcases hk with rfl | h1 | h1 | h1 | h1 | h1
    · exact h.blk.lt
    · exact Nat.lt_of_lt_of_le (h.bb k h1) hb
    · exact (h.ol.lt k h1).2
    · exact (h.oc.lt k h1).2
    · exact (h.ot.lt k h1).2
    · exact (h.on.lt k h1).2⟩

theorem ownsRow_base {w : World} {b b' : Nat} {e : TypeId} {s n : Nat} {v : Value} {x : List Value} (h : w.ownsRow b e s v n x) (hb : b' ≤ b) : w.ownsRow b' e s v n x := by
  refine ⟨h.1, ?_⟩
  rcases h.2 with hn | ⟨g, cap, cur, rfl, h1, rest⟩
  · exact .inl hn
  · exact .inr ⟨g, cap, cur, rfl, Nat.le_trans hb h1, rest⟩

def StClonePost (w : World) (V : StV) (S : St) (e : Ending) (w' : World) : Prop :=
  ∃ V', e = .returned (.pointer (some ⟨V'.b, 0, none⟩)) ∧ OSt w.heap.size w' V' S ∧ V'.vb = V.vb ∧ Keep (fun _ => False) w w'

set_option maxHeartbeats 2000000 in
set_option maxRecDepth 100000 in
theorem stClone_any {w : World} {V : StV} {S : St} (h : StAt w V S) (hs : S.small) : Calls Tryz.prog 77 #[.pointer (some ⟨V.b, 0, none⟩)] w (StClonePost w V S) := by
  obtain ⟨b, vb, vl, vc, vt, vn⟩ := V
  have hb := h.blk
  have hbl := hb.lt
  have c0 := hb.cell 0
  have c1 := hb.cell 1
  have c2 := hb.cell 2
  have c3 := hb.cell 3
  have c4 := hb.cell 4
  simp [StV.cells] at c0 c1 c2 c3 c4 hbl
  obtain ⟨bo, bc, hvb, _⟩ := h.rb.shape
  obtain ⟨lo, lc, hvl, _⟩ := h.rl.shape
  obtain ⟨co, cc, hvc, _⟩ := h.rc.shape
  obtain ⟨to, tc, hvt, _⟩ := h.rt.shape
  obtain ⟨no, nc, hvn, _⟩ := h.rn.shape
  simp only at hvb hvl hvc hvt hvn
  subst hvb hvl hvc hvt hvn
  have H := Lib.hid h; clear h hb
  obtain ⟨w0, hw0⟩ : ∃ w0, w0 = w.alloc (.cells #[.slice bo S.bays.length bc, .slice lo S.lots.length lc, .slice co S.contacts.length cc, .slice to S.tests.length tc, .slice no S.notes.length nc] 113) := ⟨_, rfl⟩
  have hk0 : Keep (fun _ => False) w w0 := by rw [hw0]; exact (Keep.refl _ _).alloc _
  have hn0 : Blk w0 w.heap.size #[.slice bo S.bays.length bc, .slice lo S.lots.length lc, .slice co S.contacts.length cc, .slice to S.tests.length tc, .slice no S.notes.length nc] 113 := by rw [hw0]; exact Blk.new _ _ _
  have hz0 : w0.heap.size = w.heap.size + 1 := by rw [hw0]; simp
  have HRL : Hid (∀ W, Keep (fun k => k = w.heap.size) w0 W → Rd W 4 (.slice lo S.lots.length lc) S.lots.length (lotCells S.lots)) := Lib.hid fun W hk =>
    (H.out.rl.keep hk0 (fun _ _ h => h)).keep hk (fun i hi e => by have := H.out.lt i (.inr (.inr (.inl hi))); omega)
  have HRC : Hid (∀ W, Keep (fun k => k = w.heap.size) w0 W → Rd W 2 (.slice co S.contacts.length cc) S.contacts.length (pairCells S.contacts)) := Lib.hid fun W hk =>
    (H.out.rc.keep hk0 (fun _ _ h => h)).keep hk (fun i hi e => by have := H.out.lt i (.inr (.inr (.inr (.inl hi)))); omega)
  have HRT : Hid (∀ W, Keep (fun k => k = w.heap.size) w0 W → Rd W 2 (.slice to S.tests.length tc) S.tests.length (pairCells S.tests)) := Lib.hid fun W hk =>
    (H.out.rt.keep hk0 (fun _ _ h => h)).keep hk (fun i hi e => by have := H.out.lt i (.inr (.inr (.inr (.inr (.inl hi))))); omega)
  have HRN : Hid (∀ W, Keep (fun k => k = w.heap.size) w0 W → Rd W 1 (.slice no S.notes.length nc) S.notes.length (strCells S.notes)) := Lib.hid fun W hk =>
    (H.out.rn.keep hk0 (fun _ _ h => h)).keep hk (fun i hi e => by have := H.out.lt i (.inr (.inr (.inr (.inr (.inr hi))))); omega)
  have HSM := Lib.hid hs; clear hs
  have d1 := (hk0.cell (p := ⟨b, 1, none⟩) hbl (fun h => h)).trans c1
  have d2 := (hk0.cell (p := ⟨b, 2, none⟩) hbl (fun h => h)).trans c2
  have d3 := (hk0.cell (p := ⟨b, 3, none⟩) hbl (fun h => h)).trans c3
  have d4 := (hk0.cell (p := ⟨b, 4, none⟩) hbl (fun h => h)).trans c4
  have HW0 := Lib.hid hw0
  have HK0 := Lib.hid hk0; clear hk0
  have HN0 := Lib.hid hn0
  clear hw0
  go_enter Tryz.func77, Tryz.ntmps77
  go_wp2
  rw [← HW0.out]
  have HKR : Hid (Keep (fun k => k = w.heap.size) w0 w0.drew) := Lib.hid (Keep.refl _ _).drew
  have HKA : Hid (Keep (fun _ => False) w0 w0.drew) := Lib.hid (Keep.refl _ _).drew
  have HDF : Hid (∀ W, Keep (fun k => k = w.heap.size) w0 W → W.cell? ⟨b, 1, none⟩ = some (.slice lo S.lots.length lc) ∧ W.cell? ⟨b, 2, none⟩ = some (.slice co S.contacts.length cc) ∧ W.cell? ⟨b, 3, none⟩ = some (.slice to S.tests.length tc) ∧ W.cell? ⟨b, 4, none⟩ = some (.slice no S.notes.length nc)) := Lib.hid fun W hk =>
    ⟨(hk.cell (p := ⟨b, 1, none⟩) (by show b < w0.heap.size; rw [hz0]; omega) (by show ¬ b = w.heap.size; omega)).trans d1, (hk.cell (p := ⟨b, 2, none⟩) (by show b < w0.heap.size; rw [hz0]; omega) (by show ¬ b = w.heap.size; omega)).trans d2, (hk.cell (p := ⟨b, 3, none⟩) (by show b < w0.heap.size; rw [hz0]; omega) (by show ¬ b = w.heap.size; omega)).trans d3, (hk.cell (p := ⟨b, 4, none⟩) (by show b < w0.heap.size; rw [hz0]; omega) (by show ¬ b = w.heap.size; omega)).trans d4⟩
  clear c0 c1 c2 c3 c4
  go_region_held3 (fun W => W.cell? ⟨b, 1, none⟩ = some (.slice lo S.lots.length lc) ∧ W.cell? ⟨b, 2, none⟩ = some (.slice co S.contacts.length cc) ∧ W.cell? ⟨b, 3, none⟩ = some (.slice to S.tests.length tc) ∧ W.cell? ⟨b, 4, none⟩ = some (.slice no S.notes.length nc))
    (first | exact ⟨d1, d2, d3, d4⟩ | (refine HDF.out _ ?_; repeat (first | exact HKR.out | apply Keep.drew | refine Keep.setCell ?_ _ _ (fun _ => rfl))))
    (first
      | (go_at_call 114; have hh := clone114 (HRL.out _ HKR.out) (by have := HSM.out.l; omega); refine Calls.mono hh ?_; clear hh; intro e W1 hq; obtain ⟨v1, rfl, ho1, hk1⟩ := hq; obtain ⟨ao1, ac1, rfl, _⟩ := ownsRow_shape ho1; have HO1 := Lib.hid ho1; clear ho1; have HKR := Lib.hid (HKR.out.trans hk1 (fun _ _ h => h.elim)); have HKA := Lib.hid (HKA.out.trans hk1 (fun _ _ h => h.elim)); have HK1 := Lib.hid hk1; clear hk1; dsimp only)
      | (go_at_call 115; have hh := clone115 (HRC.out _ HKR.out) (by have := HSM.out.c; omega); refine Calls.mono hh ?_; clear hh; intro e W2 hq; obtain ⟨v2, rfl, ho2, hk2⟩ := hq; obtain ⟨ao2, ac2, rfl, _⟩ := ownsRow_shape ho2; have HO2 := Lib.hid ho2; clear ho2; have HKR := Lib.hid (HKR.out.trans hk2 (fun _ _ h => h.elim)); have HKA := Lib.hid (HKA.out.trans hk2 (fun _ _ h => h.elim)); have HK2 := Lib.hid hk2; clear hk2; dsimp only)
      | (go_at_call 115; have hh := clone115 (HRT.out _ HKR.out) (by have := HSM.out.t; omega); refine Calls.mono hh ?_; clear hh; intro e W3 hq; obtain ⟨v3, rfl, ho3, hk3⟩ := hq; obtain ⟨ao3, ac3, rfl, _⟩ := ownsRow_shape ho3; have HO3 := Lib.hid ho3; clear ho3; have HKR := Lib.hid (HKR.out.trans hk3 (fun _ _ h => h.elim)); have HKA := Lib.hid (HKA.out.trans hk3 (fun _ _ h => h.elim)); have HK3 := Lib.hid hk3; clear hk3; dsimp only)
      | (go_at_call 22; have hh := clone22 (HRN.out _ HKR.out) (by have := HSM.out.n; omega); refine Calls.mono hh ?_; clear hh; intro e W4 hq; obtain ⟨v4, rfl, ho4, hk4⟩ := hq; obtain ⟨ao4, ac4, rfl, _⟩ := ownsRow_shape ho4; have HO4 := Lib.hid ho4; clear ho4; have HKR := Lib.hid (HKR.out.trans hk4 (fun _ _ h => h.elim)); have HKA := Lib.hid (HKA.out.trans hk4 (fun _ _ h => h.elim)); have HK4 := Lib.hid hk4; clear hk4; have e1 := (HKA.out.cell (p := ⟨w.heap.size, 1, none⟩) (by show w.heap.size < w0.heap.size; rw [hz0]; omega) (fun h => h)).trans (HN0.out.cell 1); have e2 := (HKA.out.cell (p := ⟨w.heap.size, 2, none⟩) (by show w.heap.size < w0.heap.size; rw [hz0]; omega) (fun h => h)).trans (HN0.out.cell 2); have e3 := (HKA.out.cell (p := ⟨w.heap.size, 3, none⟩) (by show w.heap.size < w0.heap.size; rw [hz0]; omega) (fun h => h)).trans (HN0.out.cell 3); have e4 := (HKA.out.cell (p := ⟨w.heap.size, 4, none⟩) (by show w.heap.size < w0.heap.size; rw [hz0]; omega) (fun h => h)).trans (HN0.out.cell 4); have f1 := (HKA.out.frozen (p := ⟨w.heap.size, 1, none⟩) (by show w.heap.size < w0.heap.size; rw [hz0]; omega) (fun h => h)).trans (HN0.out.free 1); have f2 := (HKA.out.frozen (p := ⟨w.heap.size, 2, none⟩) (by show w.heap.size < w0.heap.size; rw [hz0]; omega) (fun h => h)).trans (HN0.out.free 2); have f3 := (HKA.out.frozen (p := ⟨w.heap.size, 3, none⟩) (by show w.heap.size < w0.heap.size; rw [hz0]; omega) (fun h => h)).trans (HN0.out.free 3); have f4 := (HKA.out.frozen (p := ⟨w.heap.size, 4, none⟩) (by show w.heap.size < w0.heap.size; rw [hz0]; omega) (fun h => h)).trans (HN0.out.free 4); simp at e1 e2 e3 e4; dsimp only)
      )
  have HN4 := Lib.hid (((HN0.out.keep HKA.out (fun h => h)).set 1 (.slice ao1 S.lots.length ac1)).set 2 (.slice ao2 S.contacts.length ac2) |>.set 3 (.slice ao3 S.tests.length ac3) |>.set 4 (.slice ao4 S.notes.length ac4))
  have HKF := Lib.hid ((((Keep.refl (fun k => k = w.heap.size) W4).setCell ⟨w.heap.size, 1, none⟩ (.slice ao1 S.lots.length ac1) (fun _ => rfl)).setCell ⟨w.heap.size, 2, none⟩ (.slice ao2 S.contacts.length ac2) (fun _ => rfl)).setCell ⟨w.heap.size, 3, none⟩ (.slice ao3 S.tests.length ac3) (fun _ => rfl) |>.setCell ⟨w.heap.size, 4, none⟩ (.slice ao4 S.notes.length ac4) (fun _ => rfl))
  obtain ⟨wf, hwf⟩ : ∃ wf, wf = ((((W4.setCell ⟨w.heap.size, 1, none⟩ (.slice ao1 S.lots.length ac1)).setCell ⟨w.heap.size, 2, none⟩ (.slice ao2 S.contacts.length ac2)).setCell ⟨w.heap.size, 3, none⟩ (.slice ao3 S.tests.length ac3)).setCell ⟨w.heap.size, 4, none⟩ (.slice ao4 S.notes.length ac4)) := ⟨_, rfl⟩
  rw [← hwf] at HN4 HKF
  rw [← hwf]
  clear hwf e1 e2 e3 e4 f1 f2 f3 f4 d1 d2 d3 d4
  go_wp2
  go_ret
  have hz1 := HK1.out.size
  have hz2 := HK2.out.size
  have hz3 := HK3.out.size
  have hzd : w0.drew.heap.size = w.heap.size + 1 := hz0
  rw [hzd] at hz1
  have b1 := ownsRow_lt HO1.out
  have b2 := ownsRow_lt HO2.out
  have b3 := ownsRow_lt HO3.out
  have b4 := ownsRow_lt HO4.out
  have hkf : Keep (fun k => k = w.heap.size) w0 wf := HKA.out.mono (fun _ _ h => h.elim) |>.trans HKF.out (fun _ _ h => h)
  refine ⟨⟨w.heap.size, .slice bo S.bays.length bc, .slice ao1 S.lots.length ac1, .slice ao2 S.contacts.length ac2, .slice ao3 S.tests.length ac3, .slice ao4 S.notes.length ac4⟩, rfl, ⟨by simpa [StV.cells] using HN4.out, Nat.le_refl _, ?_, fun k hk => H.out.lt k (.inr (.inl hk)), ?_, ?_, ?_, ?_, ?_⟩, rfl, ?_⟩
  · exact (H.out.rb.keep HK0.out (fun _ _ h => h)).keep hkf (fun i hi e => by have := H.out.lt i (.inr (.inl hi)); omega)
  · exact ownsRow_base (ownsRow_keep (ownsRow_keep (ownsRow_keep (ownsRow_keep HO1.out HK2.out (fun _ _ h => h)) HK3.out (fun _ _ h => h)) HK4.out (fun _ _ h => h)) HKF.out (fun k hk e => by have := b1 k hk; omega)) (by omega)
  · exact ownsRow_base (ownsRow_keep (ownsRow_keep (ownsRow_keep HO2.out HK3.out (fun _ _ h => h)) HK4.out (fun _ _ h => h)) HKF.out (fun k hk e => by have := b2 k hk; omega)) (by omega)
  · exact ownsRow_base (ownsRow_keep (ownsRow_keep HO3.out HK4.out (fun _ _ h => h)) HKF.out (fun k hk e => by have := b3 k hk; omega)) (by omega)
  · exact ownsRow_base (ownsRow_keep HO4.out HKF.out (fun k hk e => by have := b4 k hk; omega)) (by omega)
  · intro k hk hk'
    have := b2 k hk
    have := b3 k hk'
    omega
  · exact HK0.out.trans hkf (fun k hk e => by have e' : k = w.heap.size := e; omega)
end Go.Proofs.YthdkamnclbfehaaGreatDoor
