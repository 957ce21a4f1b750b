/- What the package-level variables hold, as the calls need it; and that it holds on. -/
import Derived.Test.YtkkjonkcjlnohaaGreatDoorSM1
import Derived.Test.YtkkjonkcjlnohaaGreatDoorSM2
import Derived.Shelf.Spec.TrailingZeros
import Derived.Lib.LaidTab

/- What the package-level variables hold, as the calls need it; and that it holds on. -/
namespace Go.Proofs.YtkkjonkcjlnohaaGreatDoor
set_option linter.unusedSimpArgs false
set_option linter.unusedVariables false
set_option linter.unnecessarySimpa false
open Go.RowKit

/-- A string of written bytes. -/
def bs (l : List UInt8) : ByteArray := ⟨l.toArray⟩
/-- The table of changes: the sorts of the words and the function's number. -/
def chF (s : List UInt8) : Option (List UInt8 × Nat) :=
  if s = [116, 97, 107, 101] then some ([115, 100], 399)
  else if s = [98, 108, 101, 110, 100] then some ([100, 100, 100], 400)
  else if s = [112, 117, 116] then some ([100, 100], 401)
  else if s = [116, 111, 117, 99, 104] then some ([100, 100], 402)
  else if s = [116, 101, 115, 116] then some ([100, 116], 403)
  else if s = [99, 108, 111, 115, 101] then some ([100], 404)
  else none
def chV (s : List UInt8) : Value :=
  match chF s with
  | some (so, f) => .agg #[.string (bs so), .func (.func f) #[] #[]]
  | none => .agg #[.string (bs []), .nilFunc]
/-- The block of the table answers each look-up, in whatever world holds it. -/
def ChAt (bm : Nat) (o : Option Obj) : Prop :=
  ∀ w : World, w.heap[bm]? = o → ∀ s : ByteArray, s.size ≤ 4096 → (Instr.lookup 118 (.map (some bm)) (.string s) true).run Tryz.prog w = .ok (.tuple #[chV s.data.toList, .bool (chF s.data.toList).isSome]) w

def ErrAt (w : World) (g : Nat) : Prop := ∃ ev, w.cell? ⟨g, 0, none⟩ = some ev ∧ (ev = .nilIface ∨ ∃ te pe, ev = .iface te pe)

structure Glob (w : World) : Prop where
  size : 12 ≤ w.heap.size
  changes : ∃ bm, w.cell? ⟨0, 0, none⟩ = some (.map (some bm)) ∧ bm < w.heap.size ∧ ChAt bm w.heap[bm]?
  maxlen : ∃ m, w.cell? ⟨2, 0, none⟩ = some (.int .i64 m)
  tab : TabAt 6 Lib.deBruijn64tab w
  pow : Lib.TabIs Tryz.prog w "internal/strconv.uint64pow10" .u64 Lib.pow10Tab
  esyn : ErrAt w 7
  eran : ErrAt w 8

theorem gPow : Tryz.prog.globalNamed "internal/strconv.uint64pow10" = some 10 := by kernel_rfl

theorem Glob.below {B : Nat} {w w' : World} (h : Glob w) (hB : w.heap.size = B) (k : Below B w w') : Glob w' := by
  subst hB
  have hs := h.size
  have hc : ∀ (g j : Nat), g < 12 → w'.cell? ⟨g, j, none⟩ = w.cell? ⟨g, j, none⟩ := fun g j hg => k.cell (p := ⟨g, j, none⟩) (show g < w.heap.size by omega)
  refine ⟨Nat.le_trans h.size k.size, ?_, ?_, ?_, ?_, ?_, ?_⟩
  · obtain ⟨bm, h1, h2, h3⟩ := h.changes
    refine ⟨bm, (hc 0 0 (by omega)).trans h1, Nat.lt_of_lt_of_le h2 k.size, ?_⟩
    rw [k.block bm h2]; exact h3
  · obtain ⟨m, h1⟩ := h.maxlen
    exact ⟨m, (hc 2 0 (by omega)).trans h1⟩
  · exact fun j hj => (hc 6 j (by omega)).trans (h.tab j hj)
  · exact var?_below k gPow (by omega) h.pow
  · obtain ⟨ev, h1, h2⟩ := h.esyn
    exact ⟨ev, (hc 7 0 (by omega)).trans h1, h2⟩
  · obtain ⟨ev, h1, h2⟩ := h.eran
    exact ⟨ev, (hc 8 0 (by omega)).trans h1, h2⟩
theorem Glob.keep {w w' : World} (h : Glob w) (k : Keep (fun _ => False) w w') : Glob w' := h.below rfl k.toBelow

/-- The same behind writes to blocks from B on. -/
def GW (B : Nat) (w : World) : Prop := ∃ W, W.heap.size = B ∧ Glob W ∧ Below B W w
theorem GW.glob {B : Nat} {w : World} (h : GW B w) : Glob w := by
  obtain ⟨W, hB, hG, hk⟩ := h; exact hG.below hB hk
theorem GW.size {B : Nat} {w : World} (h : GW B w) : B ≤ w.heap.size := by
  obtain ⟨W, hB, hG, hk⟩ := h; have := hk.size; omega
theorem GW.keep {B : Nat} {S : Nat → Prop} {w w' : World} (h : GW B w) (k : Keep S w w') (hS : ∀ i, i < B → ¬ S i) : GW B w' := by
  obtain ⟨W, hB, hG, hk⟩ := h
  refine ⟨W, hB, hG, hk.trans (k.below ?_ hS)⟩
  have := hk.size; omega
theorem GW.start {w : World} (h : Glob w) : GW w.heap.size w := ⟨w, rfl, h, Below.refl _ _⟩
end Go.Proofs.YtkkjonkcjlnohaaGreatDoor
