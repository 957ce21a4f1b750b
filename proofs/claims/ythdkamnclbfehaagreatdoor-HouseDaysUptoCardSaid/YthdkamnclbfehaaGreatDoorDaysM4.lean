/- A part of the proof. -/
import Derived.Test.YthdkamnclbfehaaGreatDoorDaysM2
import Derived.Test.YthdkamnclbfehaaGreatDoorDaysM3
import Derived.Shelf.Spec.TrailingZeros
set_option linter.all false
namespace Go.Proofs.YthdkamnclbfehaaGreatDoor
open Go.RowKit Tryz
def bs (l:List UInt8):ByteArray:=⟨l.toArray⟩
def chF (s:List UInt8):Option (List UInt8 × Nat):=
  if s=[116,97,107,101] then some ([115,100],255)
  else if s=[98,108,101,110,100] then some ([100,100,100],256)
  else if s=[112,117,116] then some ([100,100],257)
  else if s=[116,111,117,99,104] then some ([100,100],258)
  else if s=[116,101,115,116] then some ([100,116],259)
  else if s=[99,108,111,115,101] then some ([100],260)
  else none
def chV (s:List UInt8):Value:=
  match chF s with
  | some (so,f)=>.agg #[.string (bs so),.func (.func f) #[] #[]]
  | none=>.agg #[.string (bs []),.nilFunc]
def ChAt (bm:Nat) (o:Option Obj):Prop:=
  ∀ w:World,w.heap[bm]?=o→∀ s:ByteArray,s.size≤4096→(Instr.lookup 182 (.map (some bm)) (.string s) true).run prog w = .ok (.tuple #[chV s.data.toList,.bool (chF s.data.toList).isSome]) w
def ErrAt (w:World) (g:Nat):Prop:=∃ ev,w.cell? ⟨g,0,none⟩=some ev∧(ev = .nilIface∨∃ te pe,ev = .iface te pe)
structure Glob (w:World):Prop where
  size:9≤w.heap.size
  changes:∃ bm,w.cell? ⟨0,0,none⟩=some (.map (some bm))∧bm < w.heap.size∧ChAt bm w.heap[bm]?
  maxlen:∃ m,w.cell? ⟨1,0,none⟩=some (.int .i64 m)
  tab:TabAt 3 Lib.deBruijn64tab w
  pow : Lib.TabIs prog w "internal/strconv.uint64pow10" .u64 Lib.pow10Tab
  esyn:ErrAt w 4
  eran:ErrAt w 5
theorem gPow : prog.globalNamed "internal/strconv.uint64pow10" = some 6 := by kernel_rfl
theorem Glob.below {B:Nat} {w w':World} (h:Glob w) (hB:w.heap.size=B) (k:Below B w w'):Glob w':=by
 subst hB;have hs:=h.size;have hc:∀ (g j:Nat),g < 9→w'.cell? ⟨g,j,none⟩=w.cell? ⟨g,j,none⟩:=fun g j hg=>k.cell (p:=⟨g,j,none⟩) (show g < w.heap.size by omega);refine ⟨Nat.le_trans h.size k.size,?_,?_,?_,?_,?_,?_⟩
 ·obtain ⟨bm,h1,h2,h3⟩:=h.changes;refine ⟨bm,(hc 0 0 (by omega)).trans h1,Nat.lt_of_lt_of_le h2 k.size,?_⟩;rw [k.block bm h2];exact h3
 ·obtain ⟨m,h1⟩:=h.maxlen;exact ⟨m,(hc 1 0 (by omega)).trans h1⟩
 ·exact fun j hj=>(hc 3 j (by omega)).trans (h.tab j hj)
 ·exact var?_below k gPow (by omega) h.pow
 ·obtain ⟨ev,h1,h2⟩:=h.esyn;exact ⟨ev,(hc 4 0 (by omega)).trans h1,h2⟩
 ·obtain ⟨ev,h1,h2⟩:=h.eran;exact ⟨ev,(hc 5 0 (by omega)).trans h1,h2⟩
theorem Glob.keep {w w':World} (h:Glob w) (k:Keep kF w w'):Glob w':=h.below rfl k.toBelow
def GW (B:Nat) (w:World):Prop:=∃ W,W.heap.size=B∧Glob W∧Below B W w
theorem GW.glob {B:Nat} {w:World} (h:GW B w):Glob w:=by
 obtain ⟨W,hB,hG,hk⟩:=h;exact hG.below hB hk
theorem GW.size {B:Nat} {w:World} (h:GW B w):B≤w.heap.size:=by
 obtain ⟨W,hB,hG,hk⟩:=h;have:=hk.size;omega
theorem GW.keep {B:Nat} {S:Nat→Prop} {w w':World} (h:GW B w) (k:Keep S w w') (hS:∀ i,i < B→¬ S i):GW B w':=by
 obtain ⟨W,hB,hG,hk⟩:=h;refine ⟨W,hB,hG,hk.trans (k.below ?_ hS)⟩;have:=hk.size;omega
theorem GW.start {w:World} (h:Glob w):GW w.heap.size w:=⟨w,rfl,h,Below.refl _ _⟩
end Go.Proofs.YthdkamnclbfehaaGreatDoor
