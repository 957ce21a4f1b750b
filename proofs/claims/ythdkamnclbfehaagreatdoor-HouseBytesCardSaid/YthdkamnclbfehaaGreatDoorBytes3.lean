/- A state of one's own: what writes into it leave. -/
import Derived.Test.YthdkamnclbfehaaGreatDoorBytes2
import Derived.Test.YthdkamnclbfehaaGreatDoorBytes1
import Derived.Deep.RegionHeld3
import Derived.Test.YthdkamnclbfehaaGreatDoorProg
import Derived.Outline
import Derived.Deep.QuietTactic
import Derived.BigQuiet
import Derived.Shelf.Abstract
import Derived.Lib.AtoiErrMem
import Derived.Lib.SplitLaws
import Derived.Lib.AtoiAllCases
import Derived.Lib.ItoaLen

/- A state of one's own: what writes into it leave. -/
namespace Go.Proofs.YthdkamnclbfehaaGreatDoor
set_option linter.unusedSimpArgs false
set_option linter.unusedVariables false
set_option linter.unnecessarySimpa false
open Go.RowKit

theorem OSt.keep {T : Nat → Prop} {base : Nat} {w w' : World} {V : StV} {S : St} (h : OSt base w V S) (k : Keep T w w') (hT : ∀ i, V.fp i → ¬ T i) : OSt base w' V S :=
  ⟨h.blk.keep k (hT _ (.inl rfl)), h.ge, h.rb.keep k fun b e => hT b (.inr (.inl e)), h.bb, ownsRow_keep h.ol k fun b e => hT b (.inr (.inr (.inl e))),
   ownsRow_keep h.oc k fun b e => hT b (.inr (.inr (.inr (.inl e)))), ownsRow_keep h.ot k fun b e => hT b (.inr (.inr (.inr (.inr (.inl e))))), ownsRow_keep h.on k fun b e => hT b (.inr (.inr (.inr (.inr (.inr e))))), h.ct⟩
theorem OSt.lt {base : Nat} {w : World} {V : StV} {S : St} (h : OSt base w V S) : base ≤ w.heap.size := by
  have := h.blk.lt; have := h.ge; omega
theorem OSt.fp_lt {base : Nat} {w : World} {V : StV} {S : St} (h : OSt base w V S) : ∀ k, V.fp k → k < w.heap.size := (h.at h.lt).lt
theorem OSt.bne {base : Nat} {w : World} {V : StV} {S : St} (h : OSt base w V S) : ∀ k, V.vb.ownBlock = some k → k ≠ V.b := fun k e e' => by
  have := h.bb k e; have := h.ge; omega
theorem OSt.lne {base : Nat} {w : World} {V : StV} {S : St} (h : OSt base w V S) : V.vl.ownBlock ≠ some V.b := ownsRow_blk h.ol h.blk (by decide)
theorem OSt.cne {base : Nat} {w : World} {V : StV} {S : St} (h : OSt base w V S) : V.vc.ownBlock ≠ some V.b := ownsRow_blk h.oc h.blk (by decide)
theorem OSt.tne {base : Nat} {w : World} {V : StV} {S : St} (h : OSt base w V S) : V.vt.ownBlock ≠ some V.b := ownsRow_blk h.ot h.blk (by decide)
theorem OSt.nne {base : Nat} {w : World} {V : StV} {S : St} (h : OSt base w V S) : V.vn.ownBlock ≠ some V.b := ownsRow_blk h.on h.blk (by decide)
theorem OSt.fp_ge {base : Nat} {w : World} {V : StV} {S : St} (h : OSt base w V S) : (∀ k, V.vl.ownBlock = some k → base ≤ k) ∧ (∀ k, V.vc.ownBlock = some k → base ≤ k) ∧ (∀ k, V.vt.ownBlock = some k → base ≤ k) ∧ (∀ k, V.vn.ownBlock = some k → base ≤ k) :=
  ⟨fun k e => (h.ol.lt k e).1, fun k e => (h.oc.lt k e).1, fun k e => (h.ot.lt k e).1, fun k e => (h.on.lt k e).1⟩

theorem OSt.setLots {base : Nat} {w w1 : World} {V : StV} {S : St} {v' : Value} {ls : List Lot} (h : OSt base w V S) (hk : Keep (fun k => V.vl.ownBlock = some k) w w1)
    (ho : w1.ownsRow base 214 4 v' ls.length (lotCells ls)) (hf : v'.ownBlock = V.vl.ownBlock ∨ ∃ g, v'.ownBlock = some g ∧ w.heap.size ≤ g) :
    OSt base (w1.setCell ⟨V.b, 1, none⟩ v') { V with vl := v' } { S with lots := ls } := by
  have hs : Keep (fun k => k = V.b) w1 (w1.setCell ⟨V.b, 1, none⟩ v') := (Keep.refl _ _).setCell _ _ (fun _ => rfl)
  have hv : v'.ownBlock ≠ some V.b := by
    intro e
    rcases hf with h1 | ⟨g, h1, h2⟩
    · exact h.lne (h1 ▸ e)
    · have : g = V.b := Option.some.inj (h1.symm.trans e)
      have := h.blk.lt; omega
  refine ⟨?_, h.ge, ?_, h.bb, ownsRow_setCell ho _ _ hv, ?_, ?_, ?_, h.ct⟩
  · have := (h.blk.keep hk h.lne).set 1 v'
    simpa [StV.cells] using this
  · exact (h.rb.keep hk (fun b e e' => by have := h.bb b e; have := h.fp_ge.1 b e'; omega)).keep hs (fun b e e' => h.bne b e e')
  · exact ownsRow_setCell (ownsRow_keep h.oc hk (fun b e e' => ownsRow_types h.ol h.oc (by decide) b e' e)) _ _ h.cne
  · exact ownsRow_setCell (ownsRow_keep h.ot hk (fun b e e' => ownsRow_types h.ol h.ot (by decide) b e' e)) _ _ h.tne
  · exact ownsRow_setCell (ownsRow_keep h.on hk (fun b e e' => ownsRow_types h.ol h.on (by decide) b e' e)) _ _ h.nne
theorem OSt.setContacts {base : Nat} {w w1 : World} {V : StV} {S : St} {v' : Value} {ls : List (Int × Int)} (h : OSt base w V S) (hk : Keep (fun k => V.vc.ownBlock = some k) w w1)
    (ho : w1.ownsRow base 176 2 v' ls.length (pairCells ls)) (hf : v'.ownBlock = V.vc.ownBlock ∨ ∃ g, v'.ownBlock = some g ∧ w.heap.size ≤ g) :
    OSt base (w1.setCell ⟨V.b, 2, none⟩ v') { V with vc := v' } { S with contacts := ls } := by
  have hs : Keep (fun k => k = V.b) w1 (w1.setCell ⟨V.b, 2, none⟩ v') := (Keep.refl _ _).setCell _ _ (fun _ => rfl)
  have hv : v'.ownBlock ≠ some V.b := by
    intro e
    rcases hf with h1 | ⟨g, h1, h2⟩
    · exact h.cne (h1 ▸ e)
    · have : g = V.b := Option.some.inj (h1.symm.trans e)
      have := h.blk.lt; omega
  refine ⟨?_, h.ge, ?_, h.bb, ?_, ownsRow_setCell ho _ _ hv, ?_, ?_, ?_⟩
  · have := (h.blk.keep hk h.cne).set 2 v'
    simpa [StV.cells] using this
  · exact (h.rb.keep hk (fun b e e' => by have := h.bb b e; have := h.fp_ge.2.1 b e'; omega)).keep hs (fun b e e' => h.bne b e e')
  · exact ownsRow_setCell (ownsRow_keep h.ol hk (fun b e e' => ownsRow_types h.oc h.ol (by decide) b e' e)) _ _ h.lne
  · exact ownsRow_setCell (ownsRow_keep h.ot hk (fun b e e' => h.ct b e' e)) _ _ h.tne
  · exact ownsRow_setCell (ownsRow_keep h.on hk (fun b e e' => ownsRow_types h.oc h.on (by decide) b e' e)) _ _ h.nne
  · intro k e e'
    rcases hf with h1 | ⟨g, h1, h2⟩
    · exact h.ct k (h1 ▸ e) e'
    · have : g = k := Option.some.inj (h1.symm.trans e)
      have := (h.ot.lt k e').2; omega
theorem OSt.setTests {base : Nat} {w w1 : World} {V : StV} {S : St} {v' : Value} {ls : List (Int × Int)} (h : OSt base w V S) (hk : Keep (fun k => V.vt.ownBlock = some k) w w1)
    (ho : w1.ownsRow base 176 2 v' ls.length (pairCells ls)) (hf : v'.ownBlock = V.vt.ownBlock ∨ ∃ g, v'.ownBlock = some g ∧ w.heap.size ≤ g) :
    OSt base (w1.setCell ⟨V.b, 3, none⟩ v') { V with vt := v' } { S with tests := ls } := by
  have hs : Keep (fun k => k = V.b) w1 (w1.setCell ⟨V.b, 3, none⟩ v') := (Keep.refl _ _).setCell _ _ (fun _ => rfl)
  have hv : v'.ownBlock ≠ some V.b := by
    intro e
    rcases hf with h1 | ⟨g, h1, h2⟩
    · exact h.tne (h1 ▸ e)
    · have : g = V.b := Option.some.inj (h1.symm.trans e)
      have := h.blk.lt; omega
  refine ⟨?_, h.ge, ?_, h.bb, ?_, ?_, ownsRow_setCell ho _ _ hv, ?_, ?_⟩
  · have := (h.blk.keep hk h.tne).set 3 v'
    simpa [StV.cells] using this
  · exact (h.rb.keep hk (fun b e e' => by have := h.bb b e; have := h.fp_ge.2.2.1 b e'; omega)).keep hs (fun b e e' => h.bne b e e')
  · exact ownsRow_setCell (ownsRow_keep h.ol hk (fun b e e' => ownsRow_types h.ot h.ol (by decide) b e' e)) _ _ h.lne
  · exact ownsRow_setCell (ownsRow_keep h.oc hk (fun b e e' => h.ct b e e')) _ _ h.cne
  · exact ownsRow_setCell (ownsRow_keep h.on hk (fun b e e' => ownsRow_types h.ot h.on (by decide) b e' e)) _ _ h.nne
  · intro k e e'
    rcases hf with h1 | ⟨g, h1, h2⟩
    · exact h.ct k e (h1 ▸ e')
    · have : g = k := Option.some.inj (h1.symm.trans e')
      have := (h.oc.lt k e).2; omega
theorem OSt.setNotes {base : Nat} {w w1 : World} {V : StV} {S : St} {v' : Value} {ls : List ByteArray} (h : OSt base w V S) (hk : Keep (fun k => V.vn.ownBlock = some k) w w1)
    (ho : w1.ownsRow base 9 1 v' ls.length (strCells ls)) (hf : v'.ownBlock = V.vn.ownBlock ∨ ∃ g, v'.ownBlock = some g ∧ w.heap.size ≤ g) :
    OSt base (w1.setCell ⟨V.b, 4, none⟩ v') { V with vn := v' } { S with notes := ls } := by
  have hs : Keep (fun k => k = V.b) w1 (w1.setCell ⟨V.b, 4, none⟩ v') := (Keep.refl _ _).setCell _ _ (fun _ => rfl)
  have hv : v'.ownBlock ≠ some V.b := by
    intro e
    rcases hf with h1 | ⟨g, h1, h2⟩
    · exact h.nne (h1 ▸ e)
    · have : g = V.b := Option.some.inj (h1.symm.trans e)
      have := h.blk.lt; omega
  refine ⟨?_, h.ge, ?_, h.bb, ?_, ?_, ?_, ownsRow_setCell ho _ _ hv, h.ct⟩
  · have := (h.blk.keep hk h.nne).set 4 v'
    simpa [StV.cells] using this
  · exact (h.rb.keep hk (fun b e e' => by have := h.bb b e; have := h.fp_ge.2.2.2 b e'; omega)).keep hs (fun b e e' => h.bne b e e')
  · exact ownsRow_setCell (ownsRow_keep h.ol hk (fun b e e' => ownsRow_types h.on h.ol (by decide) b e' e)) _ _ h.lne
  · exact ownsRow_setCell (ownsRow_keep h.oc hk (fun b e e' => ownsRow_types h.on h.oc (by decide) b e' e)) _ _ h.cne
  · exact ownsRow_setCell (ownsRow_keep h.ot hk (fun b e e' => ownsRow_types h.on h.ot (by decide) b e' e)) _ _ h.tne

theorem OSt.fp_new {base : Nat} {w : World} {V : StV} {S : St} (h : OSt base w V S) : ∀ k, V.fp k → V.vb.ownBlock = some k ∨ base ≤ k := fun k hk => by
  rcases hk with e | e | e | e | e | e
  · exact .inr (e ▸ h.ge)
  · exact .inl e
  · exact .inr (h.fp_ge.1 k e)
  · exact .inr (h.fp_ge.2.1 k e)
  · exact .inr (h.fp_ge.2.2.1 k e)
  · exact .inr (h.fp_ge.2.2.2 k e)
/-- What a writer into a state leaves. -/
structure Chg (base : Nat) (w : World) (V V' : StV) (w' : World) : Prop where
  b : V'.b = V.b
  vb : V'.vb = V.vb
  fp : ∀ k, V'.fp k → V.fp k ∨ w.heap.size ≤ k
  keep : Keep (fun k => base ≤ k ∧ V.fp k) w w'
theorem Chg.refl (base : Nat) (w : World) (V : StV) : Chg base w V V w := ⟨rfl, rfl, fun _ h => .inl h, Keep.refl _ _⟩
theorem Chg.trans {base : Nat} {w w1 w2 : World} {V V1 V2 : StV} (h : Chg base w V V1 w1) (h' : Chg base w1 V1 V2 w2) : Chg base w V V2 w2 :=
  ⟨h'.b.trans h.b, h'.vb.trans h.vb, fun k hk => (h'.fp k hk).elim (h.fp k) (fun e => .inr (Nat.le_trans h.keep.size e)),
   h.keep.trans h'.keep (fun k hk e => ⟨e.1, (h.fp k e.2).elim id (fun e' => absurd hk (by omega))⟩)⟩
theorem Chg.before {base : Nat} {w w1 w2 : World} {V V2 : StV} (k : Keep (fun _ => False) w w1) (h' : Chg base w1 V V2 w2) : Chg base w V V2 w2 :=
  ⟨h'.b, h'.vb, fun i hi => (h'.fp i hi).elim .inl (fun e => .inr (Nat.le_trans k.size e)), (k.mono (fun _ _ e => e.elim)).trans h'.keep (fun _ _ e => e)⟩
theorem Chg.after {base : Nat} {w w1 w2 : World} {V V2 : StV} (h' : Chg base w V V2 w1) (k : Keep (fun _ => False) w1 w2) : Chg base w V V2 w2 :=
  ⟨h'.b, h'.vb, h'.fp, h'.keep.trans k (fun _ _ e => e.elim)⟩
end Go.Proofs.YthdkamnclbfehaaGreatDoor

/- append as one operation of a drawn region. -/
namespace Go.Proofs.YthdkamnclbfehaaGreatDoor
set_option linter.unusedSimpArgs false
set_option linter.unusedVariables false
set_option linter.unnecessarySimpa false
open Go.RowKit

theorem oper_app {P : Program} {w : World} {o : Oper} {a : Act} {K : Act → World → Prop} {Q : Exit → Act → World → Prop} (s x : Operand) (t tx : TypeId)
    (ho : o.op = .call { callee := .builtin .append, args := #[s, x], argTypes := #[t, tx] })
    (e : TypeId) (z : Value) (size bytes : Nat) (ht : P.underlying t = some (.slice e)) (hinfo : (P.info? e).map (fun i => (i.zero, i.size, i.bytes)) = some (some z, size, bytes)) (hzs : z.cells.size = size)
    {base : Nat} {v : Value} {n : Nat} {xs : List Value} (hown : w.ownsRow base e size v n xs) (hs : a.eval s = v)
    {xv : Value} {m : Nat} {news : List Value} (hsrc : Src P size tx xv m news w) (hx : a.eval x = xv)
    (h63 : n + m ≤ maxLen) (hbytes : (n + m) * bytes ≤ 140737488355328) (hbase : base ≤ w.heap.size)
    (h : ∀ v' w', App w base e size v n xs m news v' w' → K (a.put o.dst v') w') : Oper.wp P o a w K Q := by
  obtain ⟨i, hi, hz, hsize, hby⟩ := info_parts hinfo
  obtain ⟨v', w', hr, happ⟩ := run_app (P := P) w base t tx o.type e i z size bytes ht hi hz hsize hby hzs v n xs hown xv m news hsrc h63 hbytes hbase
  unfold Oper.wp execOp
  simp only [ho, resolve, invoke, builtin, Sem.run_bind, Sem.run_pure, Result.andThen_ok, List.map_toArray, List.map_cons, List.map_nil, hs, hx, hr]
  exact h _ _ happ
theorem Rd.new (w : World) (size n : Nat) (cs : List Value) (t : TypeId) (hl : cs.length = n * size) (h1 : ∀ u ∈ cs, u.oneCell' = true) (hn : n ≤ maxLen) :
    Rd (w.alloc (.cells cs.toArray t)) size (.slice (some ⟨w.heap.size, 0, none⟩) n n) n cs := by
  refine ⟨hl, h1, .inr ⟨w.heap.size, 0, n, rfl, Nat.le_refl _, hn, fun j u hu => ?_⟩⟩
  rw [Nat.zero_add, World.cell?_alloc_new]
  simpa using hu
theorem Rd.drew {w : World} {size : Nat} {v : Value} {n : Nat} {xs : List Value} (h : Rd w size v n xs) : Rd w.drew size v n xs := h
end Go.Proofs.YthdkamnclbfehaaGreatDoor

/- The disk of the program: what each method does to it, for every disk that NewDisk made. -/
namespace Go.Proofs.YthdkamnclbfehaaGreatDoor
set_option linter.unusedSimpArgs false
set_option linter.unusedVariables false
set_option linter.unnecessarySimpa false
open Go.RowKit

structure Dsk where
  off : Bool
  left : Int
  size : Nat
  safe : Nat
  bytes : List UInt8

structure Dsk.ok (D : Dsk) : Prop where
  left0 : -1 ≤ D.left
  left1 : D.left ≤ 9223372036854775807
  size0 : 1 ≤ D.size
  size1 : D.size ≤ 1000000
  safe : D.safe ≤ D.bytes.length
  fits : D.bytes.length ≤ D.size

def bcells (l : List UInt8) : List Value := l.map fun b => .int .u8 b.toNat
theorem bcells_length (l : List UInt8) : (bcells l).length = l.length := by simp [bcells]
theorem bcells_one (l : List UInt8) : ∀ u ∈ bcells l, u.oneCell' = true := by
  intro u hu; obtain ⟨_, _, rfl⟩ := List.mem_map.1 hu; rfl
theorem bcells_append (a b : List UInt8) : bcells (a ++ b) = bcells a ++ bcells b := by simp [bcells]
theorem bcells_take (a : List UInt8) (k : Nat) : bcells (a.take k) = (bcells a).take k := by simp [bcells, List.map_take]

def onF (D : Dsk) : Bool × Dsk :=
  if D.left = 0 then (false, { D with off := true })
  else if D.off then (false, D) else (true, { D with left := if D.left < 0 then -1 else D.left - 1 })
def appendF (D : Dsk) (l : List UInt8) : Int × Dsk :=
  if D.size < D.bytes.length + l.length then (9, D)
  else if (onF D).1 then (0, { (onF D).2 with bytes := D.bytes ++ l }) else (10, (onF D).2)
def syncF (D : Dsk) : Int × Dsk :=
  if (onF D).1 then (0, { (onF D).2 with safe := D.bytes.length }) else (10, (onF D).2)
def cutF (D : Dsk) (n : Int) : Int × Dsk :=
  if n < 0 ∨ (D.bytes.length : Int) < n then (2, D)
  else if (onF D).1 then (0, { (onF D).2 with bytes := D.bytes.take n.toNat, safe := n.toNat }) else (10, (onF D).2)
def fuseF (D : Dsk) (k : Int) : Dsk := if D.off then D else { D with left := if k < 0 then -1 else k }
def crashN (D : Dsk) (keep : Int) : Nat := if keep < 0 then D.safe else if (D.bytes.length : Int) - D.safe < keep then D.bytes.length else D.safe + keep.toNat
def crashF (D : Dsk) (keep : Int) : Dsk := { D with bytes := D.bytes.take (crashN D keep), safe := crashN D keep, off := false, left := -1 }

/-- The program's disk lies at block bd; v is its slice of bytes. -/
structure DiskAt (base : Nat) (w : World) (bd : Nat) (D : Dsk) (v : Value) : Prop where
  blk : Blk w bd #[.bool D.off, .int .i64 D.left, .int .i64 D.size, .int .i64 D.safe, v] 103
  own : w.ownsRow base 5 1 v D.bytes.length (bcells D.bytes)
  ge : base ≤ bd
  ne : v.ownBlock ≠ some bd
  ok : D.ok

theorem onF_bytes (D : Dsk) : (onF D).2.bytes = D.bytes ∧ (onF D).2.size = D.size ∧ (onF D).2.safe = D.safe := by
  unfold onF; split <;> (try split) <;> exact ⟨rfl, rfl, rfl⟩
theorem onF_ok {D : Dsk} (h : D.ok) : (onF D).2.ok := by
  obtain ⟨a, b, c, d, e, f⟩ := h
  unfold onF
  split
  · exact ⟨a, b, c, d, e, f⟩
  · split
    · exact ⟨a, b, c, d, e, f⟩
    · exact ⟨by simp; split <;> omega, by simp; split <;> omega, c, d, e, f⟩

def OnPost (base : Nat) (w : World) (bd : Nat) (D : Dsk) (v : Value) (e : Ending) (w' : World) : Prop :=
  e = .returned (.bool (onF D).1) ∧ DiskAt base w' bd (onF D).2 v ∧ Keep (fun k => k = bd) w w'

set_option maxHeartbeats 400000 in
theorem on_any {base bd : Nat} {D : Dsk} {v : Value} {w : World} (h : DiskAt base w bd D v) :
    Calls Tryz.prog 64 #[.pointer (some ⟨bd, 0, none⟩)] w (OnPost base w bd D v) := by
  obtain ⟨off, left, size, safe, bytes⟩ := D
  have hok' := onF_ok h.ok
  obtain ⟨hb, ho, hge, hne, hok⟩ := h
  have h0 := hb.cell 0
  have h1 := hb.cell 1
  have f0 := hb.free 0
  have f1 := hb.free 1
  have l0 := hok.left0
  have l1 := hok.left1
  simp at h0 h1 l0 l1
  have HB := Lib.hid hb; clear hb
  have HO := Lib.hid ho; clear ho
  have HN := Lib.hid hne; clear hne
  have HK := Lib.hid hok'; clear hok'
  clear hok
  by_cases hl : left = 0
  · subst hl
    go_enter Tryz.func64, Tryz.ntmps64
    go_wp2
    go_ret
    exact ⟨rfl, ⟨by simpa [onF] using HB.out.set 0 (.bool true), ownsRow_setCell HO.out _ _ HN.out, hge, HN.out, HK.out⟩, (Keep.refl _ _).setCell _ _ (fun _ => rfl)⟩
  have hl' : (left == 0) = false := by simpa using hl
  cases off
  · by_cases hm : left < 0
    · obtain rfl : left = -1 := by omega
      clear hl hm hl'
      go_enter Tryz.func64, Tryz.ntmps64
      go_wp2
      go_ret
      exact ⟨rfl, ⟨by simpa [onF] using HB.out.set 1 (.int .i64 (-1)), ownsRow_setCell HO.out _ _ HN.out, hge, HN.out, HK.out⟩, (Keep.refl _ _).setCell _ _ (fun _ => rfl)⟩
    · have hF : onF ⟨false, left, size, safe, bytes⟩ = (true, ⟨false, left - 1, size, safe, bytes⟩) := by simp [onF, hl, hm]
      have HF := Lib.hid hF; clear hF
      have hm1 : 1 ≤ left := by omega
      clear hl hm
      go_enter Tryz.func64, Tryz.ntmps64
      go_wp2
      go_ret
      refine ⟨by rw [HF.out]; rfl, ⟨?_, ?_, hge, HN.out, HK.out⟩, (Keep.refl _ _).setCell _ _ (fun _ => rfl)⟩
      · rw [HF.out]; simpa using HB.out.set 1 (.int .i64 (left - 1))
      · rw [HF.out]; exact ownsRow_setCell HO.out _ _ HN.out
  · have hF : onF ⟨true, left, size, safe, bytes⟩ = (false, ⟨true, left, size, safe, bytes⟩) := by simp [onF, hl]
    have HF := Lib.hid hF; clear hF
    clear hl
    go_enter Tryz.func64, Tryz.ntmps64
    go_wp2
    go_ret
    refine ⟨by rw [HF.out]; rfl, ⟨?_, ?_, hge, HN.out, HK.out⟩, Keep.refl _ _⟩
    · rw [HF.out]; exact HB.out
    · rw [HF.out]; exact HO.out

theorem DiskAt.drewN {base bd : Nat} {D : Dsk} {v : Value} {w : World} (h : DiskAt base w bd D v) (n : Nat) : DiskAt base (w.drewN n) bd D v :=
  ⟨h.blk, h.own, h.ge, h.ne, h.ok⟩
theorem DiskAt.keep {base bd : Nat} {D : Dsk} {v : Value} {w w' : World} {S : Nat → Prop} (h : DiskAt base w bd D v) (k : Keep S w w') (h1 : ¬ S bd) (h2 : ∀ g, v.ownBlock = some g → ¬ S g) : DiskAt base w' bd D v :=
  ⟨h.blk.keep k h1, ownsRow_keep h.own k h2, h.ge, h.ne, h.ok⟩

theorem none_any {base bd : Nat} {D : Dsk} {v : Value} {w : World} (h : DiskAt base w bd D v) :
    Calls Tryz.prog 51 #[.pointer (some ⟨bd, 0, none⟩)] w fun e w' => e = .returned (.bool false) ∧ w = w' := by
  obtain ⟨hb, ho, hge, hne, hok⟩ := h
  have h2 := hb.cell 2
  have l0 := hok.size0
  simp at h2
  have hs : ((D.size : Int) == 0) = false := by simp; omega
  clear hb ho hne hok
  go_enter Tryz.func51, Tryz.ntmps51
  go_wp2
  go_ret
  exact ⟨rfl, rfl⟩

theorem info5 : (Tryz.prog.info? 5).map (fun i => (i.zero, i.size, i.bytes)) = some (some (.int .u8 0), 1, 1) := by kernel_rfl

def AppendPost (base : Nat) (w : World) (bd : Nat) (D : Dsk) (v : Value) (l : List UInt8) (e : Ending) (w' : World) : Prop :=
  e = .returned (.int .i64 (appendF D l).1) ∧ (∃ v', DiskAt base w' bd (appendF D l).2 v' ∧ (v'.ownBlock = v.ownBlock ∨ ∃ g, v'.ownBlock = some g ∧ w.heap.size ≤ g)) ∧
    Keep (fun k => k = bd ∨ v.ownBlock = some k) w w'

set_option maxHeartbeats 800000 in
theorem append_any {base bd : Nat} {D : Dsk} {v x : Value} {w : World} {l : List UInt8} (h : DiskAt base w bd D v) (hx : Rd w 1 x l.length (bcells l)) (hxd : x.ownBlock ≠ some bd) (hbase : base ≤ w.heap.size) :
    Calls Tryz.prog 31 #[.pointer (some ⟨bd, 0, none⟩), x] w (AppendPost base w bd D v l) := by
  have hd := h
  have l4 := h.ok.size1
  have l5 := h.ok.fits
  have hb := h.blk
  have h2 := hb.cell 2
  have h4 := hb.cell 4
  simp at h2 h4
  obtain ⟨xo, xc, hxe, hxn, hxm, _⟩ := hx.shape
  subst hxe
  obtain ⟨vo, vc, hve, _⟩ := ownsRow_shape h.own
  subst hve
  unfold maxLen at hxm
  have HD := Lib.hid hd; clear hd
  have HX := Lib.hid hx; clear hx
  have HXD := Lib.hid hxd; clear hxd
  have HH := Lib.hid h; clear h hb
  by_cases hfull : D.size < D.bytes.length + l.length
  · have hF : appendF D l = (9, D) := by simp [appendF, hfull]
    have HF := Lib.hid hF; clear hF
    go_enter Tryz.func31, Tryz.ntmps31
    go_wp2_with (go_at_call 51; refine (none_any HD.out).mono ?_; rintro e w' ⟨rfl, rfl⟩)
    go_quiet (fail)
    go_wp2
    go_ret
    exact ⟨by rw [HF.out]; rfl, ⟨_, by rw [HF.out]; exact HD.out.drewN _, .inl rfl⟩, (Keep.refl _ _).drewN _⟩
  · have hroom : (D.bytes.length : Int) + l.length ≤ D.size := by omega
    by_cases hon : (onF D).1 = true
    · have hF : appendF D l = (0, { (onF D).2 with bytes := D.bytes ++ l }) := by simp [appendF, hfull, hon]
      have HF := Lib.hid hF; clear hF
      have HON := Lib.hid hon; clear hon hfull
      go_enter Tryz.func31, Tryz.ntmps31
      go_wp2_with (go_at_call 51; refine (none_any HD.out).mono ?_; rintro e w' ⟨rfl, rfl⟩)
      go_quiet (fail)
      go_wp2_with (first | (go_at_call 64; refine (on_any (HD.out.drewN _)).mono ?_; rintro e w1 ⟨he, hd1, hk1⟩; rw [HON.out] at he; subst he; have c4 := hd1.blk.cell 4; simp at c4; have HD1 := Lib.hid hd1; clear hd1; have hw1 : w.heap.size ≤ w1.heap.size := hk1.size; have HK1 := Lib.hid hk1; clear hk1; have HOWN := Lib.hid (show w1.ownsRow base 5 1 (.slice vo D.bytes.length vc) D.bytes.length (bcells D.bytes) by have := HD1.out.own; rwa [(onF_bytes D).1] at this); have HSRC := Lib.hid ((HX.out.keep (S := fun k => k = bd) (((Keep.refl _ w).drewN nq).trans HK1.out (fun _ _ h => h)) (fun b hb e => HXD.out (by rw [hb, e]))).src (P := Tryz.prog) Tryz.underlying61)) | (at_builtin; refine wpList_app (w := w1) rfl (.tmp 32) (.tmp 33) 61 61 rfl 5 (.int .u8 0) 1 1 Tryz.underlying61 info5 rfl HOWN.out rfl HSRC.out rfl ?hb1 ?hb2 ?hb3 ?hgo))
      case hb1 => unfold maxLen; omega
      case hb2 => omega
      case hb3 => omega
      case hgo =>
      intro v' w2 happ
      obtain ⟨ao, cap, hv', _⟩ := ownsRow_shape happ.own
      have hne2 : ¬ ((Value.slice vo D.bytes.length vc).ownBlock = some bd) := HD1.out.ne
      have k2 := happ.keep
      have c4' := (k2.cell (p := ⟨bd, 4, none⟩) HD1.out.blk.lt hne2).trans c4
      have f4' := (k2.frozen (p := ⟨bd, 4, none⟩) HD1.out.blk.lt hne2).trans (HD1.out.blk.free 4)
      subst hv'
      have HA := Lib.hid happ; clear happ k2 hne2
      go_wp2
      go_ret
      have hne' : (Value.slice ao (D.bytes.length + l.length) cap).ownBlock ≠ some bd := by
        rcases HA.out.fresh with h | ⟨g, h, hg⟩
        · rw [h]; exact HD1.out.ne
        · rw [h]; intro e; cases e; have := HD1.out.blk.lt; omega
      refine ⟨by rw [HF.out]; rfl, ⟨_, ⟨?_, ?_, HD.out.ge, hne', ?_⟩, ?_⟩, ?_⟩
      · rw [HF.out]
        have := (HD1.out.blk.keep HA.out.keep HD1.out.ne).set 4 (.slice ao (D.bytes.length + l.length) cap)
        simpa using this
      · rw [HF.out]
        have := ownsRow_setCell HA.out.own ⟨bd, 4, none⟩ (.slice ao (D.bytes.length + l.length) cap) hne'
        simpa [bcells_append] using this
      · rw [HF.out]
        obtain ⟨q1, q2, q3, q4, q5, q6⟩ := HD1.out.ok
        obtain ⟨r1, r2, r3⟩ := onF_bytes D
        refine ⟨q1, q2, q3, q4, ?_, ?_⟩
        · rw [r1] at q5; simp; omega
        · simp; rw [r2]; omega
      · rcases HA.out.fresh with h | ⟨g, h, hg⟩
        · exact .inl h
        · exact .inr ⟨g, h, by omega⟩
      · refine Keep.setCell ?_ _ _ (fun _ => .inl rfl)
        refine (((Keep.refl _ w).drewN nq).trans HK1.out (fun _ _ h => .inl h)).trans HA.out.keep (fun _ _ h => .inr h)
    · have hon' : (onF D).1 = false := by simpa using hon
      have hF : appendF D l = (10, (onF D).2) := by simp [appendF, hfull, hon']
      have HF := Lib.hid hF; clear hF
      have HON := Lib.hid hon'; clear hon hon' hfull
      go_enter Tryz.func31, Tryz.ntmps31
      go_wp2_with (go_at_call 51; refine (none_any HD.out).mono ?_; rintro e w' ⟨rfl, rfl⟩)
      go_quiet (fail)
      go_wp2_with (go_at_call 64; refine (on_any (HD.out.drewN _)).mono ?_; rintro e w1 ⟨he, hd1, hk1⟩; rw [HON.out] at he; subst he; have HD1 := Lib.hid hd1; clear hd1; have HK1 := Lib.hid hk1; clear hk1)
      go_ret
      exact ⟨by rw [HF.out]; rfl, ⟨_, by rw [HF.out]; exact HD1.out, .inl rfl⟩, ((Keep.refl _ w).drewN nq).trans HK1.out (fun _ _ h => .inl h)⟩
end Go.Proofs.YthdkamnclbfehaaGreatDoor

/- slices.IndexFunc and slices.ContainsFunc at []byte. -/
namespace Go.Proofs.YthdkamnclbfehaaGreatDoor
set_option linter.unusedSimpArgs false
set_option linter.unusedVariables false
set_option linter.unnecessarySimpa false
open Go.RowKit
theorem bcells_get (l : List UInt8) (j : Nat) (h : j < l.length) : (bcells l)[j]? = some (.int .u8 (l.getD j 0).toNat) := by
  simp [bcells, List.getD, h]

/-- The first place at which p holds, from k on. -/
def findFromB (p : UInt8 → Bool) (l : List UInt8) (k : Nat) : Int :=
  match l with
  | [] => -1
  | x :: r => if p x then k else findFromB p r (k + 1)
def findIB (p : UInt8 → Bool) (l : List UInt8) : Int := findFromB p l 0
theorem findFrom_casesB (p : UInt8 → Bool) : ∀ (l : List UInt8) (k : Nat), (findFromB p l k = -1 ∧ ∀ j, j < l.length → p (l.getD j 0) = false) ∨
    ∃ j, j < l.length ∧ findFromB p l k = ((k + j : Nat) : Int) ∧ p (l.getD j 0) = true ∧ ∀ i, i < j → p (l.getD i 0) = false
  | [], k => .inl ⟨rfl, fun j h => by simp at h⟩
  | x :: r, k => by
    unfold findFromB
    by_cases hx : p x = true
    · exact .inr ⟨0, by simp, by simp [hx], by simpa using hx, fun i hi => by omega⟩
    · have hx' : p x = false := by simpa using hx
      rcases findFrom_casesB p r (k + 1) with ⟨h1, h2⟩ | ⟨j, h1, h2, h3, h4⟩
      · refine .inl ⟨by simp [hx', h1], fun j hj => ?_⟩
        cases j with
        | zero => simpa using hx'
        | succ j => simpa using h2 j (by simpa using hj)
      · refine .inr ⟨j + 1, by simpa using h1, by simp [hx', h2]; omega, by simpa using h3, fun i hi => ?_⟩
        cases i with
        | zero => simpa using hx'
        | succ i => simpa using h4 i (by omega)
theorem findI_atB {p : UInt8 → Bool} {l : List UInt8} {j : Nat} (hj : j < l.length) (h1 : p (l.getD j 0) = true) (h0 : ∀ i, i < j → p (l.getD i 0) = false) : findIB p l = j := by
  rcases findFrom_casesB p l 0 with ⟨_, h⟩ | ⟨i, hi, h, h3, h4⟩
  · rw [h j hj] at h1; cases h1
  · unfold findIB
    rw [h]
    have : i = j := by
      rcases Nat.lt_trichotomy i j with hl | he | hg
      · rw [h0 i hl] at h3; cases h3
      · exact he
      · rw [h4 j hg] at h1; cases h1
    simp [this]
theorem findI_noneB {p : UInt8 → Bool} {l : List UInt8} (h0 : ∀ i, i < l.length → p (l.getD i 0) = false) : findIB p l = -1 := by
  rcases findFrom_casesB p l 0 with ⟨h, _⟩ | ⟨i, hi, h, h3, _⟩
  · exact h
  · rw [h0 i hi] at h3; cases h3
theorem findI_geB {p : UInt8 → Bool} {l : List UInt8} : (0 ≤ findIB p l) = (l.any p = true) := by
  rcases findFrom_casesB p l 0 with ⟨h, h0⟩ | ⟨i, hi, h, h3, _⟩
  · unfold findIB; rw [h]
    simp
    intro x hx
    obtain ⟨j, hj, rfl⟩ := List.getElem_of_mem hx
    have := h0 j hj
    simpa [List.getD, hj] using this
  · unfold findIB; rw [h]
    simp only [Nat.zero_add, eq_iff_iff]
    constructor
    · intro _
      rw [List.any_eq_true]
      exact ⟨l.getD i 0, by simp [List.getD, hi], h3⟩
    · intro _; omega

/-- A predicate value: called at any later world it answers p and keeps all that is there. -/
def PredOkB (w : World) (F : Nat) (capt : Array Value) (l : List UInt8) (p : UInt8 → Bool) : Prop :=
  ∀ w1, Keep (fun _ => False) w w1 → ∀ x ∈ l, Calls Tryz.prog F (#[.int .u8 x.toNat] ++ capt) w1 fun e w2 => e = .returned (.bool (p x)) ∧ Keep (fun _ => False) w1 w2

set_option maxHeartbeats 800000 in
set_option maxRecDepth 100000 in
theorem indexFunc_anyB {w : World} {v : Value} {l : List UInt8} {F : Nat} {capt : Array Value} {p : UInt8 → Bool} (hv : Rd w 1 v l.length (bcells l)) (hF : Enters F) (hp : PredOkB w F capt l p) (hl : l.length < 9223372036854775807) :
    Calls Tryz.prog 166 #[v, .func (.func F) #[] capt] w (IdxPost w (.int .i64 (findIB p l))) := by
  obtain ⟨ao, cap, hve, hn, hm, hsp⟩ := hv.shape
  subst hve
  have HV := Lib.hid hv; clear hv
  have HP := Lib.hid hp; clear hp
  clear hsp
  have eF : ∀ (args : Array Value) (w : World), (callFunc F args).run Tryz.prog w = .ok (.enter F args) w := hF
  clear hF
  go_enter Tryz.func166, Tryz.ntmps166
  go_wp2
  go_loopw [8] (fun i wr => ∃ k : Nat, k ≤ l.length ∧ i = .int .i64 k ∧ Keep (fun _ => False) w wr ∧ ∀ j, j < k → p (l.getD j 0) = false) (fun i _ => l.length - (intOf i).toNat)
  case atStart => exact ⟨0, Nat.zero_le _, rfl, Keep.refl _ _, fun j h => by omega⟩
  case round =>
    obtain ⟨k, hk, rfl, hkeep, h0⟩ := hrel
    have HK := Lib.hid hkeep; clear hkeep
    have H0 := Lib.hid h0; clear h0
    by_cases hlt : k < l.length
    · have hrd := HV.out.keep HK.out (fun _ _ h => h)
      obtain ⟨b, o, hao, hcell⟩ : ∃ b o, ao = some ⟨b, o, none⟩ ∧ wr.cell? ⟨b, o + k, none⟩ = some (.int .u8 (l.getD k 0).toNat) := by
        rcases hrd.2.2 with ⟨h, h'⟩ | ⟨b, o, c, h, _, _, hx⟩
        · omega
        · cases h
          exact ⟨b, o, rfl, hx k _ (bcells_get l k hlt)⟩
      subst hao
      have HR := Lib.hid hrd; clear hrd
      have hmem : l[k] ∈ l := by simp
      have HC := Lib.hid (HP.out wr HK.out _ hmem); clear hmem
      have HG := Lib.hid (show l.getD k 0 = l[k] by simp [List.getD, hlt])
      cases hpx : p (l.getD k 0)
      · have HX := Lib.hid hpx; clear hpx
        go_wp2
        refine HC.out.mono ?_
        rintro e w2 ⟨he, hk2⟩
        rw [← HG.out, HX.out] at he
        subst he
        have HK2 := Lib.hid (HK.out.trans hk2 (fun _ _ h => h)); clear hk2
        go_wp2
        go_roundw
        case rel =>
          refine ⟨k + 1, by omega, by go_num, HK2.out, fun j hj => ?_⟩
          by_cases hjk : j = k
          · subst hjk; exact HX.out
          · exact H0.out j (by omega)
        case measure => simp [intOf]; omega
      · have HX := Lib.hid hpx; clear hpx
        go_wp2
        refine HC.out.mono ?_
        rintro e w2 ⟨he, hk2⟩
        rw [← HG.out, HX.out] at he
        subst he
        have HK2 := Lib.hid (HK.out.trans hk2 (fun _ _ h => h)); clear hk2
        go_wp2
        go_ret
        exact ⟨by rw [findI_atB hlt HX.out H0.out]; rfl, HK2.out⟩
    · go_wp2
      go_ret
      exact ⟨by rw [findI_noneB (fun i hi => H0.out i (by omega))]; rfl, HK.out⟩

theorem containsFunc_anyB {w : World} {v : Value} {l : List UInt8} {F : Nat} {capt : Array Value} {p : UInt8 → Bool} (hv : Rd w 1 v l.length (bcells l)) (hF : Enters F) (hp : PredOkB w F capt l p) (hl : l.length < 9223372036854775807) :
    Calls Tryz.prog 137 #[v, .func (.func F) #[] capt] w (IdxPost w (.bool (l.any p))) := by
  have h := Lib.hid (indexFunc_anyB hv hF hp hl)
  have hb : decide (0 ≤ findIB p l) = l.any p := by
    have := findI_geB (p := p) (l := l)
    cases hany : l.any p
    · rw [hany] at this; simp at this; simp; omega
    · rw [hany] at this; simpa using this
  have HB := Lib.hid hb
  clear hv hF hp hb
  go_enter Tryz.func137, Tryz.ntmps137
  go_wp2_with (go_at_call 166; refine h.out.mono ?_; rintro e w1 ⟨rfl, hk⟩; have HK := Lib.hid hk; clear hk)
  go_ret
  exact ⟨by rw [← HB.out]; rfl, HK.out⟩
end Go.Proofs.YthdkamnclbfehaaGreatDoor

/- house: isLine, isSpice. -/
namespace Go.Proofs.YthdkamnclbfehaaGreatDoor
set_option linter.unusedSimpArgs false
set_option linter.unusedVariables false
set_option linter.unnecessarySimpa false
open Go.RowKit

/-- The words between single blanks. -/
def words (s : ByteArray) : List ByteArray := Lib.splitB ⟨#[32]⟩ 0 (Lib.countB s ⟨#[32]⟩) s
def badB (c : UInt8) : Bool := decide (c.toNat < 32) || decide (126 < c.toNat)
def isLineB (s : ByteArray) : Bool := decide (s.size ≤ 200) && (!Lib.containsS (words s) ⟨#[]⟩ && !s.data.toList.any badB)
def badS (c : UInt8) : Bool := decide (c.toNat < 97) || decide (122 < c.toNat)
def isSpiceB (s : ByteArray) : Bool := decide (s.size ≤ 8) && !s.data.toList.any badS

theorem words_length (s : ByteArray) : (words s).length = Lib.countB s ⟨#[32]⟩ + 1 := Lib.splitB_all ⟨#[32]⟩ (by decide) 0 _ s rfl

theorem convCell (w : World) (s : ByteArray) (hs : s.size ≤ 9223372036854775807) : Rd (Lib.bytesWorld w 5 s) 1 (.slice (some ⟨w.heap.size, 0, none⟩) s.size (grownCap w s.size 0 5)) s.data.toList.length (bcells s.data.toList) := by
  have hl : s.data.toList.length = s.size := by simp
  refine ⟨by simp [bcells_length], bcells_one _, .inr ⟨w.heap.size, 0, grownCap w s.size 0 5, by rw [hl], by rw [hl]; exact grownCap_ge _ _ _ _, grownCap_le_maxLen _ _ _ _ (by unfold maxLen; omega), fun j u hu => ?_⟩⟩
  have hj : j < s.data.toList.length := by
    have := (List.getElem?_eq_some_iff.1 hu).1
    rwa [bcells_length] at this
  rw [bcells_get _ _ hj] at hu
  cases hu
  rw [Nat.zero_add]
  exact Lib.bytesWorld_cell w 5 s j (by omega)
theorem convKeep (w : World) (e : TypeId) (s : ByteArray) : Keep (fun _ => False) w (Lib.bytesWorld w e s) := Keep.ofBelow (Lib.bytesWorld_below w e s) _

theorem bad_any (c : Int) (w : World) (h0 : 0 ≤ c) (h1 : c < 256) : Calls Tryz.prog 138 #[.int .u8 c] w fun e w' => e = .returned (.bool (decide (c < 32) || decide (126 < c))) ∧ w = w' := by
  by_cases h : c < 32
  · have hd : decide (c < 32) = true := by simpa using h
    go_enter Tryz.func138, Tryz.ntmps138
    go_wp2
    go_ret
    exact ⟨by rw [hd]; rfl, rfl⟩
  · have hd : decide (c < 32) = false := by simpa using h
    have HD := Lib.hid hd
    go_enter Tryz.func138, Tryz.ntmps138
    go_wp2
    go_ret
    exact ⟨by first | rfl | (rw [HD.out]; rfl), rfl⟩
theorem badS_any (c : Int) (w : World) (h0 : 0 ≤ c) (h1 : c < 256) : Calls Tryz.prog 140 #[.int .u8 c] w fun e w' => e = .returned (.bool (decide (c < 97) || decide (122 < c))) ∧ w = w' := by
  by_cases h : c < 97
  · have hd : decide (c < 97) = true := by simpa using h
    go_enter Tryz.func140, Tryz.ntmps140
    go_wp2
    go_ret
    exact ⟨by rw [hd]; rfl, rfl⟩
  · have hd : decide (c < 97) = false := by simpa using h
    have HD := Lib.hid hd
    go_enter Tryz.func140, Tryz.ntmps140
    go_wp2
    go_ret
    exact ⟨by first | rfl | (rw [HD.out]; rfl), rfl⟩
theorem u8_lt (x : UInt8) : x.toNat < 256 := x.toNat_lt
theorem cont_bad {w : World} {v : Value} {l : List UInt8} (hv : Rd w 1 v l.length (bcells l)) (hl : l.length < 9223372036854775807) :
    Calls Tryz.prog 137 #[v, .func (.func 138) #[] #[]] w (IdxPost w (.bool (l.any badB))) :=
  containsFunc_anyB (p := badB) hv (enters_of Tryz.func138 (by kernel_rfl) rfl) (fun w1 hk x hx => (bad_any x.toNat w1 (by omega) (by have := u8_lt x; omega)).mono fun e w2 h => by
    obtain ⟨he, hw⟩ := h
    subst hw
    refine ⟨?_, Keep.refl _ _⟩
    rw [he]; unfold badB
    rw [show decide ((x.toNat : Int) < 32) = decide (x.toNat < 32) from decide_eq_decide.2 (by omega), show decide ((126 : Int) < x.toNat) = decide (126 < x.toNat) from decide_eq_decide.2 (by omega)]) hl
theorem cont_badS {w : World} {v : Value} {l : List UInt8} (hv : Rd w 1 v l.length (bcells l)) (hl : l.length < 9223372036854775807) :
    Calls Tryz.prog 137 #[v, .func (.func 140) #[] #[]] w (IdxPost w (.bool (l.any badS))) :=
  containsFunc_anyB (p := badS) hv (enters_of Tryz.func140 (by kernel_rfl) rfl) (fun w1 hk x hx => (badS_any x.toNat w1 (by omega) (by have := u8_lt x; omega)).mono fun e w2 h => by
    obtain ⟨he, hw⟩ := h
    subst hw
    refine ⟨?_, Keep.refl _ _⟩
    rw [he]; unfold badS
    rw [show decide ((x.toNat : Int) < 97) = decide (x.toNat < 97) from decide_eq_decide.2 (by omega), show decide ((122 : Int) < x.toNat) = decide (122 < x.toNat) from decide_eq_decide.2 (by omega)]) hl

def SplitPost (w : World) (s : ByteArray) (e : Ending) (w' : World) : Prop :=
  e = .returned (.slice (some ⟨w.heap.size, 0, none⟩) (words s).length (words s).length) ∧ w' = w.alloc (.cells ((words s).map Value.string).toArray 9)
theorem split_any {w : World} {s : ByteArray} (hG : Glob w) (hs : s.size ≤ 4096) : Calls Tryz.prog 101 #[.string s, .string ⟨#[32]⟩] w (SplitPost w s) := by
  obtain ⟨m, hm⟩ := hG.maxlen
  refine (Tryz.strings_Split s ⟨#[32]⟩ m w (by omega) hm (by decide)).mono ?_
  rintro e w' ⟨rfl, rfl⟩
  exact ⟨by rw [words_length], rfl⟩
theorem words_cell (w : World) (s : ByteArray) (j : Nat) (hj : j < (words s).length) : (w.alloc (.cells ((words s).map Value.string).toArray 9)).cell? ⟨w.heap.size, 0 + j, none⟩ = some (.string ((words s).getD j ByteArray.empty)) := by
  rw [Nat.zero_add, World.cell?_alloc_new]
  simp [List.getD, hj]

set_option maxHeartbeats 800000 in
theorem isLine_any {w : World} {s : ByteArray} (hG : Glob w) (hs : s.size ≤ 9223372036854775807) : Calls Tryz.prog 100 #[.string s] w (IdxPost w (.bool (isLineB s))) := by
  have hG' := hG; clear hG
  by_cases h : s.size ≤ 200
  · have hd : decide ((s.size : Int) ≤ 200) = true := decide_eq_true (by omega)
    have hl : (words s).length ≤ 9223372036854775807 := by
      have := Lib.countB_le ⟨#[32]⟩ (by decide) s.size s (Nat.le_refl _)
      rw [words_length]; omega
    have hspl := split_any (s := s) hG' (by omega)
    have hcv := fun W => Lib.run_convert_string_bytes (P := Tryz.prog) W 9 61 5 s Tryz.underlying9 Tryz.underlying61 Tryz.underlying5
    have hcon := Tryz.slices_Contains_string w.heap.size 0 (words s).length (words s).length (words s) ⟨#[]⟩ (w.alloc (.cells ((words s).map Value.string).toArray 9)) (Nat.le_refl _) hl (fun j hj => words_cell w s j hj)
    rw [List.take_length] at hcon
    unfold SplitPost at hspl
    obtain ⟨X, hX⟩ : ∃ X, Obj.cells ((words s).map Value.string).toArray 9 = X := ⟨_, rfl⟩
    rw [hX] at hspl hcon
    have hany := cont_bad (w := Lib.bytesWorld (w.alloc X) 5 s) (convCell (w.alloc X) s hs) (by simp; omega)
    rw [World.size_alloc] at hany
    obtain ⟨z, hz⟩ : ∃ z, s.data.toList.any badB = z := ⟨_, rfl⟩
    rw [hz] at hany
    have HZ := Lib.hid hz; clear hz
    have hkeep : Keep (fun _ => False) w (Lib.bytesWorld (w.alloc X) 5 s) := ((Keep.refl _ _).alloc _).trans (convKeep _ _ _) (fun _ _ h => h)
    have HSPL := Lib.hid hspl
    have HCON := Lib.hid hcon
    have HANY := Lib.hid hany
    have HKEEP := Lib.hid hkeep
    clear hspl hcon hany hkeep hX hl hG'
    cases hc : Lib.containsS (words s) ⟨#[]⟩
    · have HC := Lib.hid hc; clear hc
      have HF := Lib.hid (show isLineB s = !z by unfold isLineB; rw [HC.out, decide_eq_true h, HZ.out]; rfl)
      go_enter Tryz.func100, Tryz.ntmps100
      go_wp2_with (first | (go_at_call 101; refine HSPL.out.mono ?_; rintro e w1 ⟨rfl, rfl⟩) | (go_at_call 136; refine HCON.out.mono ?_; rintro e w1 ⟨he, hw⟩; subst hw; rw [HC.out] at he; subst he) | (go_at_call 137; refine HANY.out.mono ?_; rintro e w1 ⟨rfl, hk⟩; have HK := Lib.hid hk; clear hk))
      go_ret
      exact ⟨by rw [HF.out]; rfl, HKEEP.out.trans HK.out (fun _ _ h => h)⟩
    · have HC := Lib.hid hc; clear hc
      have HF := Lib.hid (show isLineB s = false by unfold isLineB; rw [HC.out]; simp)
      go_enter Tryz.func100, Tryz.ntmps100
      go_wp2_with (first | (go_at_call 101; refine HSPL.out.mono ?_; rintro e w1 ⟨rfl, rfl⟩) | (go_at_call 136; refine HCON.out.mono ?_; rintro e w1 ⟨he, hw⟩; subst hw; rw [HC.out] at he; subst he))
      go_ret
      exact ⟨by rw [HF.out]; rfl, (Keep.refl _ _).alloc _⟩
  · have hd : decide ((s.size : Int) ≤ 200) = false := by simp; omega
    have HF := Lib.hid (show isLineB s = false by unfold isLineB; rw [decide_eq_false h]; rfl)
    clear hG'
    go_enter Tryz.func100, Tryz.ntmps100
    go_wp2
    go_ret
    exact ⟨by rw [HF.out]; rfl, Keep.refl _ _⟩

theorem isSpice_any {w : World} {s : ByteArray} (hs : s.size ≤ 9223372036854775807) : Calls Tryz.prog 102 #[.string s] w (IdxPost w (.bool (isSpiceB s))) := by
  by_cases h : s.size ≤ 8
  · have hd : decide ((s.size : Int) ≤ 8) = true := decide_eq_true (by omega)
    have hcv := fun W => Lib.run_convert_string_bytes (P := Tryz.prog) W 9 61 5 s Tryz.underlying9 Tryz.underlying61 Tryz.underlying5
    have hany := cont_badS (w := Lib.bytesWorld w 5 s) (convCell w s hs) (by simp; omega)
    obtain ⟨z, hz⟩ : ∃ z, s.data.toList.any badS = z := ⟨_, rfl⟩
    rw [hz] at hany
    have HZ := Lib.hid hz; clear hz
    have HANY := Lib.hid hany; clear hany
    have HKEEP := Lib.hid (convKeep w 5 s)
    have HF := Lib.hid (show isSpiceB s = !z by unfold isSpiceB; rw [decide_eq_true h, HZ.out]; rfl)
    go_enter Tryz.func102, Tryz.ntmps102
    go_wp2_with (go_at_call 137; refine HANY.out.mono ?_; rintro e w1 ⟨rfl, hk⟩; have HK := Lib.hid hk; clear hk)
    go_ret
    exact ⟨by rw [HF.out]; rfl, HKEEP.out.trans HK.out (fun _ _ h => h)⟩
  · have hd : decide ((s.size : Int) ≤ 8) = false := by simp; omega
    have HF := Lib.hid (show isSpiceB s = false by unfold isSpiceB; rw [decide_eq_false h]; rfl)
    go_enter Tryz.func102, Tryz.ntmps102
    go_wp2
    go_ret
    exact ⟨by rw [HF.out]; rfl, Keep.refl _ _⟩
end Go.Proofs.YthdkamnclbfehaaGreatDoor

/- strconv.Atoi and Itoa as the laws meet them. -/
namespace Go.Proofs.YthdkamnclbfehaaGreatDoor
set_option linter.unusedSimpArgs false
set_option linter.unusedVariables false
set_option linter.unnecessarySimpa false
open Go.RowKit

def atoiN (s : ByteArray) : Int := match Lib.atoiAll s.data.toList with | .ok v => v | .range => Lib.atoiSat s.data.toList | _ => 0
def atoiOk (s : ByteArray) : Bool := match Lib.atoiAll s.data.toList with | .ok _ => true | _ => false
def errV (b : Bool) (N : Nat) : Value := if b then .nilIface else .iface 259 (.pointer (some ⟨N, 0, none⟩))
def AtoiPost (w : World) (s : ByteArray) (e : Ending) (w' : World) : Prop :=
  ∃ N, e = .returned (.tuple #[.int .i64 (atoiN s), errV (atoiOk s) N]) ∧ Keep (fun _ => False) w w'
theorem atoi_any {w : World} {s : ByteArray} (hG : Glob w) (hs : s.size ≤ 4096) : Calls Tryz.prog 103 #[.string s] w (AtoiPost w s) := by
  rcases h : Lib.atoiAll s.data.toList with v | _ | _
  · refine (Tryz.strconv_Atoi_ok s (by omega) v h w).mono ?_
    rintro e w' ⟨rfl, hw⟩
    refine ⟨0, by simp [atoiN, atoiOk, h, errV], ?_⟩
    rcases hw with rfl | ⟨t, rfl⟩
    · exact Keep.refl _ _
    · exact convKeep _ _ _
  · obtain ⟨ev, h1, h2⟩ := hG.esyn
    refine (Any.strconv_Atoi_syntax Tryz.laysC172 s (by omega) h ev w h1 h2).mono ?_
    rintro e w' ⟨N, rfl, _, _, hk⟩
    exact ⟨N, by unfold atoiN atoiOk errV; rw [h]; rfl, Keep.ofBelow hk _⟩
  · obtain ⟨ev, h1, h2⟩ := hG.eran
    refine (Tryz.strconv_Atoi_range s (by omega) h ev w h1 h2).mono ?_
    rintro e w' ⟨N, rfl, _, _, hk⟩
    exact ⟨N, by simp [atoiN, atoiOk, h, errV], Keep.ofBelow hk _⟩

theorem atoiN_bounds (s : ByteArray) : -9223372036854775808 ≤ atoiN s ∧ atoiN s ≤ 9223372036854775807 := by
  unfold atoiN
  split
  · rename_i h; exact Lib.atoiAll_bounds h
  · exact Lib.atoiSat_bounds _
  · omega
theorem growB (w : World) (k : Nat) (os : Array Obj) : Below w.heap.size w (Sort.grow (w.drewN k) os) :=
  ⟨rfl, rfl, rfl, by simp [Sort.grow], fun i hi => by simp only [Sort.grow]; exact Array.getElem?_append_left hi⟩
/-- The decimal numeral of a number. -/
def itoaB (n : Int) : ByteArray := ⟨(Lib.itoa n).toArray⟩
theorem itoaB_size (n : Int) (h0 : -9223372036854775808 ≤ n) (h1 : n ≤ 9223372036854775807) : (itoaB n).size ≤ 21 := by
  have := Lib.itoa_length_le n h0 h1
  simpa [itoaB, ByteArray.size] using this
def ItoaPost (w : World) (n : Int) (e : Ending) (w' : World) : Prop := e = .returned (.string (itoaB n)) ∧ Keep (fun _ => False) w w'
theorem itoa_any {w : World} {n : Int} (hG : Glob w) (h0 : -9223372036854775808 ≤ n) (h1 : n ≤ 9223372036854775807) : Calls Tryz.prog 96 #[.int .i64 n] w (ItoaPost w n) := by
  refine (Tryz.strconv_Itoa n h0 h1 w hG.pow).mono ?_
  rintro e w' ⟨rfl, k, os, rfl⟩
  exact ⟨rfl, Keep.ofBelow (growB w k os) _⟩
end Go.Proofs.YthdkamnclbfehaaGreatDoor

/- house.state.add. -/
namespace Go.Proofs.YthdkamnclbfehaaGreatDoor
set_option linter.unusedSimpArgs false
set_option linter.unusedVariables false
set_option linter.unnecessarySimpa false
open Go.RowKit
def addS (S : St) (x : Lot) : St := { S with lots := S.lots ++ [x] }
def AddPost (base : Nat) (w : World) (V : StV) (S : St) (x : Lot) (e : Ending) (w' : World) : Prop :=
  ∃ V', e = .returned (.string (⟨#[32]⟩ ++ itoaB ((S.lots.length : Int) + 1))) ∧ OSt base w' V' (addS S x) ∧ Chg base w V V' w'
set_option maxHeartbeats 1000000 in
set_option maxRecDepth 100000 in
theorem add_any {base : Nat} {w : World} {V : StV} {S : St} {x : Lot} (hG : GW base w) (h : OSt base w V S) (hl : S.lots.length ≤ 1000) :
    Calls Tryz.prog 261 #[.pointer (some ⟨V.b, 0, none⟩), .agg #[.string x.spice, .int .i64 x.grams, .int .i64 x.bay, .bool x.closed]] w (AddPost base w V S x) := by
  obtain ⟨b, vb, vl, vc, vt, vn⟩ := V
  obtain ⟨lo, lc, hvl, hlc, _⟩ := ownsRow_shape h.ol
  simp only at hvl
  subst hvl
  have hblt := h.blk.lt
  simp only at hblt
  obtain ⟨w0, hw0⟩ : ∃ w0, w0 = w.alloc (.cells #[.string x.spice, .int .i64 x.grams, .int .i64 x.bay, .bool x.closed] 214) := ⟨_, rfl⟩
  have hk0 : Keep (fun _ => False) w w0 := by rw [hw0]; exact (Keep.refl _ _).alloc _
  have hn0 : Blk w0 w.heap.size #[.string x.spice, .int .i64 x.grams, .int .i64 x.bay, .bool x.closed] 214 := by rw [hw0]; exact Blk.new _ _ _
  have h0 := h.keep hk0 (fun _ _ h => h)
  have hz0 : w0.heap.size = w.heap.size + 1 := by rw [hw0]; simp
  have c1 := h0.blk.cell 1
  have f1 := h0.blk.free 1
  simp [StV.cells] at c1 f1
  have HLB := Lib.hid (fun k e => (h.ol.lt k e).2)
  have HW0 := Lib.hid hw0; clear hw0
  have H0 := Lib.hid h0; clear h0
  have H := Lib.hid h; clear h
  have HK0 := Lib.hid hk0; clear hk0
  have hlot : Hid (∀ W, Keep (fun k => k = b ∨ (Value.slice lo S.lots.length lc).ownBlock = some k) w0 W → W.cell? ⟨w.heap.size, 0, none⟩ = some (.string x.spice) ∧ W.cell? ⟨w.heap.size, 1, none⟩ = some (.int .i64 x.grams) ∧ W.cell? ⟨w.heap.size, 2, none⟩ = some (.int .i64 x.bay) ∧ W.cell? ⟨w.heap.size, 3, none⟩ = some (.bool x.closed)) :=
    Lib.hid fun W hk => by
      have hn := hn0.keep hk (fun e => e.elim (fun e => by omega) (fun e => by have := HLB.out _ e; omega))
      exact ⟨hn.cell 0, hn.cell 1, hn.cell 2, hn.cell 3⟩
  have HKR : Hid (Keep (fun k => k = b ∨ (Value.slice lo S.lots.length lc).ownBlock = some k) w0 w0) := Lib.hid (Keep.refl _ _)
  obtain ⟨w1, hw1⟩ : ∃ w1, w1 = w0.alloc (.cells #[.string x.spice, .int .i64 x.grams, .int .i64 x.bay, .bool x.closed] 214) := ⟨_, rfl⟩
  have hk1 : Keep (fun _ => False) w0 w1 := by rw [hw1]; exact (Keep.refl _ _).alloc _
  have H1 := Lib.hid (H0.out.keep hk1 (fun _ _ h => h))
  have HSRC : Hid (Src Tryz.prog 4 111 (.slice (some ⟨w.heap.size + 1, 0, none⟩) 1 1) 1 (lotCell x) w1.drew) := Lib.hid (by
    have := Rd.new w0 4 1 (lotCell x) 214 rfl (by simp [lotCell, Value.oneCell']) (by unfold maxLen; omega)
    rw [hz0] at this
    rw [hw1]; exact this.drew.src Tryz.underlying111)
  have HK1 := Lib.hid hk1; clear hk1
  have HW1 := Lib.hid hw1; clear hw1
  have hlot1 := (H.out.ol.lt)
  have HOL : Hid (w1.drew.ownsRow base 214 4 (.slice lo S.lots.length lc) S.lots.length (lotCells S.lots)) := Lib.hid H1.out.ol
  go_enter Tryz.func261, Tryz.ntmps261
  go_wp2
  rw [← HW0.out]
  refine wp_region_noPanic ?_
  refine wp_region_held_drew (S := fun W => W.cell? ⟨w.heap.size, 0, none⟩ = some (.string x.spice) ∧ W.cell? ⟨w.heap.size, 1, none⟩ = some (.int .i64 x.grams) ∧ W.cell? ⟨w.heap.size, 2, none⟩ = some (.int .i64 x.bay) ∧ W.cell? ⟨w.heap.size, 3, none⟩ = some (.bool x.closed)) (by kernel_rfl) (hlot.out _ HKR.out.drew) (fun hHeld => ?_)
  refine wpAnyH_take (i := 0) (oi := _) (v := ?_) rfl (by kernel_rfl) (by kernel_rfl) (by kernel_rfl) (fun _ _ _ h => h) (Or.inl ⟨by rfl, ?_⟩) (by assumption) ?_
  rotate_left
  · (intro w hSw; (try dsimp only at hSw); go_simp) <;> with_reducible rfl
  (try simp only [List.getElem_toArray, List.getElem_cons_zero, List.getElem_cons_succ, Act.put, List.setIfInBounds_toArray, List.set_cons_zero, List.set_cons_succ])
  refine wpAnyH_take (i := 1) (oi := _) (v := ?_) rfl (by kernel_rfl) (by kernel_rfl) (by kernel_rfl) (fun _ _ _ h => h) (Or.inl ⟨by rfl, ?_⟩) (by assumption) ?_
  rotate_left
  · (intro w hSw; (try dsimp only at hSw); go_simp) <;> with_reducible rfl
  (try simp only [List.getElem_toArray, List.getElem_cons_zero, List.getElem_cons_succ, Act.put, List.setIfInBounds_toArray, List.set_cons_zero, List.set_cons_succ])
  refine wpAnyH_take (i := 2) (oi := _) (v := ?_) rfl (by kernel_rfl) (by kernel_rfl) (by kernel_rfl) (fun _ _ _ h => h) (Or.inl ⟨by rfl, ?_⟩) (by assumption) ?_
  rotate_left
  · (intro w hSw; (try dsimp only at hSw); go_simp) <;> with_reducible rfl
  (try simp only [List.getElem_toArray, List.getElem_cons_zero, List.getElem_cons_succ, Act.put, List.setIfInBounds_toArray, List.set_cons_zero, List.set_cons_succ])
  refine wpAnyH_take (i := 3) (oi := _) (v := ?_) rfl (by kernel_rfl) (by kernel_rfl) (by kernel_rfl) (fun _ _ _ h => h) (Or.inl ⟨by rfl, ?_⟩) (by assumption) ?_
  rotate_left
  · (intro w hSw; (try dsimp only at hSw); go_simp) <;> with_reducible rfl
  (try simp only [List.getElem_toArray, List.getElem_cons_zero, List.getElem_cons_succ, Act.put, List.setIfInBounds_toArray, List.set_cons_zero, List.set_cons_succ])
  refine wpAnyH_take (i := 5) (oi := _) (v := ?_) rfl (by kernel_rfl) (by kernel_rfl) (by kernel_rfl) (fun _ _ _ h => h) (Or.inl ⟨by rfl, ?_⟩) (by assumption) ?_
  rotate_left
  · (intro w hSw; (try dsimp only at hSw); go_simp) <;> with_reducible rfl
  (try simp only [List.getElem_toArray, List.getElem_cons_zero, List.getElem_cons_succ, Act.put, List.setIfInBounds_toArray, List.set_cons_zero, List.set_cons_succ])
  refine wpAnyH_ready (rs := [4, 6]) (by kernel_rfl) (by simp) ?_
  refine AllReadyH.cons (o := _) rfl (fun K hK => ?_) (AllReadyH.cons (o := _) rfl (fun K hK => ?_) AllReadyH.nil)
  · go_simp
    refine hK.out _ _ ?_ (fun hHeld => ?_)
    · ((try dsimp only); refine hlot.out _ ?_; repeat (first | exact HKR.out | apply Keep.drew | apply Keep.alloc | refine Keep.setCell ?_ _ _ (fun _ => .inl rfl)))
    clear hK K
    (try simp only [List.getElem_toArray, List.getElem_cons_zero, List.getElem_cons_succ, Act.put, List.setIfInBounds_toArray, List.set_cons_zero, List.set_cons_succ])
    refine wpAnyH_ready (rs := [6]) (by kernel_rfl) (by simp) ?_
    refine AllReadyH.cons (o := _) rfl (fun K hK => ?_) AllReadyH.nil
    go_simp
    refine hK.out _ _ ?_ (fun hHeld => ?_)
    · ((try dsimp only); refine hlot.out _ ?_; repeat (first | exact HKR.out | apply Keep.drew | apply Keep.alloc | refine Keep.setCell ?_ _ _ (fun _ => .inl rfl)))
    clear hK K
    (try simp only [List.getElem_toArray, List.getElem_cons_zero, List.getElem_cons_succ, Act.put, List.setIfInBounds_toArray, List.set_cons_zero, List.set_cons_succ])
    refine wpAnyH_ready (rs := [7]) (by kernel_rfl) (by simp) ?_
    refine AllReadyH.cons (o := _) rfl (fun K hK => ?_) AllReadyH.nil
    rw [if_pos (by rfl)]
    rw [← HW1.out]
    refine oper_app (w := w1.drew) (.tmp 9) (.tmp 11) 111 111 rfl 214 zLot 4 40 Tryz.underlying111 info214 rfl HOL.out rfl HSRC.out rfl (by unfold maxLen; omega) (by omega) H1.out.lt (fun v' w7 happ => ?_)
    obtain ⟨ao7, cap7, rfl, _⟩ := ownsRow_shape happ.own
    have HKR := Lib.hid ((HK1.out.drew.mono (fun _ _ h => h.elim)).trans happ.keep (fun _ _ h => .inr h) : Keep (fun k => k = b ∨ (Value.slice lo S.lots.length lc).ownBlock = some k) w0 w7)
    have c1 := (happ.keep.cell (p := ⟨b, 1, none⟩) H1.out.blk.lt H1.out.lne).trans (H1.out.blk.cell 1)
    have f1 := (happ.keep.frozen (p := ⟨b, 1, none⟩) H1.out.blk.lt H1.out.lne).trans (H1.out.blk.free 1)
    simp [StV.cells] at c1
    have HA := Lib.hid happ
    clear happ
    refine hK.out _ _ ?_ (fun hHeld => ?_)
    · ((try dsimp only); refine hlot.out _ ?_; repeat (first | exact HKR.out | apply Keep.drew | apply Keep.alloc | refine Keep.setCell ?_ _ _ (fun _ => .inl rfl)))
    clear hK K
    (try simp only [List.getElem_toArray, List.getElem_cons_zero, List.getElem_cons_succ, Act.put, List.setIfInBounds_toArray, List.set_cons_zero, List.set_cons_succ])
    refine wpAnyH_take (i := 8) (oi := _) (v := ?_) rfl (by kernel_rfl) (by kernel_rfl) (by kernel_rfl) (fun _ _ _ h => h) (Or.inl ⟨by rfl, ?_⟩) (by assumption) ?_
    rotate_left
    · (intro w hSw; (try dsimp only at hSw); go_simp) <;> with_reducible rfl
    (try simp only [List.getElem_toArray, List.getElem_cons_zero, List.getElem_cons_succ, Act.put, List.setIfInBounds_toArray, List.set_cons_zero, List.set_cons_succ])
    refine wpAnyH_take (i := 9) (oi := _) (v := ?_) rfl (by kernel_rfl) (by kernel_rfl) (by kernel_rfl) (fun _ _ _ h => h) (Or.inl ⟨by rfl, ?_⟩) (by assumption) ?_
    rotate_left
    · (intro w hSw; (try dsimp only at hSw); go_simp) <;> with_reducible rfl
    (try simp only [List.getElem_toArray, List.getElem_cons_zero, List.getElem_cons_succ, Act.put, List.setIfInBounds_toArray, List.set_cons_zero, List.set_cons_succ])
    refine wpAnyH_ready (rs := [10]) (by kernel_rfl) (by simp) ?_
    refine AllReadyH.cons (o := _) rfl (fun K hK => ?_) AllReadyH.nil
    go_simp
    refine hK.out _ _ ?_ (fun hHeld => ?_)
    · ((try dsimp only); refine hlot.out _ ?_; repeat (first | exact HKR.out | apply Keep.drew | apply Keep.alloc | refine Keep.setCell ?_ _ _ (fun _ => .inl rfl)))
    clear hK K
    (try simp only [List.getElem_toArray, List.getElem_cons_zero, List.getElem_cons_succ, Act.put, List.setIfInBounds_toArray, List.set_cons_zero, List.set_cons_succ])
    refine wpAnyH_done (by kernel_rfl) ?_ _
    refine NoPanic.normal ?_
    have h7 := (H1.out.keep (Keep.refl (fun _ => False) w1).drew (fun _ _ h => h)).setLots (w1 := w7) (v' := .slice ao7 (S.lots.length + 1) cap7) (ls := S.lots ++ [x]) (HA.out.keep) (by have := HA.out.own; simpa [lotCells, lotCell] using this) HA.out.fresh
    have hk7 : Keep (fun k => k = b ∨ (Value.slice lo S.lots.length lc).ownBlock = some k) w0 (w7.setCell ⟨b, 1, none⟩ (.slice ao7 (S.lots.length + 1) cap7)) := HKR.out.setCell _ _ (fun _ => .inl rfl)
    obtain ⟨w8, hw8⟩ : ∃ w8, w8 = w7.setCell ⟨b, 1, none⟩ (.slice ao7 (S.lots.length + 1) cap7) := ⟨_, rfl⟩
    rw [← hw8] at h7 hk7
    rw [← hw8]
    clear hw8 c1 f1
    have c1 := h7.blk.cell 1
    simp [StV.cells] at c1
    have H7 := Lib.hid h7; clear h7
    have HK7 := Lib.hid hk7; clear hk7
    have HK8 := Lib.hid ((HK0.out.mono (T := fun k => base ≤ k ∧ StV.fp ⟨b, vb, .slice lo S.lots.length lc, vc, vt, vn⟩ k) (fun _ _ h => h.elim)).trans HK7.out (fun k _ e => e.elim (fun e => ⟨e ▸ H.out.ge, .inl e⟩) (fun e => ⟨H.out.fp_ge.1 k e, .inr (.inr (.inl e))⟩)))
    have hit : (9223372036854775807 < 1 + (itoaB ((S.lots.length : Int) + 1)).size) = False := eq_false (by have := itoaB_size ((S.lots.length : Int) + 1) (by omega) (by omega); omega)
    go_wp2_with (go_at_call 96; have hh := itoa_any (w := w8) (n := (S.lots.length : Int) + 1) (hG.keep HK8.out (fun i hi e => by have := e.1; omega)).glob (by omega) (by omega); refine Calls.mono hh ?_; clear hh; rintro e w9 ⟨rfl, hk9⟩; have HK9 := Lib.hid hk9; clear hk9)
    go_ret
    refine ⟨_, rfl, H7.out.keep HK9.out (fun _ _ h => h), rfl, rfl, fun k hk => ?_, HK8.out.trans HK9.out (fun _ _ h => h.elim)⟩
    rcases hk with e | e | e | e
    · exact .inl (.inl e)
    · exact .inl (.inr (.inl e))
    · rcases HA.out.fresh with h1 | ⟨g, h1, h2⟩
      · exact .inl (.inr (.inr (.inl (h1.symm.trans e))))
      · have h3 : g = k := Option.some.inj (h1.symm.trans e)
        have h4 := HK1.out.size
        have h5 := HK0.out.size
        have h6 : w1.heap.size ≤ g := h2
        exact .inr (by omega)
    · exact .inl (.inr (.inr (.inr e)))
  · go_simp
    refine hK.out _ _ ?_ (fun hHeld => ?_)
    · ((try dsimp only); refine hlot.out _ ?_; repeat (first | exact HKR.out | apply Keep.drew | apply Keep.alloc | refine Keep.setCell ?_ _ _ (fun _ => .inl rfl)))
    clear hK K
    (try simp only [List.getElem_toArray, List.getElem_cons_zero, List.getElem_cons_succ, Act.put, List.setIfInBounds_toArray, List.set_cons_zero, List.set_cons_succ])
    refine wpAnyH_ready (rs := [4]) (by kernel_rfl) (by simp) ?_
    refine AllReadyH.cons (o := _) rfl (fun K hK => ?_) AllReadyH.nil
    go_simp
    refine hK.out _ _ ?_ (fun hHeld => ?_)
    · ((try dsimp only); refine hlot.out _ ?_; repeat (first | exact HKR.out | apply Keep.drew | apply Keep.alloc | refine Keep.setCell ?_ _ _ (fun _ => .inl rfl)))
    clear hK K
    (try simp only [List.getElem_toArray, List.getElem_cons_zero, List.getElem_cons_succ, Act.put, List.setIfInBounds_toArray, List.set_cons_zero, List.set_cons_succ])
    refine wpAnyH_ready (rs := [7]) (by kernel_rfl) (by simp) ?_
    refine AllReadyH.cons (o := _) rfl (fun K hK => ?_) AllReadyH.nil
    rw [if_pos (by rfl)]
    rw [← HW1.out]
    refine oper_app (w := w1.drew) (.tmp 9) (.tmp 11) 111 111 rfl 214 zLot 4 40 Tryz.underlying111 info214 rfl HOL.out rfl HSRC.out rfl (by unfold maxLen; omega) (by omega) H1.out.lt (fun v' w7 happ => ?_)
    obtain ⟨ao7, cap7, rfl, _⟩ := ownsRow_shape happ.own
    have HKR := Lib.hid ((HK1.out.drew.mono (fun _ _ h => h.elim)).trans happ.keep (fun _ _ h => .inr h) : Keep (fun k => k = b ∨ (Value.slice lo S.lots.length lc).ownBlock = some k) w0 w7)
    have c1 := (happ.keep.cell (p := ⟨b, 1, none⟩) H1.out.blk.lt H1.out.lne).trans (H1.out.blk.cell 1)
    have f1 := (happ.keep.frozen (p := ⟨b, 1, none⟩) H1.out.blk.lt H1.out.lne).trans (H1.out.blk.free 1)
    simp [StV.cells] at c1
    have HA := Lib.hid happ
    clear happ
    refine hK.out _ _ ?_ (fun hHeld => ?_)
    · ((try dsimp only); refine hlot.out _ ?_; repeat (first | exact HKR.out | apply Keep.drew | apply Keep.alloc | refine Keep.setCell ?_ _ _ (fun _ => .inl rfl)))
    clear hK K
    (try simp only [List.getElem_toArray, List.getElem_cons_zero, List.getElem_cons_succ, Act.put, List.setIfInBounds_toArray, List.set_cons_zero, List.set_cons_succ])
    refine wpAnyH_take (i := 8) (oi := _) (v := ?_) rfl (by kernel_rfl) (by kernel_rfl) (by kernel_rfl) (fun _ _ _ h => h) (Or.inl ⟨by rfl, ?_⟩) (by assumption) ?_
    rotate_left
    · (intro w hSw; (try dsimp only at hSw); go_simp) <;> with_reducible rfl
    (try simp only [List.getElem_toArray, List.getElem_cons_zero, List.getElem_cons_succ, Act.put, List.setIfInBounds_toArray, List.set_cons_zero, List.set_cons_succ])
    refine wpAnyH_take (i := 9) (oi := _) (v := ?_) rfl (by kernel_rfl) (by kernel_rfl) (by kernel_rfl) (fun _ _ _ h => h) (Or.inl ⟨by rfl, ?_⟩) (by assumption) ?_
    rotate_left
    · (intro w hSw; (try dsimp only at hSw); go_simp) <;> with_reducible rfl
    (try simp only [List.getElem_toArray, List.getElem_cons_zero, List.getElem_cons_succ, Act.put, List.setIfInBounds_toArray, List.set_cons_zero, List.set_cons_succ])
    refine wpAnyH_ready (rs := [10]) (by kernel_rfl) (by simp) ?_
    refine AllReadyH.cons (o := _) rfl (fun K hK => ?_) AllReadyH.nil
    go_simp
    refine hK.out _ _ ?_ (fun hHeld => ?_)
    · ((try dsimp only); refine hlot.out _ ?_; repeat (first | exact HKR.out | apply Keep.drew | apply Keep.alloc | refine Keep.setCell ?_ _ _ (fun _ => .inl rfl)))
    clear hK K
    (try simp only [List.getElem_toArray, List.getElem_cons_zero, List.getElem_cons_succ, Act.put, List.setIfInBounds_toArray, List.set_cons_zero, List.set_cons_succ])
    refine wpAnyH_done (by kernel_rfl) ?_ _
    refine NoPanic.normal ?_
    have h7 := (H1.out.keep (Keep.refl (fun _ => False) w1).drew (fun _ _ h => h)).setLots (w1 := w7) (v' := .slice ao7 (S.lots.length + 1) cap7) (ls := S.lots ++ [x]) (HA.out.keep) (by have := HA.out.own; simpa [lotCells, lotCell] using this) HA.out.fresh
    have hk7 : Keep (fun k => k = b ∨ (Value.slice lo S.lots.length lc).ownBlock = some k) w0 (w7.setCell ⟨b, 1, none⟩ (.slice ao7 (S.lots.length + 1) cap7)) := HKR.out.setCell _ _ (fun _ => .inl rfl)
    obtain ⟨w8, hw8⟩ : ∃ w8, w8 = w7.setCell ⟨b, 1, none⟩ (.slice ao7 (S.lots.length + 1) cap7) := ⟨_, rfl⟩
    rw [← hw8] at h7 hk7
    rw [← hw8]
    clear hw8 c1 f1
    have c1 := h7.blk.cell 1
    simp [StV.cells] at c1
    have H7 := Lib.hid h7; clear h7
    have HK7 := Lib.hid hk7; clear hk7
    have HK8 := Lib.hid ((HK0.out.mono (T := fun k => base ≤ k ∧ StV.fp ⟨b, vb, .slice lo S.lots.length lc, vc, vt, vn⟩ k) (fun _ _ h => h.elim)).trans HK7.out (fun k _ e => e.elim (fun e => ⟨e ▸ H.out.ge, .inl e⟩) (fun e => ⟨H.out.fp_ge.1 k e, .inr (.inr (.inl e))⟩)))
    have hit : (9223372036854775807 < 1 + (itoaB ((S.lots.length : Int) + 1)).size) = False := eq_false (by have := itoaB_size ((S.lots.length : Int) + 1) (by omega) (by omega); omega)
    go_wp2_with (go_at_call 96; have hh := itoa_any (w := w8) (n := (S.lots.length : Int) + 1) (hG.keep HK8.out (fun i hi e => by have := e.1; omega)).glob (by omega) (by omega); refine Calls.mono hh ?_; clear hh; rintro e w9 ⟨rfl, hk9⟩; have HK9 := Lib.hid hk9; clear hk9)
    go_ret
    refine ⟨_, rfl, H7.out.keep HK9.out (fun _ _ h => h), rfl, rfl, fun k hk => ?_, HK8.out.trans HK9.out (fun _ _ h => h.elim)⟩
    rcases hk with e | e | e | e
    · exact .inl (.inl e)
    · exact .inl (.inr (.inl e))
    · rcases HA.out.fresh with h1 | ⟨g, h1, h2⟩
      · exact .inl (.inr (.inr (.inl (h1.symm.trans e))))
      · have h3 : g = k := Option.some.inj (h1.symm.trans e)
        have h4 := HK1.out.size
        have h5 := HK0.out.size
        have h6 : w1.heap.size ≤ g := h2
        exact .inr (by omega)
    · exact .inl (.inr (.inr (.inr e)))
end Go.Proofs.YthdkamnclbfehaaGreatDoor

/- house.form: what a change says. -/
namespace Go.Proofs.YthdkamnclbfehaaGreatDoor
set_option linter.unusedSimpArgs false
set_option linter.unusedVariables false
set_option linter.unnecessarySimpa false
open Go.RowKit

/-- Numbers, the other word, and whether all is well. -/
structure FA where
  n : List Int
  word : ByteArray
  ok : Bool
def goodB : ByteArray := bs [103, 111, 111, 100]
def badBs : ByteArray := bs [98, 97, 100]
def stepF (a : FA) (p : UInt8 × ByteArray) : FA :=
  if p.1 = 115 then ⟨a.n, p.2, a.ok && isSpiceB p.2⟩
  else if p.1 = 116 then ⟨a.n, p.2, a.ok && (decide (p.2 = goodB) || decide (p.2 = badBs))⟩
  else ⟨a.n ++ [atoiN p.2], a.word, a.ok && atoiOk p.2 && decide (p.2.size ≤ 6) && decide (0 ≤ atoiN p.2) && decide (itoaB (atoiN p.2) = p.2)⟩
def foldF (so : List UInt8) (ws : List ByteArray) : FA := (so.zip ws).foldl stepF ⟨[], bs [], true⟩
/-- The command's sorts and function, and the fold; none if it is no change in form and number of words. -/
def formF (s : ByteArray) : Option (List UInt8 × Nat × FA) :=
  if isLineB s then
    match chF ((words s).headD (bs [])).data.toList with
    | some (so, f) => if (words s).length - 1 = so.length then some (so, f, foldF so (words s).tail) else none
    | none => none
  else none
def FormPost (w : World) (s : ByteArray) (e : Ending) (w' : World) : Prop :=
  match formF s with
  | none => e = .returned (.tuple #[.agg #[.string (bs []), .nilFunc], .agg #[.slice none 0 0, .string (bs [])], .bool false]) ∧ Keep (fun _ => False) w w'
  | some (so, f, a) => ∃ vn, e = .returned (.tuple #[.agg #[.string (bs so), .func (.func f) #[] #[]], .agg #[vn, .string a.word], .bool a.ok]) ∧ w'.ownsRow w.heap.size 3 1 vn a.n.length (icells a.n) ∧ Keep (fun _ => False) w w'

@[go_sem] theorem run_store_nilFunc (P : Program) (w : World) (a : Addr) (m : Mode) : (store a .nilFunc m).run P w = stored P w a .nilFunc m := run_store P w a _ m rfl
@[go_sem] theorem run_store_func (P : Program) (w : World) (a : Addr) (m : Mode) (f : Fn) (x y : Array Value) : (store a (.func f x y) m).run P w = stored P w a (.func f x y) m := run_store P w a _ m rfl
theorem info132 : (Tryz.prog.info? 132).map (fun i => i.size) = some 2 := by kernel_rfl
theorem info134 : (Tryz.prog.info? 134).map (fun i => i.size) = some 2 := by kernel_rfl
theorem form_results (tmps : Array Value) (w : World) {b1 b2 : Nat} {v0 v1 u0 u1 ok : Value} (h2 : tmps[2]?.getD undef = .pointer (some ⟨b1, 0, none⟩)) (h3 : tmps[3]?.getD undef = .pointer (some ⟨b2, 0, none⟩)) (h4 : tmps[4]?.getD undef = ok)
    (c0 : w.cell? ⟨b1, 0, none⟩ = some v0) (c1 : w.cell? ⟨b1, 1, none⟩ = some v1) (d0 : w.cell? ⟨b2, 0, none⟩ = some u0) (d1 : w.cell? ⟨b2, 1, none⟩ = some u1) :
    (results Tryz.f71 tmps).run Tryz.prog w = .ok (.tuple #[.agg #[v0, v1], .agg #[u0, u1], ok]) w := by
  have hr : Tryz.f71.results = #[.cell 2 132, .cell 3 134, .tmp 4] := by kernel_rfl
  unfold results
  rw [hr]
  simp [h2, h3, h4, go_sem, c0, c1, d0, d1]
  try simp [go_sem, c0, c1, d0, d1, Result.andThen]
theorem form_back {R : Ending → World → Prop} {a : Act} {w1 : World} {b1 b2 : Nat} {c1 c2 : Array Value} {v0 v1 u0 u1 ok : Value} (B1 : Blk w1 b1 c1 132) (B2 : Blk w1 b2 c2 134) (s1 : c1.size = 2) (s2 : c2.size = 2) (hne : b1 ≠ b2)
    (h2 : a.tmps[2]?.getD undef = .pointer (some ⟨b1, 0, none⟩)) (h3 : a.tmps[3]?.getD undef = .pointer (some ⟨b2, 0, none⟩)) (h4 : a.tmps[4]?.getD undef = ok) (hd : a.defers = [])
    (hR : ∀ wf, Keep (fun k => k = b1 ∨ k = b2) w1 wf → R (.returned (.tuple #[.agg #[v0, v1], .agg #[u0, u1], ok])) wf) :
    bodyPost Tryz.prog Tryz.f71 R .ret a ((((w1.setCell ⟨b1, 0, none⟩ v0).setCell ⟨b1, 1, none⟩ v1).setCell ⟨b2, 0, none⟩ u0).setCell ⟨b2, 1, none⟩ u1) := by
  have D1 := (((B1.set 0 v0).set 1 v1).setOther ⟨b2, 0, none⟩ u0 hne).setOther ⟨b2, 1, none⟩ u1 hne
  have D2 := (((B2.setOther ⟨b1, 0, none⟩ v0 (fun h => hne h.symm)).setOther ⟨b1, 1, none⟩ v1 (fun h => hne h.symm)).set 0 u0).set 1 u1
  refine bodyPost_ret (form_results _ _ h2 h3 h4 ((D1.cell 0).trans ?_) ((D1.cell 1).trans ?_) ((D2.cell 0).trans ?_) ((D2.cell 1).trans ?_)) hd (hR _ ?_)
  · simp [s1]
  · simp [s1]
  · simp [s2]
  · simp [s2]
  · exact ((((Keep.refl _ _).setCell _ _ (fun _ => .inl rfl)).setCell _ _ (fun _ => .inl rfl)).setCell _ _ (fun _ => .inr rfl)).setCell _ _ (fun _ => .inr rfl)

theorem form_backd {R : Ending → World → Prop} {a : Act} {w1 : World} {b1 b2 : Nat} {c1 c2 : Array Value} {v0 v1 u0 u1 ok : Value} (B1 : Blk w1 b1 c1 132) (B2 : Blk w1 b2 c2 134) (s1 : c1.size = 2) (s2 : c2.size = 2) (hne : b1 ≠ b2)
    (h2 : a.tmps[2]?.getD undef = .pointer (some ⟨b1, 0, none⟩)) (h3 : a.tmps[3]?.getD undef = .pointer (some ⟨b2, 0, none⟩)) (h4 : a.tmps[4]?.getD undef = ok) (hd : a.defers = [])
    (hR : ∀ wf, Keep (fun k => k = b1 ∨ k = b2) w1 wf → R (.returned (.tuple #[.agg #[v0, v1], .agg #[u0, u1], ok])) wf) :
    bodyPost Tryz.prog Tryz.f71 R .ret a ((((w1.setCell ⟨b1, 0, none⟩ v0).setCell ⟨b1, 1, none⟩ v1).setCell ⟨b2, 0, none⟩ u0).setCell ⟨b2, 1, none⟩ u1).drew := by
  have D1 := (((B1.set 0 v0).set 1 v1).setOther ⟨b2, 0, none⟩ u0 hne).setOther ⟨b2, 1, none⟩ u1 hne
  have D2 := (((B2.setOther ⟨b1, 0, none⟩ v0 (fun h => hne h.symm)).setOther ⟨b1, 1, none⟩ v1 (fun h => hne h.symm)).set 0 u0).set 1 u1
  refine bodyPost_ret (form_results _ _ h2 h3 h4 ((D1.drew.cell 0).trans ?_) ((D1.drew.cell 1).trans ?_) ((D2.drew.cell 0).trans ?_) ((D2.drew.cell 1).trans ?_)) hd (hR _ ?_)
  · simp [s1]
  · simp [s1]
  · simp [s2]
  · simp [s2]
  · exact (((((Keep.refl _ _).setCell _ _ (fun _ => .inl rfl)).setCell _ _ (fun _ => .inl rfl)).setCell _ _ (fun _ => .inr rfl)).setCell _ _ (fun _ => .inr rfl)).drew

theorem toList_bs (s : ByteArray) (l : List UInt8) : s.toList = l ↔ s = bs l := by
  rw [ByteArray.toList_eq]
  constructor
  · intro h
    exact ByteArray.ext (by rw [← h]; rfl)
  · intro h; rw [h]; rfl
theorem beq_dec (s t : ByteArray) : (s.toList == t.toList) = decide (s = t) := by
  by_cases h : s = t
  · rw [h]; simp
  · rw [decide_eq_false h]
    exact beq_eq_false_iff_ne.2 (fun h' => h (by rw [ByteArray.toList_eq, ByteArray.toList_eq] at h'; exact ByteArray.ext (Array.toList_inj.1 h')))
theorem chF_len {s so : List UInt8} {f : Nat} (h : chF s = some (so, f)) : 1 ≤ so.length ∧ so.length ≤ 3 := by
  unfold chF at h
  repeat' split at h
  all_goals first | (cases h; simp; done) | (cases h)
theorem splitB_size (sep : ByteArray) (save : Nat) : ∀ (k : Nat) (s : ByteArray), ∀ x ∈ Lib.splitB sep save k s, x.size ≤ s.size := by
  intro k
  induction k with
  | zero => intro s x hx; simp [Lib.splitB] at hx; rw [hx]; exact Nat.le_refl _
  | succ k ih =>
    intro s x hx
    unfold Lib.splitB at hx
    split at hx
    · simp at hx; rw [hx]; exact Nat.le_refl _
    · rcases List.mem_cons.1 hx with h | h
      · rw [h, ByteArray.size_extract]; omega
      · have := ih _ x h
        rw [ByteArray.size_extract] at this; omega
theorem word_size {s : ByteArray} {j : Nat} (hj : j < (words s).length) : ((words s).getD j ByteArray.empty).size ≤ s.size := by
  have e : (words s).getD j ByteArray.empty = (words s)[j] := by simp [List.getD, hj]
  rw [e]
  exact splitB_size _ _ _ _ _ (List.getElem_mem hj)
def SplitPost2 (w0 w1 : World) (s : ByteArray) (bm : Nat) (e : Ending) (w2 : World) : Prop :=
  e = .returned (.slice (some ⟨w1.heap.size, 0, none⟩) (words s).length (words s).length) ∧ Keep (fun _ => False) w0 w2 ∧ w2.cell? ⟨0, 0, none⟩ = some (.map (some bm)) ∧
  (∀ j, j < (words s).length → w2.cell? ⟨w1.heap.size, j, none⟩ = some (.string ((words s).getD j ByteArray.empty))) ∧
  (∀ W, Keep (fun _ => False) w2 W → (Instr.lookup 182 (.map (some bm)) (.string ((words s).getD 0 ByteArray.empty)) true).run Tryz.prog W = .ok (.tuple #[chV ((words s).getD 0 ByteArray.empty).data.toList, .bool (chF ((words s).getD 0 ByteArray.empty).data.toList).isSome]) W)

theorem split2_any {w w0 w1 : World} {s : ByteArray} {bm : Nat} (hG : Glob w) (hk0 : Keep (fun _ => False) w w0) (hk1 : Keep (fun _ => False) w0 w1) (hs : s.size ≤ 4096) (hm : w.cell? ⟨0, 0, none⟩ = some (.map (some bm))) (hbm : bm < w.heap.size) (hch : ChAt bm w.heap[bm]?) :
    Calls Tryz.prog 101 #[.string s, .string ⟨#[32]⟩] w1 (SplitPost2 w0 w1 s bm) := by
  have hk := hk0.trans hk1 (fun _ _ h => h)
  refine (split_any (hG.keep hk) hs).mono ?_
  rintro e w2 ⟨rfl, rfl⟩
  have h9 := hG.size
  refine ⟨rfl, hk1.alloc _, ?_, fun j hj => ?_, fun W hW => ?_⟩
  · rw [((hk.alloc _).cell (p := ⟨0, 0, none⟩) (show 0 < w.heap.size by omega) (fun h => h))]; exact hm
  · have := words_cell w1 s j hj
    rwa [Nat.zero_add] at this
  · have h1 : 0 < (words s).length := by rw [words_length]; omega
    exact hch W (((hk.alloc _).trans hW (fun _ _ h => h)).block bm hbm (fun h => h)) _ (Nat.le_trans (word_size h1) hs)

set_option maxHeartbeats 6000000 in
set_option maxRecDepth 100000 in
theorem form_any {w : World} {s : ByteArray} (hG : Glob w) (hs : s.size ≤ 9223372036854775807) : Calls Tryz.prog 71 #[.string s] w (FormPost w s) := by
  obtain ⟨w0, hw0⟩ : ∃ w0, w0 = (w.alloc (.cells #[.string ⟨#[]⟩, .nilFunc] 132)).alloc (.cells #[.slice none 0 0, .string ⟨#[]⟩] 134) := ⟨_, rfl⟩
  have hk0 : Keep (fun _ => False) w w0 := by rw [hw0]; exact ((Keep.refl _ _).alloc _).alloc _
  have hn1 : Blk w0 w.heap.size #[.string ⟨#[]⟩, .nilFunc] 132 := by rw [hw0]; exact (Blk.new _ _ _).alloc _
  have hn2 : Blk w0 (w.heap.size + 1) #[.slice none 0 0, .string ⟨#[]⟩] 134 := by
    rw [hw0]; have := Blk.new (w.alloc (.cells #[.string ⟨#[]⟩, .nilFunc] 132)) #[.slice none 0 0, .string ⟨#[]⟩] 134
    rwa [World.size_alloc] at this
  have HR : Hid (∀ W, Keep (fun _ => False) w0 W → (W.cell? ⟨w.heap.size, 0, none⟩ = some (.string ⟨#[]⟩) ∧ W.cell? ⟨w.heap.size, 1, none⟩ = some .nilFunc ∧ W.cell? ⟨w.heap.size + 1, 0, none⟩ = some (.slice none 0 0) ∧ W.cell? ⟨w.heap.size + 1, 1, none⟩ = some (.string ⟨#[]⟩)) ∧
      W.frozen? ⟨w.heap.size, 0, none⟩ = false ∧ W.frozen? ⟨w.heap.size, 1, none⟩ = false ∧ W.frozen? ⟨w.heap.size + 1, 0, none⟩ = false ∧ W.frozen? ⟨w.heap.size + 1, 1, none⟩ = false) := Lib.hid fun W hk =>
    ⟨⟨((hn1.keep hk (fun h => h)).cell 0), ((hn1.keep hk (fun h => h)).cell 1), ((hn2.keep hk (fun h => h)).cell 0), ((hn2.keep hk (fun h => h)).cell 1)⟩,
      ((hn1.keep hk (fun h => h)).free 0), ((hn1.keep hk (fun h => h)).free 1), ((hn2.keep hk (fun h => h)).free 0), ((hn2.keep hk (fun h => h)).free 1)⟩
  have HL := Lib.hid (isLine_any (w := w0) (s := s) (hG.keep hk0) hs)
  have HG := Lib.hid hG; clear hG
  have HW0 := Lib.hid hw0; clear hw0
  have HK0 := Lib.hid hk0; clear hk0
  cases hl : isLineB s with
  | false =>
    have HF := Lib.hid (show formF s = none by unfold formF; rw [hl]; rfl)
    rw [hl] at HL; clear hl
    go_enter Tryz.func71, Tryz.ntmps71
    go_wp2_with (go_at_call 100; rw [← HW0.out]; refine HL.out.mono ?_; rintro e w1 ⟨rfl, hk1⟩; obtain ⟨⟨r0, r1, r2, r3⟩, g0, g1, g2, g3⟩ := HR.out w1 hk1; have HK1 := Lib.hid hk1; clear hk1)
    (try simp only [Exit.inBlock, Exit.then])
    refine form_back (hn1.keep HK1.out (fun h => h)) (hn2.keep HK1.out (fun h => h)) rfl rfl (by omega) rfl rfl rfl rfl (fun wf hkf => ?_)
    show FormPost _ _ _ _
    unfold FormPost
    rw [HF.out]
    exact ⟨rfl, (HK0.out.trans HK1.out (fun _ _ h => h)).trans hkf (fun k hk e => by omega)⟩
  | true =>
    have hs2 : s.size ≤ 200 := by unfold isLineB at hl; simp at hl; exact hl.1
    obtain ⟨bm, hm, hbm, hch⟩ := HG.out.changes
    have HSPL : Hid (∀ w1, Keep (fun _ => False) w0 w1 → Calls Tryz.prog 101 #[.string s, .string ⟨#[32]⟩] w1 (SplitPost2 w0 w1 s bm)) := Lib.hid fun w1 hk1 => split2_any HG.out HK0.out hk1 (by omega) hm hbm hch
    clear hm hbm hch
    have hL1 : 1 ≤ (words s).length := by rw [words_length]; omega
    have hL2 : (words s).length ≤ 201 := by
      have := Lib.countB_le ⟨#[32]⟩ (by decide) s.size s (Nat.le_refl _)
      rw [words_length]; omega
    unfold SplitPost2 at HSPL
    have HFX := Lib.hid (show formF s = match chF ((words s).getD 0 ByteArray.empty).data.toList with
      | some (so, f) => if (words s).length - 1 = so.length then some (so, f, foldF so (words s).tail) else none
      | none => none by unfold formF; rw [hl]; rw [if_pos rfl]; cases hw : words s with | nil => rw [hw] at hL1; exact absurd hL1 (by simp) | cons a b => rfl)
    rw [hl] at HL; clear hl
    obtain ⟨ws, hws⟩ : ∃ ws, words s = ws := ⟨_, rfl⟩
    rw [hws] at HSPL hL1 hL2 HFX
    have HWS := Lib.hid hws; clear hws
    obtain ⟨hd, hhd⟩ : ∃ hd, ws.getD 0 ByteArray.empty = hd := ⟨_, rfl⟩
    have HHD := Lib.hid hhd
    have HN1 := Lib.hid hn1; clear hn1
    have HN2 := Lib.hid hn2; clear hn2
    cases hc : chF hd.data.toList with
    | none =>
      have HF := Lib.hid (show formF s = none by rw [HFX.out, hhd, hc])
      rw [hhd] at HSPL
      have hcv : chV hd.data.toList = .agg #[.string ⟨#[]⟩, .nilFunc] := by unfold chV; rw [hc]; rfl
      rw [hc, hcv] at HSPL
      clear hc hhd hcv
      go_enter Tryz.func71, Tryz.ntmps71
      go_wp2_with (first
        | (go_at_call 100; rw [← HW0.out]; refine HL.out.mono ?_; rintro e w1 ⟨rfl, hk1⟩; have HK1 := Lib.hid hk1; clear hk1)
        | (go_at_call 101; refine (HSPL.out w1 HK1.out).mono ?_; rintro e w2 ⟨rfl, hk2, cg, cw, hlk⟩; have HK2 := Lib.hid hk2; clear hk2; have cw0 := cw 0 (by omega); rw [HHD.out] at cw0; have HLK := Lib.hid hlk; (try rw [HHD.out] at HLK); clear hlk; have HCW := Lib.hid cw; clear cw; obtain ⟨⟨r0, r1, r2, r3⟩, g0, g1, g2, g3⟩ := HR.out w2 HK2.out))
      have hz2 : w1.heap.size < w2.heap.size := by
        have := World.block_lt_of_cell? w2 _ cw0
        exact this
      have h9 := HG.out.size
      have hz1 := HK1.out.size
      have hz0 := HK0.out.size
      have HS : Hid (∀ W, Keep (fun k => k = w2.heap.size) w2 W → W.cell? ⟨0, 0, none⟩ = some (.map (some bm)) ∧ W.cell? ⟨w1.heap.size, 0, none⟩ = some (.string hd) ∧ (Instr.lookup 182 (.map (some bm)) (.string hd) true).run Tryz.prog W = .ok (.tuple #[.agg #[.string ⟨#[]⟩, .nilFunc], .bool false]) W) := Lib.hid fun W hk => by
        have hk' : Keep (fun _ => False) w2 W := hk.mono (fun k h1 h2 => by omega)
        exact ⟨(hk'.cell (p := ⟨0, 0, none⟩) (show 0 < w2.heap.size by omega) (fun h => h)).trans cg, (hk'.cell (p := ⟨w1.heap.size, 0, none⟩) hz2 (fun h => h)).trans cw0, by rw [HLK.out W hk']; rfl⟩
      refine wp_region_held_drew (S := fun W => W.cell? ⟨0, 0, none⟩ = some (.map (some bm)) ∧ W.cell? ⟨w1.heap.size, 0, none⟩ = some (.string hd) ∧ (Instr.lookup 182 (.map (some bm)) (.string hd) true).run Tryz.prog W = .ok (.tuple #[.agg #[.string ⟨#[]⟩, .nilFunc], .bool false]) W) (by kernel_rfl) (HS.out _ (Keep.refl _ _).drew) (fun hHeld => ?_)
      have hL0 : 0 < ws.length := hL1
      refine wpAnyH_take (i := 0) (oi := _) (v := ?_) rfl (by kernel_rfl) (by kernel_rfl) (by kernel_rfl) (fun _ _ _ h => h) (Or.inl ⟨by rfl, ?_⟩) (by assumption) ?_
      rotate_left
      · (intro w hSw; (try dsimp only at hSw); go_simp) <;> with_reducible rfl
      (try simp only [List.getElem_toArray, List.getElem_cons_zero, List.getElem_cons_succ, Act.put, List.setIfInBounds_toArray, List.set_cons_zero, List.set_cons_succ])
      refine wpAnyH_take (i := 1) (oi := _) (v := ?_) rfl (by kernel_rfl) (by kernel_rfl) (by kernel_rfl) (fun _ _ _ h => h) (Or.inl ⟨by rfl, ?_⟩) (by assumption) ?_
      rotate_left
      · (intro w hSw; (try dsimp only at hSw); go_simp) <;> with_reducible rfl
      (try simp only [List.getElem_toArray, List.getElem_cons_zero, List.getElem_cons_succ, Act.put, List.setIfInBounds_toArray, List.set_cons_zero, List.set_cons_succ])
      refine wpAnyH_take (i := 2) (oi := _) (v := ?_) rfl (by kernel_rfl) (by kernel_rfl) (by kernel_rfl) (fun _ _ _ h => h) (Or.inl ⟨by rfl, ?_⟩) (by assumption) ?_
      rotate_left
      · (intro w hSw; (try dsimp only at hSw); go_simp) <;> with_reducible rfl
      (try simp only [List.getElem_toArray, List.getElem_cons_zero, List.getElem_cons_succ, Act.put, List.setIfInBounds_toArray, List.set_cons_zero, List.set_cons_succ])
      refine wpAnyH_take (i := 3) (oi := _) (v := ?_) rfl (by kernel_rfl) (by kernel_rfl) (by kernel_rfl) (fun _ _ _ h => h) (Or.inl ⟨by rfl, ?_⟩) (by assumption) ?_
      rotate_left
      · (intro w hSw; (try dsimp only at hSw); go_simp) <;> with_reducible rfl
      (try simp only [List.getElem_toArray, List.getElem_cons_zero, List.getElem_cons_succ, Act.put, List.setIfInBounds_toArray, List.set_cons_zero, List.set_cons_succ])
      refine wpAnyH_take (i := 4) (oi := _) (v := ?_) rfl (by kernel_rfl) (by kernel_rfl) (by kernel_rfl) (fun _ _ _ h => h) (Or.inl ⟨by rfl, ?_⟩) (by assumption) ?_
      rotate_left
      · (intro w hSw; (try dsimp only at hSw); go_simp) <;> with_reducible rfl
      (try simp only [List.getElem_toArray, List.getElem_cons_zero, List.getElem_cons_succ, Act.put, List.setIfInBounds_toArray, List.set_cons_zero, List.set_cons_succ])
      refine wpAnyH_take (i := 5) (oi := _) (v := ?_) rfl (by kernel_rfl) (by kernel_rfl) (by kernel_rfl) (fun _ _ _ h => h) (Or.inl ⟨by rfl, ?_⟩) (by assumption) ?_
      rotate_left
      · (intro w hSw; (try dsimp only at hSw); go_simp) <;> with_reducible rfl
      (try simp only [List.getElem_toArray, List.getElem_cons_zero, List.getElem_cons_succ, Act.put, List.setIfInBounds_toArray, List.set_cons_zero, List.set_cons_succ])
      refine wpAnyH_take (i := 6) (oi := _) (v := ?_) rfl (by kernel_rfl) (by kernel_rfl) (by kernel_rfl) (fun _ _ _ h => h) (Or.inl ⟨by rfl, ?_⟩) (by assumption) ?_
      rotate_left
      · (intro w hSw; (try dsimp only at hSw); go_simp) <;> with_reducible rfl
      (try simp only [List.getElem_toArray, List.getElem_cons_zero, List.getElem_cons_succ, Act.put, List.setIfInBounds_toArray, List.set_cons_zero, List.set_cons_succ])
      refine wpAnyH_take (i := 7) (oi := _) (v := ?_) rfl (by kernel_rfl) (by kernel_rfl) (by kernel_rfl) (fun _ _ _ h => h) (Or.inl ⟨by rfl, ?_⟩) (by assumption) ?_
      rotate_left
      · (intro w hSw; (try dsimp only at hSw); go_simp) <;> with_reducible rfl
      (try simp only [List.getElem_toArray, List.getElem_cons_zero, List.getElem_cons_succ, Act.put, List.setIfInBounds_toArray, List.set_cons_zero, List.set_cons_succ])
      refine wpAnyH_ready (rs := [8]) (by kernel_rfl) (by simp) ?_
      refine AllReadyH.cons (o := _) rfl (fun K hK => ?_) AllReadyH.nil
      go_simp
      refine hK.out _ _ ?_ (fun hHeld => ?_)
      · (refine HS.out _ ?_; repeat (first | exact Keep.refl _ _ | apply Keep.drew | apply Keep.alloc | refine Keep.setCell ?_ _ _ (fun _ => rfl)))
      clear hK K
      (try simp only [List.getElem_toArray, List.getElem_cons_zero, List.getElem_cons_succ, Act.put, List.setIfInBounds_toArray, List.set_cons_zero, List.set_cons_succ])
      refine wpAnyH_ready (rs := [9]) (by kernel_rfl) (by simp) ?_
      refine AllReadyH.cons (o := _) rfl (fun K hK => ?_) AllReadyH.nil
      go_simp
      refine hK.out _ _ ?_ (fun hHeld => ?_)
      · (refine HS.out _ ?_; repeat (first | exact Keep.refl _ _ | apply Keep.drew | apply Keep.alloc | refine Keep.setCell ?_ _ _ (fun _ => rfl)))
      clear hK K
      (try simp only [List.getElem_toArray, List.getElem_cons_zero, List.getElem_cons_succ, Act.put, List.setIfInBounds_toArray, List.set_cons_zero, List.set_cons_succ])
      refine wpAnyH_take (i := 10) (oi := _) (v := ?_) rfl (by kernel_rfl) (by kernel_rfl) (by kernel_rfl) (fun _ _ _ h => h) (Or.inl ⟨by rfl, ?_⟩) (by assumption) ?_
      rotate_left
      · (intro w hSw; (try dsimp only at hSw); go_simp) <;> with_reducible rfl
      (try simp only [List.getElem_toArray, List.getElem_cons_zero, List.getElem_cons_succ, Act.put, List.setIfInBounds_toArray, List.set_cons_zero, List.set_cons_succ])
      refine wpAnyH_done (by kernel_rfl) ?_ _
      have hk3 : Keep (fun _ => False) w0 (w2.alloc (.cells #[.string ⟨#[]⟩, .nilFunc] 132)).drew := (HK2.out.alloc _).drew
      obtain ⟨w3, hw3⟩ : ∃ w3, w3 = (w2.alloc (.cells #[.string ⟨#[]⟩, .nilFunc] 132)).drew := ⟨_, rfl⟩
      rw [← hw3] at hk3
      rw [← hw3]
      clear hw3 r0 r1 r2 r3 g0 g1 g2 g3 cw0 cg HS
      obtain ⟨⟨r0, r1, r2, r3⟩, g0, g1, g2, g3⟩ := HR.out w3 hk3
      have HK3 := Lib.hid hk3; clear hk3
      go_wp2
      (try simp only [Exit.inBlock, Exit.then])
      refine form_back (HN1.out.keep HK3.out (fun h => h)) (HN2.out.keep HK3.out (fun h => h)) rfl rfl (by omega) rfl rfl rfl rfl (fun wf hkf => ?_)
      show FormPost _ _ _ _
      unfold FormPost
      rw [HF.out]
      exact ⟨rfl, (HK0.out.trans HK3.out (fun _ _ h => h)).trans hkf (fun k hk e => by omega)⟩
    | some x =>
      obtain ⟨so, f⟩ := x
      rw [hhd] at HSPL
      have hcv : chV hd.data.toList = .agg #[.string (bs so), .func (.func f) #[] #[]] := by unfold chV; rw [hc]
      have HF := Lib.hid (show formF s = (if ws.length - 1 = so.length then some (so, f, foldF so ws.tail) else none) by rw [HFX.out, hhd, hc])
      rw [hc, hcv] at HSPL
      have HC := Lib.hid hc; clear hc
      have hso : (bs so).size = so.length := by simp [bs, ByteArray.size]
      clear hhd hcv
      go_enter Tryz.func71, Tryz.ntmps71
      go_wp2_with (first
        | (go_at_call 100; rw [← HW0.out]; refine HL.out.mono ?_; rintro e w1 ⟨rfl, hk1⟩; have HK1 := Lib.hid hk1; clear hk1)
        | (go_at_call 101; refine (HSPL.out w1 HK1.out).mono ?_; rintro e w2 ⟨rfl, hk2, cg, cw, hlk⟩; have HK2 := Lib.hid hk2; clear hk2; have cw0 := cw 0 (by omega); rw [HHD.out] at cw0; have HLK := Lib.hid hlk; (try rw [HHD.out] at HLK); clear hlk; have HCW := Lib.hid cw; clear cw; obtain ⟨⟨r0, r1, r2, r3⟩, g0, g1, g2, g3⟩ := HR.out w2 HK2.out))
      have hz2 : w1.heap.size < w2.heap.size := by
        have := World.block_lt_of_cell? w2 _ cw0
        exact this
      have h9 := HG.out.size
      have hz1 := HK1.out.size
      have hz0 := HK0.out.size
      have HS : Hid (∀ W, Keep (fun k => k = w2.heap.size) w2 W → W.cell? ⟨0, 0, none⟩ = some (.map (some bm)) ∧ W.cell? ⟨w1.heap.size, 0, none⟩ = some (.string hd) ∧ (Instr.lookup 182 (.map (some bm)) (.string hd) true).run Tryz.prog W = .ok (.tuple #[.agg #[.string (bs so), .func (.func f) #[] #[]], .bool true]) W) := Lib.hid fun W hk => by
        have hk' : Keep (fun _ => False) w2 W := hk.mono (fun k h1 h2 => by omega)
        exact ⟨(hk'.cell (p := ⟨0, 0, none⟩) (show 0 < w2.heap.size by omega) (fun h => h)).trans cg, (hk'.cell (p := ⟨w1.heap.size, 0, none⟩) hz2 (fun h => h)).trans cw0, by rw [HLK.out W hk']; rfl⟩
      refine wp_region_held_drew (S := fun W => W.cell? ⟨0, 0, none⟩ = some (.map (some bm)) ∧ W.cell? ⟨w1.heap.size, 0, none⟩ = some (.string hd) ∧ (Instr.lookup 182 (.map (some bm)) (.string hd) true).run Tryz.prog W = .ok (.tuple #[.agg #[.string (bs so), .func (.func f) #[] #[]], .bool true]) W) (by kernel_rfl) (HS.out _ (Keep.refl _ _).drew) (fun hHeld => ?_)
      have hL0 : 0 < ws.length := hL1
      refine wpAnyH_take (i := 0) (oi := _) (v := ?_) rfl (by kernel_rfl) (by kernel_rfl) (by kernel_rfl) (fun _ _ _ h => h) (Or.inl ⟨by rfl, ?_⟩) (by assumption) ?_
      rotate_left
      · (intro w hSw; (try dsimp only at hSw); go_simp) <;> with_reducible rfl
      (try simp only [List.getElem_toArray, List.getElem_cons_zero, List.getElem_cons_succ, Act.put, List.setIfInBounds_toArray, List.set_cons_zero, List.set_cons_succ])
      refine wpAnyH_take (i := 1) (oi := _) (v := ?_) rfl (by kernel_rfl) (by kernel_rfl) (by kernel_rfl) (fun _ _ _ h => h) (Or.inl ⟨by rfl, ?_⟩) (by assumption) ?_
      rotate_left
      · (intro w hSw; (try dsimp only at hSw); go_simp) <;> with_reducible rfl
      (try simp only [List.getElem_toArray, List.getElem_cons_zero, List.getElem_cons_succ, Act.put, List.setIfInBounds_toArray, List.set_cons_zero, List.set_cons_succ])
      refine wpAnyH_take (i := 2) (oi := _) (v := ?_) rfl (by kernel_rfl) (by kernel_rfl) (by kernel_rfl) (fun _ _ _ h => h) (Or.inl ⟨by rfl, ?_⟩) (by assumption) ?_
      rotate_left
      · (intro w hSw; (try dsimp only at hSw); go_simp) <;> with_reducible rfl
      (try simp only [List.getElem_toArray, List.getElem_cons_zero, List.getElem_cons_succ, Act.put, List.setIfInBounds_toArray, List.set_cons_zero, List.set_cons_succ])
      refine wpAnyH_take (i := 3) (oi := _) (v := ?_) rfl (by kernel_rfl) (by kernel_rfl) (by kernel_rfl) (fun _ _ _ h => h) (Or.inl ⟨by rfl, ?_⟩) (by assumption) ?_
      rotate_left
      · (intro w hSw; (try dsimp only at hSw); go_simp) <;> with_reducible rfl
      (try simp only [List.getElem_toArray, List.getElem_cons_zero, List.getElem_cons_succ, Act.put, List.setIfInBounds_toArray, List.set_cons_zero, List.set_cons_succ])
      refine wpAnyH_take (i := 4) (oi := _) (v := ?_) rfl (by kernel_rfl) (by kernel_rfl) (by kernel_rfl) (fun _ _ _ h => h) (Or.inl ⟨by rfl, ?_⟩) (by assumption) ?_
      rotate_left
      · (intro w hSw; (try dsimp only at hSw); go_simp) <;> with_reducible rfl
      (try simp only [List.getElem_toArray, List.getElem_cons_zero, List.getElem_cons_succ, Act.put, List.setIfInBounds_toArray, List.set_cons_zero, List.set_cons_succ])
      refine wpAnyH_take (i := 5) (oi := _) (v := ?_) rfl (by kernel_rfl) (by kernel_rfl) (by kernel_rfl) (fun _ _ _ h => h) (Or.inl ⟨by rfl, ?_⟩) (by assumption) ?_
      rotate_left
      · (intro w hSw; (try dsimp only at hSw); go_simp) <;> with_reducible rfl
      (try simp only [List.getElem_toArray, List.getElem_cons_zero, List.getElem_cons_succ, Act.put, List.setIfInBounds_toArray, List.set_cons_zero, List.set_cons_succ])
      refine wpAnyH_take (i := 6) (oi := _) (v := ?_) rfl (by kernel_rfl) (by kernel_rfl) (by kernel_rfl) (fun _ _ _ h => h) (Or.inl ⟨by rfl, ?_⟩) (by assumption) ?_
      rotate_left
      · (intro w hSw; (try dsimp only at hSw); go_simp) <;> with_reducible rfl
      (try simp only [List.getElem_toArray, List.getElem_cons_zero, List.getElem_cons_succ, Act.put, List.setIfInBounds_toArray, List.set_cons_zero, List.set_cons_succ])
      refine wpAnyH_take (i := 7) (oi := _) (v := ?_) rfl (by kernel_rfl) (by kernel_rfl) (by kernel_rfl) (fun _ _ _ h => h) (Or.inl ⟨by rfl, ?_⟩) (by assumption) ?_
      rotate_left
      · (intro w hSw; (try dsimp only at hSw); go_simp) <;> with_reducible rfl
      (try simp only [List.getElem_toArray, List.getElem_cons_zero, List.getElem_cons_succ, Act.put, List.setIfInBounds_toArray, List.set_cons_zero, List.set_cons_succ])
      refine wpAnyH_ready (rs := [8]) (by kernel_rfl) (by simp) ?_
      refine AllReadyH.cons (o := _) rfl (fun K hK => ?_) AllReadyH.nil
      go_simp
      refine hK.out _ _ ?_ (fun hHeld => ?_)
      · (refine HS.out _ ?_; repeat (first | exact Keep.refl _ _ | apply Keep.drew | apply Keep.alloc | refine Keep.setCell ?_ _ _ (fun _ => rfl)))
      clear hK K
      (try simp only [List.getElem_toArray, List.getElem_cons_zero, List.getElem_cons_succ, Act.put, List.setIfInBounds_toArray, List.set_cons_zero, List.set_cons_succ])
      refine wpAnyH_ready (rs := [9]) (by kernel_rfl) (by simp) ?_
      refine AllReadyH.cons (o := _) rfl (fun K hK => ?_) AllReadyH.nil
      go_simp
      refine hK.out _ _ ?_ (fun hHeld => ?_)
      · (refine HS.out _ ?_; repeat (first | exact Keep.refl _ _ | apply Keep.drew | apply Keep.alloc | refine Keep.setCell ?_ _ _ (fun _ => rfl)))
      clear hK K
      (try simp only [List.getElem_toArray, List.getElem_cons_zero, List.getElem_cons_succ, Act.put, List.setIfInBounds_toArray, List.set_cons_zero, List.set_cons_succ])
      refine wpAnyH_take (i := 10) (oi := _) (v := ?_) rfl (by kernel_rfl) (by kernel_rfl) (by kernel_rfl) (fun _ _ _ h => h) (Or.inl ⟨by rfl, ?_⟩) (by assumption) ?_
      rotate_left
      · (intro w hSw; (try dsimp only at hSw); go_simp) <;> with_reducible rfl
      (try simp only [List.getElem_toArray, List.getElem_cons_zero, List.getElem_cons_succ, Act.put, List.setIfInBounds_toArray, List.set_cons_zero, List.set_cons_succ])
      refine wpAnyH_done (by kernel_rfl) ?_ _
      have hk3 : Keep (fun _ => False) w0 (w2.alloc (.cells #[.string (bs so), .func (.func f) #[] #[]] 132)).drew := (HK2.out.alloc _).drew
      have hn3 : Blk (w2.alloc (.cells #[.string (bs so), .func (.func f) #[] #[]] 132)).drew w2.heap.size #[.string (bs so), .func (.func f) #[] #[]] 132 := (Blk.new _ _ _).drew
      have hk23 : Keep (fun _ => False) w2 (w2.alloc (.cells #[.string (bs so), .func (.func f) #[] #[]] 132)).drew := ((Keep.refl _ _).alloc _).drew
      obtain ⟨w3, hw3⟩ : ∃ w3, w3 = (w2.alloc (.cells #[.string (bs so), .func (.func f) #[] #[]] 132)).drew := ⟨_, rfl⟩
      rw [← hw3] at hk3 hn3 hk23
      rw [← hw3]
      clear hw3 r0 r1 r2 r3 g0 g1 g2 g3 cw0 cg HS
      have s0 := hn3.cell 0
      have s1 := hn3.cell 1
      simp at s0 s1
      have HN3 := Lib.hid hn3; clear hn3
      have HK23 := Lib.hid hk23; clear hk23
      have e1 : IntKind.i64.wrap ((ws.length : Int) - 1) = (ws.length : Int) - 1 := IntWalk.i64_in _ (by omega)
      by_cases hlen : ws.length - 1 = so.length
      · have hne : (((ws.length : Int) - 1) != ((bs so).size : Int)) = false := by rw [hso]; simp; omega
        have HK3 := Lib.hid hk3; clear hk3
        have hle1 : (1 : Int) ≤ (ws.length : Int) := by omega
        rw [if_pos hlen] at HF
        have hz3 := HK23.out.size
        have hsl := chF_len HC.out
        have hws1 : (ws.length = 1) = False := eq_false (by omega)
        have hws0 : (so.length = 0) = False := eq_false (by omega)
        have hk34 : Keep (fun _ => False) w3 (w3.alloc (.cells #[.slice none 0 0, .string ⟨#[]⟩] 134)) := (Keep.refl _ _).alloc _
        have hn4 : Blk (w3.alloc (.cells #[.slice none 0 0, .string ⟨#[]⟩] 134)) w3.heap.size #[.slice none 0 0, .string ⟨#[]⟩] 134 := Blk.new _ _ _
        have hz4 : (w3.alloc (.cells #[.slice none 0 0, .string ⟨#[]⟩] 134)).heap.size = w3.heap.size + 1 := by simp
        have HNIL := Lib.hid (World.ownsRow_nil (w3.alloc (.cells #[.slice none 0 0, .string ⟨#[]⟩] 134)) (w3.alloc (.cells #[.slice none 0 0, .string ⟨#[]⟩] 134)).heap.size 3 1)
        go_wp2
        obtain ⟨w4, hw4⟩ : ∃ w4, w4 = (w3.alloc (.cells #[.slice none 0 0, .string ⟨#[]⟩] 134)) := ⟨_, rfl⟩
        rw [← hw4] at hk34 hn4 hz4 HNIL
        rw [← hw4]
        clear hw4 s0 s1
        rw [show (((ws.length : Int) - 1) != (so.length : Int)) = false by rw [← hso]; exact hne]
        clear hne e1 hle1
        have HN4 := Lib.hid hn4; clear hn4
        have HK34 := Lib.hid hk34; clear hk34
        go_loopw [7, 44] (fun o i wr => ∃ (k : Nat) (a : FA) (vn : Value), k ≤ so.length ∧ i = .int .i64 k ∧ o = .bool a.ok ∧ a = ((so.zip ws.tail).take k).foldl stepF ⟨[], bs [], true⟩ ∧ a.n.length ≤ k ∧ wr.ownsRow w4.heap.size 3 1 vn a.n.length (icells a.n) ∧ Blk wr w3.heap.size #[vn, .string a.word] 134 ∧ Keep (fun b => b = w3.heap.size) w4 wr) (fun _ i _ => so.length - (intOf i).toNat)
        · exact ⟨0, ⟨[], bs [], true⟩, .slice none 0 0, by omega, rfl, rfl, by simp, by simp, HNIL.out, HN4.out, Keep.refl _ _⟩
        case round =>
          obtain ⟨k, a, vn, hk, rfl, rfl, ha, hnl, hown, hblk, hkeep⟩ := hrel
          have HA := Lib.hid ha; clear ha
          obtain ⟨ao, cap, hv, hcap, _⟩ := ownsRow_shape hown
          subst hv
          have HO := Lib.hid hown; clear hown
          have HB := Lib.hid hblk; clear hblk
          have HK := Lib.hid hkeep; clear hkeep
          have hz := HK.out.size
          have hl3 := HN3.out.lt
          have hl0 := HN2.out.lt
          have hk0r : Keep (fun b => b = w3.heap.size) w0 wr := ((HK3.out.trans HK34.out (fun _ _ h => h)).mono (fun _ _ h => h.elim)).trans HK.out (fun _ _ h => h)
          have hk0' : Keep (fun _ => False) w0 wr := hk0r.mono (fun k h1 h2 => by omega)
          have HK0R := Lib.hid hk0'; clear hk0r hk0'
          by_cases hlt : k < so.length
          · have B6 := ((HN3.out.keep HK34.out (fun h => h)).keep HK.out (show ¬ w2.heap.size = w3.heap.size by omega))
            have d0 := B6.cell 0
            have d2 := HB.out.cell 0
            have d3 := HB.out.cell 1
            have f2 := HB.out.free 0
            have f3 := HB.out.free 1
            simp at d0 d2 d3
            clear B6
            have hk2r : Keep (fun b => b = w3.heap.size) w2 wr := ((HK23.out.trans HK34.out (fun _ _ h => h)).mono (fun _ _ h => h.elim)).trans HK.out (fun _ _ h => h)
            have cwd := (hk2r.cell (p := ⟨w1.heap.size, k + 1, none⟩) (show w1.heap.size < w2.heap.size by omega) (show ¬ w1.heap.size = w3.heap.size by omega)).trans (HCW.out (k + 1) (by omega))
            clear hk2r
            rw [Nat.add_comm k 1] at cwd
            obtain ⟨wd, hwd⟩ : ∃ wd, ws.getD (1 + k) ByteArray.empty = wd := ⟨_, rfl⟩
            rw [hwd] at cwd
            obtain ⟨c, hcc⟩ : ∃ c, so[k]? = some c := ⟨so[k], List.getElem?_eq_getElem hlt⟩
            have hlti : ((k : Int) < (so.length : Int)) = True := by simp; omega
            have hwk : IntKind.i64.wrap ((k : Int) + 1) = (k : Int) + 1 := IntWalk.i64_in _ (by omega)
            have hzip : ((so.zip ws.tail).take (k + 1)).foldl stepF ⟨[], bs [], true⟩ = stepF a (c, wd) := by
              have hk1 : k < (so.zip ws.tail).length := by rw [List.length_zip, List.length_tail]; omega
              rw [List.take_succ_eq_append_getElem hk1, List.foldl_append, ← HA.out]
              have h1 : so[k] = c := by rw [List.getElem?_eq_getElem hlt] at hcc; exact Option.some.inj hcc
              have h2 : ws.tail[k]'(by rw [List.length_tail]; omega) = wd := by
                rw [← hwd, List.getElem_tail, Nat.add_comm 1 k]
                simp [List.getD, show k + 1 < ws.length by omega]
              simp only [List.getElem_zip, List.foldl_cons, List.foldl_nil, h1, h2]
            have HZ := Lib.hid hzip; clear hzip
            have hcb : (bs so)[k]'(by omega) = c := by
              rw [List.getElem?_eq_getElem hlt] at hcc
              rw [← Option.some.inj hcc]; rfl
            have hwds : wd.size ≤ 200 := by
              have := word_size (s := s) (j := 1 + k) (by rw [HWS.out]; omega)
              rw [HWS.out, hwd] at this; omega
            have hidx : ∀ W, (Instr.index 9 (.string (bs so)) (.int .i64 k)).run Tryz.prog W = .ok (.int .u8 c.toNat) W := fun W => by
              rw [run_index_string W 9 (bs so) .i64 k Tryz.underlying9, dif_pos (by omega)]
              simp only [Int.toNat_natCast, hcb]
            clear hcb hcc hwd
            have HNO : Hid ((Value.slice ao a.n.length cap).ownBlock ≠ some w3.heap.size) := Lib.hid fun h => by have := (ownsRow_lt HO.out _ h).1; rw [hz4] at this; omega
            have hfin : Hid (∀ (a' : FA) (vn : Value) (w6 : World), a' = stepF a (c, wd) → a'.n.length ≤ k + 1 → w6.ownsRow w4.heap.size 3 1 vn a'.n.length (icells a'.n) → Blk w6 w3.heap.size #[vn, .string a'.word] 134 → Keep (fun b => b = w3.heap.size) w4 w6 →
              ∃ (k_1 : Nat) (a : FA) (vn : Value), k_1 ≤ so.length ∧ Value.int .i64 ((k : Int) + 1) = .int .i64 k_1 ∧ Value.bool a'.ok = .bool a.ok ∧ a = ((so.zip ws.tail).take k_1).foldl stepF ⟨[], bs [], true⟩ ∧ a.n.length ≤ k_1 ∧ w6.ownsRow w4.heap.size 3 1 vn a.n.length (icells a.n) ∧ Blk w6 w3.heap.size #[vn, .string a.word] 134 ∧ Keep (fun b => b = w3.heap.size) w4 w6) :=
              Lib.hid fun a' vn w6 h1 h2 h3 h4 h5 => ⟨k + 1, a', vn, hlt, rfl, rfl, by rw [h1, HZ.out], h2, h3, h4, h5⟩
            by_cases hc1 : c = 115
            · subst hc1
              have hidx' : ∀ W, (Instr.index 9 (.string (bs so)) (.int .i64 k)).run Tryz.prog W = .ok (.int .u8 115) W := hidx
              clear hidx
              have hst : stepF a (115, wd) = ⟨a.n, wd, a.ok && isSpiceB wd⟩ := rfl
              have HST := Lib.hid hst; clear hst
              cases hok : a.ok with
              | false =>
                go_wp2
                go_roundw
                case rel => exact hfin.out ⟨a.n, wd, false⟩ _ _ (by rw [HST.out, hok]; rfl) (Nat.le_succ_of_le hnl) (ownsRow_setCell HO.out _ _ HNO.out) (by simpa using HB.out.set 1 (.string wd)) (HK.out.setCell _ _ (fun _ => rfl))
                case measure => simp [intOf]; omega
              | true =>
                go_wp2_with (go_at_call 102; have hh := isSpice_any (w := wr) (s := wd) (by omega); refine Calls.mono hh ?_; clear hh; rintro e w5 ⟨rfl, hk5⟩; have d3 := (hk5.cell (p := ⟨w3.heap.size, 1, none⟩) HB.out.lt (fun h => h)).trans d3; have f3 := (hk5.frozen (p := ⟨w3.heap.size, 1, none⟩) HB.out.lt (fun h => h)).trans f3; have HK5 := Lib.hid hk5; clear hk5)
                go_roundw
                case rel => exact hfin.out ⟨a.n, wd, isSpiceB wd⟩ _ _ (by rw [HST.out, hok]; rfl) (Nat.le_succ_of_le hnl) (ownsRow_setCell (ownsRow_keep HO.out HK5.out (fun _ _ h => h)) _ _ HNO.out) (by simpa using (HB.out.keep HK5.out (fun h => h)).set 1 (.string wd)) ((HK.out.trans HK5.out (fun _ _ h => h.elim)).setCell _ _ (fun _ => rfl))
                case measure => simp [intOf]; omega
            by_cases hc2 : c = 116
            · subst hc2
              have hidx' : ∀ W, (Instr.index 9 (.string (bs so)) (.int .i64 k)).run Tryz.prog W = .ok (.int .u8 116) W := hidx
              clear hidx
              have hst : stepF a (116, wd) = ⟨a.n, wd, a.ok && (decide (wd = goodB) || decide (wd = badBs))⟩ := rfl
              have HST := Lib.hid hst; clear hst
              cases hok : a.ok with
              | false =>
                go_wp2
                go_roundw
                case rel => exact hfin.out ⟨a.n, wd, false⟩ _ _ (by rw [HST.out, hok]; rfl) (Nat.le_succ_of_le hnl) (ownsRow_setCell HO.out _ _ HNO.out) (by simpa using HB.out.set 1 (.string wd)) (HK.out.setCell _ _ (fun _ => rfl))
                case measure => simp [intOf]; omega
              | true =>
                by_cases hg : wd = goodB
                · have hgl : (wd.toList = [103, 111, 111, 100]) = True := eq_true ((toList_bs _ _).2 hg)
                  have HG1 := Lib.hid (show decide (wd = goodB) = true from decide_eq_true hg); clear hg
                  go_wp2
                  go_roundw
                  case rel => exact hfin.out ⟨a.n, wd, true⟩ _ _ (by rw [HST.out, hok, HG1.out]; rfl) (Nat.le_succ_of_le hnl) (ownsRow_setCell HO.out _ _ HNO.out) (by simpa using HB.out.set 1 (.string wd)) (HK.out.setCell _ _ (fun _ => rfl))
                  case measure => simp [intOf]; omega
                · have hgl : (wd.toList = [103, 111, 111, 100]) = False := eq_false (fun h => hg ((toList_bs _ _).1 h))
                  have hbe1 : (wd.toList == [103, 111, 111, 100]) = false := beq_eq_false_iff_ne.2 (fun h => hg ((toList_bs _ _).1 h))
                  have HG1 := Lib.hid (show decide (wd = goodB) = false from decide_eq_false hg); clear hg
                  by_cases hb : wd = badBs
                  · have hbl : (wd.toList = [98, 97, 100]) = True := eq_true ((toList_bs _ _).2 hb)
                    have hbe2 : (wd.toList == [98, 97, 100]) = true := beq_iff_eq.2 ((toList_bs _ _).2 hb)
                    have HG2 := Lib.hid (show decide (wd = badBs) = true from decide_eq_true hb); clear hb
                    go_wp2
                    go_roundw
                    case rel => exact hfin.out ⟨a.n, wd, true⟩ _ _ (by rw [HST.out, hok, HG1.out, HG2.out]; rfl) (Nat.le_succ_of_le hnl) (ownsRow_setCell HO.out _ _ HNO.out) (by simpa using HB.out.set 1 (.string wd)) (HK.out.setCell _ _ (fun _ => rfl))
                    case measure => simp [intOf]; omega
                  · have hbl : (wd.toList = [98, 97, 100]) = False := eq_false (fun h => hb ((toList_bs _ _).1 h))
                    have hbe2 : (wd.toList == [98, 97, 100]) = false := beq_eq_false_iff_ne.2 (fun h => hb ((toList_bs _ _).1 h))
                    have HG2 := Lib.hid (show decide (wd = badBs) = false from decide_eq_false hb); clear hb
                    go_wp2
                    go_roundw
                    case rel => exact hfin.out ⟨a.n, wd, false⟩ _ _ (by rw [HST.out, hok, HG1.out, HG2.out]; rfl) (Nat.le_succ_of_le hnl) (ownsRow_setCell HO.out _ _ HNO.out) (by simpa using HB.out.set 1 (.string wd)) (HK.out.setCell _ _ (fun _ => rfl))
                    case measure => simp [intOf]; omega
            have hcx : ((c.toNat : Int) == 115) = false := by
              have : c.toNat ≠ 115 := fun h => hc1 (UInt8.toNat.inj h)
              simp; omega
            have hcy : ((c.toNat : Int) == 116) = false := by
              have : c.toNat ≠ 116 := fun h => hc2 (UInt8.toNat.inj h)
              simp; omega
            have hst : stepF a (c, wd) = ⟨a.n ++ [atoiN wd], a.word, a.ok && atoiOk wd && decide (wd.size ≤ 6) && decide (0 ≤ atoiN wd) && decide (itoaB (atoiN wd) = wd)⟩ := by
              unfold stepF; rw [if_neg hc1, if_neg hc2]
            have HST := Lib.hid hst; clear hst hc1 hc2
            cases hok : a.ok with
            | false =>
              cases hao : atoiOk wd with
              | false =>
                have HAO := Lib.hid (show atoiOk wd = false from hao)
                clear hao
                go_wp2_with (first | (go_at_call 103; have hh := atoi_any (w := wr) (s := wd) (HG.out.keep (HK0.out.trans HK0R.out (fun _ _ h => h))) (by omega); refine Calls.mono hh ?_; clear hh; rintro e w5 ⟨N, rfl, hk5⟩; rw [HAO.out]; simp only [errV]; have d2 := (hk5.cell (p := ⟨w3.heap.size, 0, none⟩) HB.out.lt (fun h => h)).trans d2; have f2 := (hk5.frozen (p := ⟨w3.heap.size, 0, none⟩) HB.out.lt (fun h => h)).trans f2; have HK5 := Lib.hid hk5; clear hk5) | (at_builtin; refine wpList_app (w := w5.alloc (.cells #[.int .i64 (atoiN wd)] 3)) rfl (.tmp 79) (.tmp 81) 34 34 rfl 3 (.int .i64 0) 1 8 Tryz.underlying34 info3' rfl ((ownsRow_keep HO.out HK5.out (fun _ _ h => h)).alloc _) rfl (Src.new (P := Tryz.prog) Tryz.underlying34 w5 1 [.int .i64 (atoiN wd)] 3 rfl (by simp [Value.oneCell'])) rfl ?hb1 ?hb2 ?hb3 ?hgo))
                case hb1 => first | omega | (simp; omega) | (unfold maxLen; omega) | (unfold maxLen; simp; omega)
                case hb2 => first | omega | (simp; omega) | (unfold maxLen; omega) | (unfold maxLen; simp; omega)
                case hb3 => have z2 := HK5.out.size; have z4 := HK.out.size; simp; omega
                case hgo =>
                intro v' w7 happ
                obtain ⟨ao7, cap7, rfl, _⟩ := ownsRow_shape happ.own
                have hb7 := (((HB.out.keep HK5.out (fun h => h)).alloc (.cells #[.int .i64 (atoiN wd)] 3)).keep happ.keep (fun e => HNO.out e))
                have hne7 : (Value.slice ao7 (a.n.length + 1) cap7).ownBlock ≠ some w3.heap.size := by
                  intro h
                  rcases happ.fresh with h1 | ⟨g, h1, h2⟩
                  · exact HNO.out (h1 ▸ h)
                  · have h5 : g = w3.heap.size := Option.some.inj (h1.symm.trans h)
                    have z1 := HB.out.lt; have z2 := HK5.out.size; rw [World.size_alloc] at h2
                    omega
                have hkf : Keep (fun b => b = w3.heap.size) w4 w7 := ((HK.out.trans HK5.out (fun _ _ h => h.elim)).alloc _).trans happ.keep (fun g hg e => by have h3 := ownsRow_lt HO.out g e; omega)
                have HKF := Lib.hid hkf; clear hkf
                have HNE7 := Lib.hid hne7; clear hne7
                have d2 := hb7.cell 0
                have f2 := hb7.free 0
                simp at d2
                have HB7 := Lib.hid hb7; clear hb7
                have HA7 := Lib.hid happ; clear happ
                go_wp2
                go_roundw
                case rel => exact hfin.out ⟨a.n ++ [atoiN wd], a.word, false⟩ (.slice ao7 (a.n.length + 1) cap7) _ (by rw [HST.out, hok]; rfl) (by simp; omega) (by simpa [icells, hz4] using ownsRow_setCell HA7.out.own ⟨w3.heap.size, 0, none⟩ (.slice ao7 (a.n.length + 1) cap7) HNE7.out) (by simpa using HB7.out.set 0 (.slice ao7 (a.n.length + 1) cap7)) (HKF.out.setCell _ _ (fun _ => rfl))
                case measure => simp [intOf]; omega
              | true =>
                have HAO := Lib.hid (show atoiOk wd = true from hao)
                clear hao
                go_wp2_with (first | (go_at_call 103; have hh := atoi_any (w := wr) (s := wd) (HG.out.keep (HK0.out.trans HK0R.out (fun _ _ h => h))) (by omega); refine Calls.mono hh ?_; clear hh; rintro e w5 ⟨N, rfl, hk5⟩; rw [HAO.out]; simp only [errV]; have d2 := (hk5.cell (p := ⟨w3.heap.size, 0, none⟩) HB.out.lt (fun h => h)).trans d2; have f2 := (hk5.frozen (p := ⟨w3.heap.size, 0, none⟩) HB.out.lt (fun h => h)).trans f2; have HK5 := Lib.hid hk5; clear hk5) | (at_builtin; refine wpList_app (w := w5.alloc (.cells #[.int .i64 (atoiN wd)] 3)) rfl (.tmp 79) (.tmp 81) 34 34 rfl 3 (.int .i64 0) 1 8 Tryz.underlying34 info3' rfl ((ownsRow_keep HO.out HK5.out (fun _ _ h => h)).alloc _) rfl (Src.new (P := Tryz.prog) Tryz.underlying34 w5 1 [.int .i64 (atoiN wd)] 3 rfl (by simp [Value.oneCell'])) rfl ?hb1 ?hb2 ?hb3 ?hgo))
                case hb1 => first | omega | (simp; omega) | (unfold maxLen; omega) | (unfold maxLen; simp; omega)
                case hb2 => first | omega | (simp; omega) | (unfold maxLen; omega) | (unfold maxLen; simp; omega)
                case hb3 => have z2 := HK5.out.size; have z4 := HK.out.size; simp; omega
                case hgo =>
                intro v' w7 happ
                obtain ⟨ao7, cap7, rfl, _⟩ := ownsRow_shape happ.own
                have hb7 := (((HB.out.keep HK5.out (fun h => h)).alloc (.cells #[.int .i64 (atoiN wd)] 3)).keep happ.keep (fun e => HNO.out e))
                have hne7 : (Value.slice ao7 (a.n.length + 1) cap7).ownBlock ≠ some w3.heap.size := by
                  intro h
                  rcases happ.fresh with h1 | ⟨g, h1, h2⟩
                  · exact HNO.out (h1 ▸ h)
                  · have h5 : g = w3.heap.size := Option.some.inj (h1.symm.trans h)
                    have z1 := HB.out.lt; have z2 := HK5.out.size; rw [World.size_alloc] at h2
                    omega
                have hkf : Keep (fun b => b = w3.heap.size) w4 w7 := ((HK.out.trans HK5.out (fun _ _ h => h.elim)).alloc _).trans happ.keep (fun g hg e => by have h3 := ownsRow_lt HO.out g e; omega)
                have HKF := Lib.hid hkf; clear hkf
                have HNE7 := Lib.hid hne7; clear hne7
                have d2 := hb7.cell 0
                have f2 := hb7.free 0
                simp at d2
                have HB7 := Lib.hid hb7; clear hb7
                have HA7 := Lib.hid happ; clear happ
                go_wp2
                go_roundw
                case rel => exact hfin.out ⟨a.n ++ [atoiN wd], a.word, false⟩ (.slice ao7 (a.n.length + 1) cap7) _ (by rw [HST.out, hok]; rfl) (by simp; omega) (by simpa [icells, hz4] using ownsRow_setCell HA7.out.own ⟨w3.heap.size, 0, none⟩ (.slice ao7 (a.n.length + 1) cap7) HNE7.out) (by simpa using HB7.out.set 0 (.slice ao7 (a.n.length + 1) cap7)) (HKF.out.setCell _ _ (fun _ => rfl))
                case measure => simp [intOf]; omega
            | true =>
              cases hao : atoiOk wd with
              | false =>
                have HAO := Lib.hid (show atoiOk wd = false from hao)
                clear hao
                go_wp2_with (first | (go_at_call 103; have hh := atoi_any (w := wr) (s := wd) (HG.out.keep (HK0.out.trans HK0R.out (fun _ _ h => h))) (by omega); refine Calls.mono hh ?_; clear hh; rintro e w5 ⟨N, rfl, hk5⟩; rw [HAO.out]; simp only [errV]; have d2 := (hk5.cell (p := ⟨w3.heap.size, 0, none⟩) HB.out.lt (fun h => h)).trans d2; have f2 := (hk5.frozen (p := ⟨w3.heap.size, 0, none⟩) HB.out.lt (fun h => h)).trans f2; have HK5 := Lib.hid hk5; clear hk5) | (at_builtin; refine wpList_app (w := w5.alloc (.cells #[.int .i64 (atoiN wd)] 3)) rfl (.tmp 79) (.tmp 81) 34 34 rfl 3 (.int .i64 0) 1 8 Tryz.underlying34 info3' rfl ((ownsRow_keep HO.out HK5.out (fun _ _ h => h)).alloc _) rfl (Src.new (P := Tryz.prog) Tryz.underlying34 w5 1 [.int .i64 (atoiN wd)] 3 rfl (by simp [Value.oneCell'])) rfl ?hb1 ?hb2 ?hb3 ?hgo))
                case hb1 => first | omega | (simp; omega) | (unfold maxLen; omega) | (unfold maxLen; simp; omega)
                case hb2 => first | omega | (simp; omega) | (unfold maxLen; omega) | (unfold maxLen; simp; omega)
                case hb3 => have z2 := HK5.out.size; have z4 := HK.out.size; simp; omega
                case hgo =>
                intro v' w7 happ
                obtain ⟨ao7, cap7, rfl, _⟩ := ownsRow_shape happ.own
                have hb7 := (((HB.out.keep HK5.out (fun h => h)).alloc (.cells #[.int .i64 (atoiN wd)] 3)).keep happ.keep (fun e => HNO.out e))
                have hne7 : (Value.slice ao7 (a.n.length + 1) cap7).ownBlock ≠ some w3.heap.size := by
                  intro h
                  rcases happ.fresh with h1 | ⟨g, h1, h2⟩
                  · exact HNO.out (h1 ▸ h)
                  · have h5 : g = w3.heap.size := Option.some.inj (h1.symm.trans h)
                    have z1 := HB.out.lt; have z2 := HK5.out.size; rw [World.size_alloc] at h2
                    omega
                have hkf : Keep (fun b => b = w3.heap.size) w4 w7 := ((HK.out.trans HK5.out (fun _ _ h => h.elim)).alloc _).trans happ.keep (fun g hg e => by have h3 := ownsRow_lt HO.out g e; omega)
                have HKF := Lib.hid hkf; clear hkf
                have HNE7 := Lib.hid hne7; clear hne7
                have d2 := hb7.cell 0
                have f2 := hb7.free 0
                simp at d2
                have HB7 := Lib.hid hb7; clear hb7
                have HA7 := Lib.hid happ; clear happ
                go_wp2
                go_roundw
                case rel => exact hfin.out ⟨a.n ++ [atoiN wd], a.word, false⟩ (.slice ao7 (a.n.length + 1) cap7) _ (by rw [HST.out, hok, HAO.out]; rfl) (by simp; omega) (by simpa [icells, hz4] using ownsRow_setCell HA7.out.own ⟨w3.heap.size, 0, none⟩ (.slice ao7 (a.n.length + 1) cap7) HNE7.out) (by simpa using HB7.out.set 0 (.slice ao7 (a.n.length + 1) cap7)) (HKF.out.setCell _ _ (fun _ => rfl))
                case measure => simp [intOf]; omega
              | true =>
                have HAO := Lib.hid (show atoiOk wd = true from hao)
                clear hao
                by_cases hsz : wd.size ≤ 6
                · have hsd : decide ((wd.size : Int) ≤ 6) = true := decide_eq_true (by omega)
                  have HSZ := Lib.hid (show decide (wd.size ≤ 6) = true from decide_eq_true hsz); clear hsz
                  by_cases hn0 : 0 ≤ atoiN wd
                  · have hnd : decide ((0 : Int) ≤ atoiN wd) = true := decide_eq_true hn0
                    have HND := Lib.hid hnd
                    go_wp2_with (first | (go_at_call 103; have hh := atoi_any (w := wr) (s := wd) (HG.out.keep (HK0.out.trans HK0R.out (fun _ _ h => h))) (by omega); refine Calls.mono hh ?_; clear hh; rintro e w5 ⟨N, rfl, hk5⟩; rw [HAO.out]; simp only [errV]; have d2 := (hk5.cell (p := ⟨w3.heap.size, 0, none⟩) HB.out.lt (fun h => h)).trans d2; have f2 := (hk5.frozen (p := ⟨w3.heap.size, 0, none⟩) HB.out.lt (fun h => h)).trans f2; have HK5 := Lib.hid hk5; clear hk5) | (go_at_call 96; have hh := itoa_any (w := w5) (n := atoiN wd) ((HG.out.keep (HK0.out.trans HK0R.out (fun _ _ h => h))).keep HK5.out) (atoiN_bounds wd).1 (atoiN_bounds wd).2; refine Calls.mono hh ?_; clear hh; rintro e w6 ⟨rfl, hk6⟩; have d2 := (hk6.cell (p := ⟨w3.heap.size, 0, none⟩) (Nat.lt_of_lt_of_le HB.out.lt HK5.out.size) (fun h => h)).trans d2; have f2 := (hk6.frozen (p := ⟨w3.heap.size, 0, none⟩) (Nat.lt_of_lt_of_le HB.out.lt HK5.out.size) (fun h => h)).trans f2; have HK6 := Lib.hid hk6; clear hk6) | (at_builtin; refine wpList_app (w := w6.alloc (.cells #[.int .i64 (atoiN wd)] 3)) rfl (.tmp 79) (.tmp 81) 34 34 rfl 3 (.int .i64 0) 1 8 Tryz.underlying34 info3' rfl ((ownsRow_keep (ownsRow_keep HO.out HK5.out (fun _ _ h => h)) HK6.out (fun _ _ h => h)).alloc _) rfl (Src.new (P := Tryz.prog) Tryz.underlying34 w6 1 [.int .i64 (atoiN wd)] 3 rfl (by simp [Value.oneCell'])) rfl ?hb1 ?hb2 ?hb3 ?hgo))
                    case hb1 => first | omega | (simp; omega) | (unfold maxLen; omega) | (unfold maxLen; simp; omega)
                    case hb2 => first | omega | (simp; omega) | (unfold maxLen; omega) | (unfold maxLen; simp; omega)
                    case hb3 => have z2 := HK5.out.size; have z3 := HK6.out.size; have z4 := HK.out.size; simp; omega
                    case hgo =>
                    intro v' w7 happ
                    obtain ⟨ao7, cap7, rfl, _⟩ := ownsRow_shape happ.own
                    have hb7 := ((((HB.out.keep HK5.out (fun h => h)).keep HK6.out (fun h => h)).alloc (.cells #[.int .i64 (atoiN wd)] 3)).keep happ.keep (fun e => HNO.out e))
                    have hne7 : (Value.slice ao7 (a.n.length + 1) cap7).ownBlock ≠ some w3.heap.size := by
                      intro h
                      rcases happ.fresh with h1 | ⟨g, h1, h2⟩
                      · exact HNO.out (h1 ▸ h)
                      · have h5 : g = w3.heap.size := Option.some.inj (h1.symm.trans h)
                        have z1 := HB.out.lt; have z2 := HK5.out.size; have z3 := HK6.out.size; rw [World.size_alloc] at h2
                        omega
                    have hkf : Keep (fun b => b = w3.heap.size) w4 w7 := (((HK.out.trans HK5.out (fun _ _ h => h.elim)).trans HK6.out (fun _ _ h => h.elim)).alloc _).trans happ.keep (fun g hg e => by have h3 := ownsRow_lt HO.out g e; omega)
                    have HKF := Lib.hid hkf; clear hkf
                    have HNE7 := Lib.hid hne7; clear hne7
                    have d2 := hb7.cell 0
                    have f2 := hb7.free 0
                    simp at d2
                    have HB7 := Lib.hid hb7; clear hb7
                    have HA7 := Lib.hid happ; clear happ
                    go_wp2
                    go_roundw
                    case rel => rw [beq_dec]; exact hfin.out ⟨a.n ++ [atoiN wd], a.word, decide (itoaB (atoiN wd) = wd)⟩ (.slice ao7 (a.n.length + 1) cap7) _ (by rw [HST.out, hok, HAO.out, HSZ.out, HND.out]; simp) (by simp; omega) (by simpa [icells, hz4] using ownsRow_setCell HA7.out.own ⟨w3.heap.size, 0, none⟩ (.slice ao7 (a.n.length + 1) cap7) HNE7.out) (by simpa using HB7.out.set 0 (.slice ao7 (a.n.length + 1) cap7)) (HKF.out.setCell _ _ (fun _ => rfl))
                    case measure => simp [intOf]; omega
                  · have hnd : decide ((0 : Int) ≤ atoiN wd) = false := decide_eq_false hn0
                    have HND := Lib.hid hnd
                    go_wp2_with (first | (go_at_call 103; have hh := atoi_any (w := wr) (s := wd) (HG.out.keep (HK0.out.trans HK0R.out (fun _ _ h => h))) (by omega); refine Calls.mono hh ?_; clear hh; rintro e w5 ⟨N, rfl, hk5⟩; rw [HAO.out]; simp only [errV]; have d2 := (hk5.cell (p := ⟨w3.heap.size, 0, none⟩) HB.out.lt (fun h => h)).trans d2; have f2 := (hk5.frozen (p := ⟨w3.heap.size, 0, none⟩) HB.out.lt (fun h => h)).trans f2; have HK5 := Lib.hid hk5; clear hk5) | (at_builtin; refine wpList_app (w := w5.alloc (.cells #[.int .i64 (atoiN wd)] 3)) rfl (.tmp 79) (.tmp 81) 34 34 rfl 3 (.int .i64 0) 1 8 Tryz.underlying34 info3' rfl ((ownsRow_keep HO.out HK5.out (fun _ _ h => h)).alloc _) rfl (Src.new (P := Tryz.prog) Tryz.underlying34 w5 1 [.int .i64 (atoiN wd)] 3 rfl (by simp [Value.oneCell'])) rfl ?hb1 ?hb2 ?hb3 ?hgo))
                    case hb1 => first | omega | (simp; omega) | (unfold maxLen; omega) | (unfold maxLen; simp; omega)
                    case hb2 => first | omega | (simp; omega) | (unfold maxLen; omega) | (unfold maxLen; simp; omega)
                    case hb3 => have z2 := HK5.out.size; have z4 := HK.out.size; simp; omega
                    case hgo =>
                    intro v' w7 happ
                    obtain ⟨ao7, cap7, rfl, _⟩ := ownsRow_shape happ.own
                    have hb7 := (((HB.out.keep HK5.out (fun h => h)).alloc (.cells #[.int .i64 (atoiN wd)] 3)).keep happ.keep (fun e => HNO.out e))
                    have hne7 : (Value.slice ao7 (a.n.length + 1) cap7).ownBlock ≠ some w3.heap.size := by
                      intro h
                      rcases happ.fresh with h1 | ⟨g, h1, h2⟩
                      · exact HNO.out (h1 ▸ h)
                      · have h5 : g = w3.heap.size := Option.some.inj (h1.symm.trans h)
                        have z1 := HB.out.lt; have z2 := HK5.out.size; rw [World.size_alloc] at h2
                        omega
                    have hkf : Keep (fun b => b = w3.heap.size) w4 w7 := ((HK.out.trans HK5.out (fun _ _ h => h.elim)).alloc _).trans happ.keep (fun g hg e => by have h3 := ownsRow_lt HO.out g e; omega)
                    have HKF := Lib.hid hkf; clear hkf
                    have HNE7 := Lib.hid hne7; clear hne7
                    have d2 := hb7.cell 0
                    have f2 := hb7.free 0
                    simp at d2
                    have HB7 := Lib.hid hb7; clear hb7
                    have HA7 := Lib.hid happ; clear happ
                    go_wp2
                    go_roundw
                    case rel => exact hfin.out ⟨a.n ++ [atoiN wd], a.word, false⟩ (.slice ao7 (a.n.length + 1) cap7) _ (by rw [HST.out, hok, HAO.out, HSZ.out, HND.out]; simp) (by simp; omega) (by simpa [icells, hz4] using ownsRow_setCell HA7.out.own ⟨w3.heap.size, 0, none⟩ (.slice ao7 (a.n.length + 1) cap7) HNE7.out) (by simpa using HB7.out.set 0 (.slice ao7 (a.n.length + 1) cap7)) (HKF.out.setCell _ _ (fun _ => rfl))
                    case measure => simp [intOf]; omega
                · have hsd : decide ((wd.size : Int) ≤ 6) = false := decide_eq_false (by omega)
                  have HSZ := Lib.hid (show decide (wd.size ≤ 6) = false from decide_eq_false hsz); clear hsz
                  go_wp2_with (first | (go_at_call 103; have hh := atoi_any (w := wr) (s := wd) (HG.out.keep (HK0.out.trans HK0R.out (fun _ _ h => h))) (by omega); refine Calls.mono hh ?_; clear hh; rintro e w5 ⟨N, rfl, hk5⟩; rw [HAO.out]; simp only [errV]; have d2 := (hk5.cell (p := ⟨w3.heap.size, 0, none⟩) HB.out.lt (fun h => h)).trans d2; have f2 := (hk5.frozen (p := ⟨w3.heap.size, 0, none⟩) HB.out.lt (fun h => h)).trans f2; have HK5 := Lib.hid hk5; clear hk5) | (at_builtin; refine wpList_app (w := w5.alloc (.cells #[.int .i64 (atoiN wd)] 3)) rfl (.tmp 79) (.tmp 81) 34 34 rfl 3 (.int .i64 0) 1 8 Tryz.underlying34 info3' rfl ((ownsRow_keep HO.out HK5.out (fun _ _ h => h)).alloc _) rfl (Src.new (P := Tryz.prog) Tryz.underlying34 w5 1 [.int .i64 (atoiN wd)] 3 rfl (by simp [Value.oneCell'])) rfl ?hb1 ?hb2 ?hb3 ?hgo))
                  case hb1 => first | omega | (simp; omega) | (unfold maxLen; omega) | (unfold maxLen; simp; omega)
                  case hb2 => first | omega | (simp; omega) | (unfold maxLen; omega) | (unfold maxLen; simp; omega)
                  case hb3 => have z2 := HK5.out.size; have z4 := HK.out.size; simp; omega
                  case hgo =>
                  intro v' w7 happ
                  obtain ⟨ao7, cap7, rfl, _⟩ := ownsRow_shape happ.own
                  have hb7 := (((HB.out.keep HK5.out (fun h => h)).alloc (.cells #[.int .i64 (atoiN wd)] 3)).keep happ.keep (fun e => HNO.out e))
                  have hne7 : (Value.slice ao7 (a.n.length + 1) cap7).ownBlock ≠ some w3.heap.size := by
                    intro h
                    rcases happ.fresh with h1 | ⟨g, h1, h2⟩
                    · exact HNO.out (h1 ▸ h)
                    · have h5 : g = w3.heap.size := Option.some.inj (h1.symm.trans h)
                      have z1 := HB.out.lt; have z2 := HK5.out.size; rw [World.size_alloc] at h2
                      omega
                  have hkf : Keep (fun b => b = w3.heap.size) w4 w7 := ((HK.out.trans HK5.out (fun _ _ h => h.elim)).alloc _).trans happ.keep (fun g hg e => by have h3 := ownsRow_lt HO.out g e; omega)
                  have HKF := Lib.hid hkf; clear hkf
                  have HNE7 := Lib.hid hne7; clear hne7
                  have d2 := hb7.cell 0
                  have f2 := hb7.free 0
                  simp at d2
                  have HB7 := Lib.hid hb7; clear hb7
                  have HA7 := Lib.hid happ; clear happ
                  go_wp2
                  go_roundw
                  case rel => exact hfin.out ⟨a.n ++ [atoiN wd], a.word, false⟩ (.slice ao7 (a.n.length + 1) cap7) _ (by rw [HST.out, hok, HAO.out, HSZ.out]; simp) (by simp; omega) (by simpa [icells, hz4] using ownsRow_setCell HA7.out.own ⟨w3.heap.size, 0, none⟩ (.slice ao7 (a.n.length + 1) cap7) HNE7.out) (by simpa using HB7.out.set 0 (.slice ao7 (a.n.length + 1) cap7)) (HKF.out.setCell _ _ (fun _ => rfl))
                  case measure => simp [intOf]; omega
          · have hke : k = so.length := by omega
            subst hke
            clear hlt
            have HSF : Hid (∀ W, Keep (fun k => k = w.heap.size ∨ k = w.heap.size + 1) wr W → W.cell? ⟨w2.heap.size, 0, none⟩ = some (.string (bs so)) ∧ W.cell? ⟨w2.heap.size, 1, none⟩ = some (.func (.func f) #[] #[]) ∧ W.cell? ⟨w3.heap.size, 0, none⟩ = some (.slice ao a.n.length cap) ∧ W.cell? ⟨w3.heap.size, 1, none⟩ = some (.string a.word)) := Lib.hid fun W hW => by
              have B6 := (((HN3.out.keep HK34.out (fun h => h)).keep HK.out (show ¬ w2.heap.size = w3.heap.size by omega)).keep hW (show ¬ (w2.heap.size = w.heap.size ∨ w2.heap.size = w.heap.size + 1) by omega))
              have B8 := HB.out.keep hW (show ¬ (w3.heap.size = w.heap.size ∨ w3.heap.size = w.heap.size + 1) by omega)
              exact ⟨B6.cell 0, B6.cell 1, B8.cell 0, B8.cell 1⟩
            obtain ⟨d0, d1, d2, d3⟩ := HSF.out wr (Keep.refl _ _)
            have hkd : Keep (fun _ => False) w0 wr.drew := HK0R.out.drew
            obtain ⟨⟨r0, r1, r2, r3⟩, g0, g1, g2, g3⟩ := HR.out wr HK0R.out
            have hir : ((so.length : Int) < (so.length : Int)) = False := by simp
            go_wp2
            go_region_held3 (fun W => W.cell? ⟨w2.heap.size, 0, none⟩ = some (.string (bs so)) ∧ W.cell? ⟨w2.heap.size, 1, none⟩ = some (.func (.func f) #[] #[]) ∧ W.cell? ⟨w3.heap.size, 0, none⟩ = some (.slice ao a.n.length cap) ∧ W.cell? ⟨w3.heap.size, 1, none⟩ = some (.string a.word))
              (first | exact ⟨d0, d1, d2, d3⟩ | ((refine HSF.out _ ?_; repeat (first | exact Keep.refl _ _ | apply Keep.drew | refine Keep.setCell ?_ _ _ (fun _ => .inl rfl) | refine Keep.setCell ?_ _ _ (fun _ => .inr rfl))))) (fail)
            clear d0 d1 d2 d3 r0 r1 r2 r3 g0 g1 g2 g3 hir HSF
            go_wp2
            (try simp only [Exit.inBlock, Exit.then])
            refine form_backd (HN1.out.keep HK0R.out (fun h => h)) (HN2.out.keep HK0R.out (fun h => h)) rfl rfl (by omega) rfl rfl rfl rfl (fun wf hkf => ?_)
            show FormPost _ _ _ _
            unfold FormPost
            rw [HF.out]
            have hfa : a = foldF so ws.tail := by
              rw [HA.out]; unfold foldF; rw [List.take_of_length_le (by rw [List.length_zip]; omega)]
            rw [← hfa]
            refine ⟨_, rfl, ?_, (HK0.out.trans HK0R.out (fun _ _ h => h)).trans hkf (fun k hk e => by omega)⟩
            exact ownsRow_base (ownsRow_keep HO.out hkf (fun g hg e => by have := ownsRow_lt HO.out g hg; omega)) (by omega)
      · have hne : (((ws.length : Int) - 1) != ((bs so).size : Int)) = true := by rw [hso]; simp; omega
        have hne2 : (((ws.length : Int) - 1) != (so.length : Int)) = true := by simp; omega
        have hne3 : (((ws.length : Int) - 1) = (so.length : Int)) = False := by simp; omega
        rw [if_neg hlen] at HF
        obtain ⟨⟨r0, r1, r2, r3⟩, g0, g1, g2, g3⟩ := HR.out w3 hk3
        have HK3 := Lib.hid hk3; clear hk3
        go_wp2
        (try simp only [Exit.inBlock, Exit.then])
        refine form_back (HN1.out.keep HK3.out (fun h => h)) (HN2.out.keep HK3.out (fun h => h)) rfl rfl (by omega) rfl rfl rfl rfl (fun wf hkf => ?_)
        show FormPost _ _ _ _
        unfold FormPost
        rw [HF.out]
        exact ⟨rfl, (HK0.out.trans HK3.out (fun _ _ h => h)).trans hkf (fun k hk e => by omega)⟩
end Go.Proofs.YthdkamnclbfehaaGreatDoor
