/- A state of one's own: what writes into it leave. -/
import Derived.Test.YthdkamnclbfehaaGreatDoorState
namespace Go.Proofs.YthdkamnclbfehaaGreatDoor
set_option linter.unusedSimpArgs false
set_option linter.unusedVariables false
set_option linter.unnecessarySimpa false
open Go.RowKit

theorem OSt.keep {T : Nat → Prop} {base : Nat} {w w' : World} {V : StV} {S : St} (h : OSt base w V S) (k : Keep T w w') (hT : ∀ i, V.fp i → ¬ T i) : OSt base w' V S :=
  ⟨h.blk.keep k (hT _ (.inl rfl)), h.ge, h.rb.keep k fun b e => hT b (.inr (.inl e)), h.bb, ownsRow_keep h.ol k fun b e => hT b (.inr (.inr (.inl e))),
   ownsRow_keep h.oc k fun b e => hT b (.inr (.inr (.inr (.inl e)))), ownsRow_keep h.ot k fun b e => hT b (.inr (.inr (.inr (.inr (.inl e))))), ownsRow_keep h.on k fun b e => hT b (.inr (.inr (.inr (.inr (.inr e))))), h.ct⟩
theorem OSt.lt {base : Nat} {w : World} {V : StV} {S : St} (h : OSt base w V S) : base ≤ w.heap.size := by
  have := h.blk.lt; have := h.ge; omega
theorem OSt.fp_lt {base : Nat} {w : World} {V : StV} {S : St} (h : OSt base w V S) : ∀ k, V.fp k → k < w.heap.size := (h.at h.lt).lt
theorem OSt.bne {base : Nat} {w : World} {V : StV} {S : St} (h : OSt base w V S) : ∀ k, V.vb.ownBlock = some k → k ≠ V.b := fun k e e' => by
  have := h.bb k e; have := h.ge; omega
theorem OSt.lne {base : Nat} {w : World} {V : StV} {S : St} (h : OSt base w V S) : V.vl.ownBlock ≠ some V.b := ownsRow_blk h.ol h.blk (by decide)
theorem OSt.cne {base : Nat} {w : World} {V : StV} {S : St} (h : OSt base w V S) : V.vc.ownBlock ≠ some V.b := ownsRow_blk h.oc h.blk (by decide)
theorem OSt.tne {base : Nat} {w : World} {V : StV} {S : St} (h : OSt base w V S) : V.vt.ownBlock ≠ some V.b := ownsRow_blk h.ot h.blk (by decide)
theorem OSt.nne {base : Nat} {w : World} {V : StV} {S : St} (h : OSt base w V S) : V.vn.ownBlock ≠ some V.b := ownsRow_blk h.on h.blk (by decide)
theorem OSt.fp_ge {base : Nat} {w : World} {V : StV} {S : St} (h : OSt base w V S) : (∀ k, V.vl.ownBlock = some k → base ≤ k) ∧ (∀ k, V.vc.ownBlock = some k → base ≤ k) ∧ (∀ k, V.vt.ownBlock = some k → base ≤ k) ∧ (∀ k, V.vn.ownBlock = some k → base ≤ k) :=
  ⟨fun k e => (h.ol.lt k e).1, fun k e => (h.oc.lt k e).1, fun k e => (h.ot.lt k e).1, fun k e => (h.on.lt k e).1⟩

theorem OSt.setLots {base : Nat} {w w1 : World} {V : StV} {S : St} {v' : Value} {ls : List Lot} (h : OSt base w V S) (hk : Keep (fun k => V.vl.ownBlock = some k) w w1)
    (ho : w1.ownsRow base 214 4 v' ls.length (lotCells ls)) (hf : v'.ownBlock = V.vl.ownBlock ∨ ∃ g, v'.ownBlock = some g ∧ w.heap.size ≤ g) :
    OSt base (w1.setCell ⟨V.b, 1, none⟩ v') { V with vl := v' } { S with lots := ls } := by
  have hs : Keep (fun k => k = V.b) w1 (w1.setCell ⟨V.b, 1, none⟩ v') := (Keep.refl _ _).setCell _ _ (fun _ => rfl)
  have hv : v'.ownBlock ≠ some V.b := by
    intro e
    rcases hf with h1 | ⟨g, h1, h2⟩
    · exact h.lne (h1 ▸ e)
    · have : g = V.b := Option.some.inj (h1.symm.trans e)
      have := h.blk.lt; omega
  refine ⟨?_, h.ge, ?_, h.bb, ownsRow_setCell ho _ _ hv, ?_, ?_, ?_, h.ct⟩
  · have := (h.blk.keep hk h.lne).set 1 v'
    simpa [StV.cells] using this
  · exact (h.rb.keep hk (fun b e e' => by have := h.bb b e; have := h.fp_ge.1 b e'; omega)).keep hs (fun b e e' => h.bne b e e')
  · exact ownsRow_setCell (ownsRow_keep h.oc hk (fun b e e' => ownsRow_types h.ol h.oc (by decide) b e' e)) _ _ h.cne
  · exact ownsRow_setCell (ownsRow_keep h.ot hk (fun b e e' => ownsRow_types h.ol h.ot (by decide) b e' e)) _ _ h.tne
  · exact ownsRow_setCell (ownsRow_keep h.on hk (fun b e e' => ownsRow_types h.ol h.on (by decide) b e' e)) _ _ h.nne
theorem OSt.setContacts {base : Nat} {w w1 : World} {V : StV} {S : St} {v' : Value} {ls : List (Int × Int)} (h : OSt base w V S) (hk : Keep (fun k => V.vc.ownBlock = some k) w w1)
    (ho : w1.ownsRow base 176 2 v' ls.length (pairCells ls)) (hf : v'.ownBlock = V.vc.ownBlock ∨ ∃ g, v'.ownBlock = some g ∧ w.heap.size ≤ g) :
    OSt base (w1.setCell ⟨V.b, 2, none⟩ v') { V with vc := v' } { S with contacts := ls } := by
  have hs : Keep (fun k => k = V.b) w1 (w1.setCell ⟨V.b, 2, none⟩ v') := (Keep.refl _ _).setCell _ _ (fun _ => rfl)
  have hv : v'.ownBlock ≠ some V.b := by
    intro e
    rcases hf with h1 | ⟨g, h1, h2⟩
    · exact h.cne (h1 ▸ e)
    · have : g = V.b := Option.some.inj (h1.symm.trans e)
      have := h.blk.lt; omega
  refine ⟨?_, h.ge, ?_, h.bb, ?_, ownsRow_setCell ho _ _ hv, ?_, ?_, ?_⟩
  · have := (h.blk.keep hk h.cne).set 2 v'
    simpa [StV.cells] using this
  · exact (h.rb.keep hk (fun b e e' => by have := h.bb b e; have := h.fp_ge.2.1 b e'; omega)).keep hs (fun b e e' => h.bne b e e')
  · exact ownsRow_setCell (ownsRow_keep h.ol hk (fun b e e' => ownsRow_types h.oc h.ol (by decide) b e' e)) _ _ h.lne
  · exact ownsRow_setCell (ownsRow_keep h.ot hk (fun b e e' => h.ct b e' e)) _ _ h.tne
  · exact ownsRow_setCell (ownsRow_keep h.on hk (fun b e e' => ownsRow_types h.oc h.on (by decide) b e' e)) _ _ h.nne
  · intro k e e'
    rcases hf with h1 | ⟨g, h1, h2⟩
    · exact h.ct k (h1 ▸ e) e'
    · have : g = k := Option.some.inj (h1.symm.trans e)
      have := (h.ot.lt k e').2; omega
theorem OSt.setTests {base : Nat} {w w1 : World} {V : StV} {S : St} {v' : Value} {ls : List (Int × Int)} (h : OSt base w V S) (hk : Keep (fun k => V.vt.ownBlock = some k) w w1)
    (ho : w1.ownsRow base 176 2 v' ls.length (pairCells ls)) (hf : v'.ownBlock = V.vt.ownBlock ∨ ∃ g, v'.ownBlock = some g ∧ w.heap.size ≤ g) :
    OSt base (w1.setCell ⟨V.b, 3, none⟩ v') { V with vt := v' } { S with tests := ls } := by
  have hs : Keep (fun k => k = V.b) w1 (w1.setCell ⟨V.b, 3, none⟩ v') := (Keep.refl _ _).setCell _ _ (fun _ => rfl)
  have hv : v'.ownBlock ≠ some V.b := by
    intro e
    rcases hf with h1 | ⟨g, h1, h2⟩
    · exact h.tne (h1 ▸ e)
    · have : g = V.b := Option.some.inj (h1.symm.trans e)
      have := h.blk.lt; omega
  refine ⟨?_, h.ge, ?_, h.bb, ?_, ?_, ownsRow_setCell ho _ _ hv, ?_, ?_⟩
  · have := (h.blk.keep hk h.tne).set 3 v'
    simpa [StV.cells] using this
  · exact (h.rb.keep hk (fun b e e' => by have := h.bb b e; have := h.fp_ge.2.2.1 b e'; omega)).keep hs (fun b e e' => h.bne b e e')
  · exact ownsRow_setCell (ownsRow_keep h.ol hk (fun b e e' => ownsRow_types h.ot h.ol (by decide) b e' e)) _ _ h.lne
  · exact ownsRow_setCell (ownsRow_keep h.oc hk (fun b e e' => h.ct b e e')) _ _ h.cne
  · exact ownsRow_setCell (ownsRow_keep h.on hk (fun b e e' => ownsRow_types h.ot h.on (by decide) b e' e)) _ _ h.nne
  · intro k e e'
    rcases hf with h1 | ⟨g, h1, h2⟩
    · exact h.ct k e (h1 ▸ e')
    · have : g = k := Option.some.inj (h1.symm.trans e')
      have := (h.oc.lt k e).2; omega
theorem OSt.setNotes {base : Nat} {w w1 : World} {V : StV} {S : St} {v' : Value} {ls : List ByteArray} (h : OSt base w V S) (hk : Keep (fun k => V.vn.ownBlock = some k) w w1)
    (ho : w1.ownsRow base 9 1 v' ls.length (strCells ls)) (hf : v'.ownBlock = V.vn.ownBlock ∨ ∃ g, v'.ownBlock = some g ∧ w.heap.size ≤ g) :
    OSt base (w1.setCell ⟨V.b, 4, none⟩ v') { V with vn := v' } { S with notes := ls } := by
  have hs : Keep (fun k => k = V.b) w1 (w1.setCell ⟨V.b, 4, none⟩ v') := (Keep.refl _ _).setCell _ _ (fun _ => rfl)
  have hv : v'.ownBlock ≠ some V.b := by
    intro e
    rcases hf with h1 | ⟨g, h1, h2⟩
    · exact h.nne (h1 ▸ e)
    · have : g = V.b := Option.some.inj (h1.symm.trans e)
      have := h.blk.lt; omega
  refine ⟨?_, h.ge, ?_, h.bb, ?_, ?_, ?_, ownsRow_setCell ho _ _ hv, h.ct⟩
  · have := (h.blk.keep hk h.nne).set 4 v'
    simpa [StV.cells] using this
  · exact (h.rb.keep hk (fun b e e' => by have := h.bb b e; have := h.fp_ge.2.2.2 b e'; omega)).keep hs (fun b e e' => h.bne b e e')
  · exact ownsRow_setCell (ownsRow_keep h.ol hk (fun b e e' => ownsRow_types h.on h.ol (by decide) b e' e)) _ _ h.lne
  · exact ownsRow_setCell (ownsRow_keep h.oc hk (fun b e e' => ownsRow_types h.on h.oc (by decide) b e' e)) _ _ h.cne
  · exact ownsRow_setCell (ownsRow_keep h.ot hk (fun b e e' => ownsRow_types h.on h.ot (by decide) b e' e)) _ _ h.tne

theorem OSt.fp_new {base : Nat} {w : World} {V : StV} {S : St} (h : OSt base w V S) : ∀ k, V.fp k → V.vb.ownBlock = some k ∨ base ≤ k := fun k hk => by
  rcases hk with e | e | e | e | e | e
  · exact .inr (e ▸ h.ge)
  · exact .inl e
  · exact .inr (h.fp_ge.1 k e)
  · exact .inr (h.fp_ge.2.1 k e)
  · exact .inr (h.fp_ge.2.2.1 k e)
  · exact .inr (h.fp_ge.2.2.2 k e)
/-- What a writer into a state leaves. -/
structure Chg (base : Nat) (w : World) (V V' : StV) (w' : World) : Prop where
  b : V'.b = V.b
  vb : V'.vb = V.vb
  fp : ∀ k, V'.fp k → V.fp k ∨ w.heap.size ≤ k
  keep : Keep (fun k => base ≤ k ∧ V.fp k) w w'
theorem Chg.refl (base : Nat) (w : World) (V : StV) : Chg base w V V w := ⟨rfl, rfl, fun _ h => .inl h, Keep.refl _ _⟩
theorem Chg.trans {base : Nat} {w w1 w2 : World} {V V1 V2 : StV} (h : Chg base w V V1 w1) (h' : Chg base w1 V1 V2 w2) : Chg base w V V2 w2 :=
  ⟨h'.b.trans h.b, h'.vb.trans h.vb, fun k hk => (h'.fp k hk).elim (h.fp k) (fun e => .inr (Nat.le_trans h.keep.size e)),
   h.keep.trans h'.keep (fun k hk e => ⟨e.1, (h.fp k e.2).elim id (fun e' => absurd hk (by omega))⟩)⟩
theorem Chg.before {base : Nat} {w w1 w2 : World} {V V2 : StV} (k : Keep (fun _ => False) w w1) (h' : Chg base w1 V V2 w2) : Chg base w V V2 w2 :=
  ⟨h'.b, h'.vb, fun i hi => (h'.fp i hi).elim .inl (fun e => .inr (Nat.le_trans k.size e)), (k.mono (fun _ _ e => e.elim)).trans h'.keep (fun _ _ e => e)⟩
theorem Chg.after {base : Nat} {w w1 w2 : World} {V V2 : StV} (h' : Chg base w V V2 w1) (k : Keep (fun _ => False) w1 w2) : Chg base w V V2 w2 :=
  ⟨h'.b, h'.vb, h'.fp, h'.keep.trans k (fun _ _ e => e.elim)⟩
end Go.Proofs.YthdkamnclbfehaaGreatDoor
