/- A house in memory, and what Open answers, in plain Lean. -/
import Derived.Test.YtmiencgloondjaaGreatDoorNN13
import Derived.Test.YtmiencgloondjaaGreatDoorNN11
import Derived.Test.YtmiencgloondjaaGreatDoorNN18
import Derived.Test.YtmiencgloondjaaGreatDoorNN19
import Derived.Test.YtmiencgloondjaaGreatDoorNN5
import Derived.Test.YtmiencgloondjaaGreatDoorNN9

/- A house in memory, and what Open answers, in plain Lean. -/
namespace Go.Proofs.YtmiencgloondjaaGreatDoor
set_option linter.unusedSimpArgs false
set_option linter.unusedVariables false
set_option linter.unnecessarySimpa false
open Go.RowKit

/-- Where a house lies: its block, its disk's block and bytes, its state, its lines. -/
structure HV where
  h : Nat
  d : Nat
  v : Value
  V : StV
  vl : Value
structure HouseAt (base : Nat) (w : World) (H : HV) (D : Dsk) (S : St) (ls : List ByteArray) (lost : Bool) : Prop where
  blk : Blk w H.h #[.pointer (some ⟨H.d, 0, none⟩), .pointer (some ⟨H.V.b, 0, none⟩), H.vl, .bool lost] 47
  disk : DiskAt base w H.d D H.v
  st : StAt w H.V S
  own : w.ownsRow base 9 1 H.vl ls.length (strCells ls)
  ge : base ≤ H.h
  sep : ∀ k, H.V.fp k → k ≠ H.h ∧ k ≠ H.d ∧ H.v.ownBlock ≠ some k ∧ H.vl.ownBlock ≠ some k
/-- What a house's calls may write. -/
def HV.tp (H : HV) (k : Nat) : Prop := k = H.h ∨ k = H.d ∨ H.v.ownBlock = some k ∨ H.vl.ownBlock = some k
theorem HouseAt.keep {T : Nat → Prop} {base : Nat} {w w' : World} {H : HV} {D : Dsk} {S : St} {ls : List ByteArray} {lost : Bool} (h : HouseAt base w H D S ls lost) (k : Keep T w w') (h1 : ∀ i, H.tp i → ¬ T i) (h2 : ∀ i, H.V.fp i → ¬ T i) : HouseAt base w' H D S ls lost :=
  ⟨h.blk.keep k (h1 _ (.inl rfl)), h.disk.keep k (h1 _ (.inr (.inl rfl))) (fun g e => h1 g (.inr (.inr (.inl e)))), h.st.keep k h2, ownsRow_keep h.own k (fun g e => h1 g (.inr (.inr (.inr e)))), h.ge, h.sep⟩
theorem Blk.types {w : World} {b b' : Nat} {c c' : Array Value} {t t' : TypeId} (h : Blk w b c t) (h' : Blk w b' c' t') (ht : t ≠ t') : b ≠ b' := fun e => by
  subst e
  unfold Blk at h h'
  rw [h] at h'
  cases h'
  exact ht rfl

/-- The commands, and what holds of the states that they are run on. -/
structure Sys (F : Nat → St → FA → Res) (I : Nat → St → Prop) (n K : Nat) : Prop where
  run : ∀ k S line, k ≤ K → I k S → line.size ≤ n → RunOK F S line
  small : ∀ k S, k ≤ K → I k S → S.small
  next : ∀ k S line, k ≤ K → I k S → line.size ≤ n → (doF F S line).err = 0 → I (k + 1) (doF F S line).st

def openLoop (F : Nat → St → FA → Res) : Nat → List UInt8 → St → List ByteArray → Nat → St × List ByteArray × Nat
  | 0, _, S, ls, at_ => (S, ls, at_)
  | k + 1, rest, S, ls, at_ =>
    match cutNL rest with
    | none => (S, ls, at_)
    | some (a, b) => if (doF F S (bs a)).err = 0 then openLoop F k b (doF F S (bs a)).st (ls ++ [bs a]) (at_ + (a.length + 1)) else (S, ls, at_)
theorem cutNL_true {l : List UInt8} (h : (cutNL l).isSome = true) : cutNL l = some (cutPre l, l.drop ((cutPre l).length + 1)) ∧ (cutPre l).length + 1 ≤ l.length := by
  cases hc : cutNL l with
  | none => rw [hc] at h; cases h
  | some x =>
    obtain ⟨a, b⟩ := x
    have h1 := cutNL_some hc
    have h2 : cutPre l = a := by unfold cutPre; rw [hc]
    rw [h2]
    exact ⟨by rw [h1.2.2], h1.1⟩
theorem openLoop_step {F : Nat → St → FA → Res} {fuel : Nat} {rest : List UInt8} {S rs : St} {ls : List ByteArray} {at_ : Nat} {ro : ByteArray} (hf : rest.length < fuel) (h : (cutNL rest).isSome = true) (hR : doF F S (bs (cutPre rest)) = ⟨0, rs, ro⟩) :
    openLoop F fuel rest S ls at_ = openLoop F (fuel - 1) (rest.drop ((cutPre rest).length + 1)) rs (ls ++ [bs (cutPre rest)]) (at_ + ((cutPre rest).length + 1)) := by
  obtain ⟨k, rfl⟩ : ∃ k, fuel = k + 1 := ⟨fuel - 1, by omega⟩
  show (match cutNL rest with | none => _ | some (a, b) => _) = _
  rw [(cutNL_true h).1]
  simp only [hR, if_true, Nat.add_sub_cancel]
theorem openLoop_none {F : Nat → St → FA → Res} {fuel : Nat} {rest : List UInt8} {S : St} {ls : List ByteArray} {at_ : Nat} (hf : rest.length < fuel) (h : (cutNL rest).isSome = false) :
    openLoop F fuel rest S ls at_ = (S, ls, at_) := by
  obtain ⟨k, rfl⟩ : ∃ k, fuel = k + 1 := ⟨fuel - 1, by omega⟩
  cases hc : cutNL rest with
  | none => show (match cutNL rest with | none => _ | some (a, b) => _) = _; rw [hc]
  | some x => rw [hc] at h; cases h
theorem openLoop_err {F : Nat → St → FA → Res} {fuel : Nat} {rest : List UInt8} {S : St} {ls : List ByteArray} {at_ : Nat} {R : Res} (hf : rest.length < fuel) (h : (cutNL rest).isSome = true) (hR : doF F S (bs (cutPre rest)) = R) (he : R.err ≠ 0) :
    openLoop F fuel rest S ls at_ = (S, ls, at_) := by
  obtain ⟨k, rfl⟩ : ∃ k, fuel = k + 1 := ⟨fuel - 1, by omega⟩
  show (match cutNL rest with | none => _ | some (a, b) => _) = _
  rw [(cutNL_true h).1]
  simp only [hR, if_neg he]
structure OpenR where
  err : Int
  D : Dsk
  st : St
  ls : List ByteArray
def S0 (g : List Int) : St := ⟨g, [], [], [], []⟩
def openEnd (D : Dsk) (r : St × List ByteArray × Nat) : OpenR :=
  if r.2.2 < D.bytes.length then
    if (cutF D r.2.2).1 = 0 then ⟨(syncF (cutF D r.2.2).2).1, (syncF (cutF D r.2.2).2).2, r.1, r.2.1⟩ else ⟨(cutF D r.2.2).1, (cutF D r.2.2).2, r.1, r.2.1⟩
  else ⟨(syncF D).1, (syncF D).2, r.1, r.2.1⟩
def openF (F : Nat → St → FA → Res) (D : Dsk) (g : List Int) : OpenR :=
  if baysB g then
    if D.off then ⟨10, D, S0 g, []⟩ else openEnd D (openLoop F (D.bytes.length + 1) D.bytes (S0 g) [] 0)
  else ⟨2, D, S0 g, []⟩
def OpenPost (base : Nat) (w : World) (bd : Nat) (v : Value) (r : OpenR) (e : Ending) (w' : World) : Prop :=
  ∃ v', DiskAt base w' bd r.D v' ∧ (v'.ownBlock = v.ownBlock ∨ ∃ g, v'.ownBlock = some g ∧ w.heap.size ≤ g) ∧ Keep (fun k => k = bd ∨ v.ownBlock = some k) w w' ∧
    (r.err ≠ 0 → e = .returned (.tuple #[.pointer none, .int .i64 r.err])) ∧
    (r.err = 0 → ∃ H, e = .returned (.tuple #[.pointer (some ⟨H.h, 0, none⟩), .int .i64 0]) ∧ H.d = bd ∧ H.v = v' ∧ HouseAt base w' H r.D r.st r.ls false ∧ (∀ k, H.V.fp k → w.heap.size ≤ k) ∧ w.heap.size ≤ H.h ∧ ∀ k, H.vl.ownBlock = some k → w.heap.size ≤ k)

theorem Rd.drop1 {w : World} {ao : Option Addr} {n c : Nat} {l : List UInt8} (h : Rd w 1 (.slice ao n c) l.length (bcells l)) (i : Nat) (hi : i ≤ l.length) :
    Rd w 1 (.slice (if c = i then ao else ao.map (fun x => x.add i)) (l.drop i).length (c - i)) (l.drop i).length (bcells (l.drop i)) := by
  have hlen : (l.drop i).length = l.length - i := List.length_drop
  refine ⟨by simp [bcells_length], bcells_one _, ?_⟩
  rcases h.2.2 with ⟨e, h0⟩ | ⟨b, o, c', e, h1, h2, hx⟩
  · injection e with e1 e2 e3
    subst e1 e3
    have : i = 0 := by omega
    subst this
    exact .inl ⟨by rw [if_pos rfl, hlen, h0], by rw [hlen, h0]⟩
  · injection e with e1 e2 e3
    subst e1 e3
    by_cases hci : c = i
    · rw [if_pos hci]
      have h0 : (l.drop i).length = 0 := by omega
      refine .inr ⟨b, o, c - i, rfl, by omega, by omega, fun j u hu => ?_⟩
      have : (bcells (l.drop i))[j]? = none := List.getElem?_eq_none (by rw [bcells_length]; omega)
      rw [this] at hu; cases hu
    · rw [if_neg hci]
      refine .inr ⟨b, o + i, c - i, ?_, by omega, by omega, fun j u hu => ?_⟩
      · simp [add_lit]
      · have : (bcells (l.drop i))[j]? = (bcells l)[i + j]? := by simp [bcells, List.map_drop]
        rw [this] at hu
        rw [Nat.add_assoc]
        exact hx _ u hu
theorem open_fin {base bd hb : Nat} {w W W' : World} {D D2 : Dsk} {v v' vl : Value} {V : StV} {S : St} {ls : List ByteArray} (hd : DiskAt base w bd D v) (hbase : base ≤ w.heap.size) (hblk : Blk W hb #[.pointer (some ⟨bd, 0, none⟩), .pointer (some ⟨V.b, 0, none⟩), vl, .bool false] 47)
    (hst : StAt W V S) (hsep : ∀ k, V.fp k → w.heap.size ≤ k ∧ k ≠ hb ∧ vl.ownBlock ≠ some k) (hown : W.ownsRow w.heap.size 9 1 vl ls.length (strCells ls)) (hbw : w.heap.size ≤ hb) (hkw : Keep (fun _ => False) w W)
    (hk : Keep (fun k => k = bd ∨ v.ownBlock = some k) W W') (hd2 : DiskAt base W' bd D2 v') (hf : v'.ownBlock = v.ownBlock ∨ ∃ g, v'.ownBlock = some g ∧ W.heap.size ≤ g) :
    OpenPost base w bd v ⟨0, D2, S, ls⟩ (.returned (.tuple #[.pointer (some ⟨hb, 0, none⟩), .int .i64 0])) W' := by
  have hbd := hd.blk.lt
  have hvl : ∀ k, v.ownBlock = some k → k < w.heap.size := fun k e => (ownsRow_lt hd.own k e).2
  have hsz := hkw.size
  refine ⟨v', hd2, hf.imp id (fun ⟨g, h1, h2⟩ => ⟨g, h1, by omega⟩), (hkw.mono (fun _ _ h => h.elim)).trans hk (fun _ _ h => h), fun h => absurd rfl h, fun _ => ⟨⟨hb, bd, v', V, vl⟩, rfl, rfl, rfl, ⟨?_, hd2, ?_, ?_, by show base ≤ hb; omega, ?_⟩, fun k h => (hsep k h).1, hbw, fun k h => (ownsRow_lt hown k h).1⟩⟩
  · exact hblk.keep hk (fun e => e.elim (fun e => by omega) (fun e => by have := hvl _ e; omega))
  · exact hst.keep hk (fun i hi e => e.elim (fun e => by have := (hsep i hi).1; omega) (fun e => by have := hvl _ e; have := (hsep i hi).1; omega))
  · exact ownsRow_base (ownsRow_keep hown hk (fun g hg e => by have h5 := (ownsRow_lt hown g hg).1; exact e.elim (fun e => by omega) (fun e => by have := hvl _ e; omega))) hbase
  · intro k hk'
    have h1 := hsep k hk'
    refine ⟨h1.2.1, fun e => by have e' : k = bd := e; omega, fun e => ?_, h1.2.2⟩
    have e' : v'.ownBlock = some k := e
    rcases hf with h2 | ⟨g, h2, h3⟩
    · have := hvl k (h2 ▸ e'); omega
    · have h4 : g = k := Option.some.inj (h2.symm.trans e')
      have := hst.lt k hk'; omega
theorem open_err {base bd : Nat} {w W W' : World} {D2 : Dsk} {v v' : Value} {S : St} {ls : List ByteArray} {er : Int} (he : er ≠ 0) (hkw : Keep (fun _ => False) w W)
    (hk : Keep (fun k => k = bd ∨ v.ownBlock = some k) W W') (hd2 : DiskAt base W' bd D2 v') (hf : v'.ownBlock = v.ownBlock ∨ ∃ g, v'.ownBlock = some g ∧ W.heap.size ≤ g) :
    OpenPost base w bd v ⟨er, D2, S, ls⟩ (.returned (.tuple #[.pointer none, .int .i64 er])) W' := by
  have hsz := hkw.size
  exact ⟨v', hd2, hf.imp id (fun ⟨g, h1, h2⟩ => ⟨g, h1, by omega⟩), (hkw.mono (fun _ _ h => h.elim)).trans hk (fun _ _ h => h), fun _ => rfl, fun h => absurd h he⟩
end Go.Proofs.YtmiencgloondjaaGreatDoor

/- A house in memory: what each write into it leaves. -/
namespace Go.Proofs.YtmiencgloondjaaGreatDoor
set_option linter.unusedSimpArgs false
set_option linter.unusedVariables false
set_option linter.unnecessarySimpa false
open Go.RowKit

/-- What a call on a house leaves. -/
structure HChg (w : World) (H H' : HV) (w' : World) : Prop where
  h : H'.h = H.h
  d : H'.d = H.d
  tp : ∀ k, H'.tp k → H.tp k ∨ w.heap.size ≤ k
  fp : ∀ k, H'.V.fp k → H.V.fp k ∨ w.heap.size ≤ k
  keep : Keep H.tp w w'
theorem HChg.refl (w : World) (H : HV) : HChg w H H w := ⟨rfl, rfl, fun _ h => .inl h, fun _ h => .inl h, Keep.refl _ _⟩
theorem HChg.trans {w w1 w2 : World} {H H1 H2 : HV} (a : HChg w H H1 w1) (b : HChg w1 H1 H2 w2) : HChg w H H2 w2 :=
  ⟨b.h.trans a.h, b.d.trans a.d, fun k hk => (b.tp k hk).elim (a.tp k) (fun e => .inr (Nat.le_trans a.keep.size e)), fun k hk => (b.fp k hk).elim (a.fp k) (fun e => .inr (Nat.le_trans a.keep.size e)),
   a.keep.trans b.keep (fun k hk e => (a.tp k e).elim id (fun e' => absurd hk (by omega)))⟩
theorem HChg.idle {w w' : World} (H : HV) (k : Keep (fun _ => False) w w') : HChg w H H w' := ⟨rfl, rfl, fun _ h => .inl h, fun _ h => .inl h, k.mono (fun _ _ h => h.elim)⟩

theorem HouseAt.fp_lt {base : Nat} {w : World} {H : HV} {D : Dsk} {S : St} {ls : List ByteArray} {lost : Bool} (h : HouseAt base w H D S ls lost) : ∀ k, H.V.fp k → k < w.heap.size := h.st.lt
theorem HouseAt.tp_lt {base : Nat} {w : World} {H : HV} {D : Dsk} {S : St} {ls : List ByteArray} {lost : Bool} (h : HouseAt base w H D S ls lost) : ∀ k, H.tp k → k < w.heap.size := fun k hk => by
  rcases hk with e | e | e | e
  · rw [e]; exact h.blk.lt
  · rw [e]; exact h.disk.blk.lt
  · exact (ownsRow_lt h.disk.own k e).2
  · exact (ownsRow_lt h.own k e).2
theorem HouseAt.hd {base : Nat} {w : World} {H : HV} {D : Dsk} {S : St} {ls : List ByteArray} {lost : Bool} (h : HouseAt base w H D S ls lost) : H.h ≠ H.d := h.blk.types h.disk.blk (by decide)
theorem HouseAt.vh {base : Nat} {w : World} {H : HV} {D : Dsk} {S : St} {ls : List ByteArray} {lost : Bool} (h : HouseAt base w H D S ls lost) : H.v.ownBlock ≠ some H.h := ownsRow_blk h.disk.own h.blk (by decide)
theorem HouseAt.lh {base : Nat} {w : World} {H : HV} {D : Dsk} {S : St} {ls : List ByteArray} {lost : Bool} (h : HouseAt base w H D S ls lost) : H.vl.ownBlock ≠ some H.h := ownsRow_blk h.own h.blk (by decide)
theorem HouseAt.ld {base : Nat} {w : World} {H : HV} {D : Dsk} {S : St} {ls : List ByteArray} {lost : Bool} (h : HouseAt base w H D S ls lost) : H.vl.ownBlock ≠ some H.d := ownsRow_blk h.own h.disk.blk (by decide)
theorem HouseAt.lv {base : Nat} {w : World} {H : HV} {D : Dsk} {S : St} {ls : List ByteArray} {lost : Bool} (h : HouseAt base w H D S ls lost) : ∀ k, H.vl.ownBlock = some k → H.v.ownBlock ≠ some k := ownsRow_types h.own h.disk.own (by decide)

theorem HouseAt.idle {base : Nat} {w w' : World} {H : HV} {D : Dsk} {S : St} {ls : List ByteArray} {lost : Bool} (h : HouseAt base w H D S ls lost) (k : Keep (fun _ => False) w w') : HouseAt base w' H D S ls lost :=
  h.keep k (fun _ _ h => h) (fun _ _ h => h)
theorem HouseAt.onDisk {base : Nat} {w w' : World} {H : HV} {D D' : Dsk} {S : St} {ls : List ByteArray} {lost : Bool} {v' : Value} (h : HouseAt base w H D S ls lost) (k : Keep (fun k => k = H.d ∨ H.v.ownBlock = some k) w w')
    (hd : DiskAt base w' H.d D' v') (hf : v'.ownBlock = H.v.ownBlock ∨ ∃ g, v'.ownBlock = some g ∧ w.heap.size ≤ g) :
    HouseAt base w' { H with v := v' } D' S ls lost ∧ HChg w H { H with v := v' } w' := by
  refine ⟨⟨h.blk.keep k (fun e => e.elim h.hd h.vh), hd, h.st.keep k (fun i hi e => e.elim (h.sep i hi).2.1 (h.sep i hi).2.2.1), ownsRow_keep h.own k (fun g hg e => e.elim (fun e => h.ld (e ▸ hg)) (h.lv g hg)), h.ge, fun i hi => ⟨(h.sep i hi).1, (h.sep i hi).2.1, fun e => ?_, (h.sep i hi).2.2.2⟩⟩, rfl, rfl, fun i hi => ?_, fun _ h => .inl h, k.mono (fun i _ e => e.elim (fun e => .inr (.inl e)) (fun e => .inr (.inr (.inl e))))⟩
  · have e' : v'.ownBlock = some i := e
    rcases hf with h1 | ⟨g, h1, h2⟩
    · exact (h.sep i hi).2.2.1 (h1 ▸ e')
    · have h3 : g = i := Option.some.inj (h1.symm.trans e')
      have := h.fp_lt i hi; omega
  · rcases hi with e | e | e | e
    · exact .inl (.inl e)
    · exact .inl (.inr (.inl e))
    · have e' : v'.ownBlock = some i := e
      rcases hf with h1 | ⟨g, h1, h2⟩
      · exact .inl (.inr (.inr (.inl (h1 ▸ e'))))
      · have h3 : g = i := Option.some.inj (h1.symm.trans e')
        exact .inr (by omega)
    · exact .inl (.inr (.inr (.inr e)))
theorem HouseAt.setH {base : Nat} {w : World} {H : HV} {D : Dsk} {S : St} {ls : List ByteArray} {lost : Bool} (h : HouseAt base w H D S ls lost) (o : Nat) (u : Value) :
    DiskAt base (w.setCell ⟨H.h, o, none⟩ u) H.d D H.v ∧ StAt (w.setCell ⟨H.h, o, none⟩ u) H.V S ∧ (w.setCell ⟨H.h, o, none⟩ u).ownsRow base 9 1 H.vl ls.length (strCells ls) ∧ Keep (fun k => k = H.h) w (w.setCell ⟨H.h, o, none⟩ u) := by
  have hk : Keep (fun k => k = H.h) w (w.setCell ⟨H.h, o, none⟩ u) := (Keep.refl _ _).setCell _ _ (fun _ => rfl)
  exact ⟨h.disk.keep hk (fun e => h.hd e.symm) (fun g hg e => h.vh (e ▸ hg)), h.st.keep hk (fun i hi e => (h.sep i hi).1 e), ownsRow_keep h.own hk (fun g hg e => h.lh (e ▸ hg)), hk⟩
theorem HouseAt.setLost {base : Nat} {w : World} {H : HV} {D : Dsk} {S : St} {ls : List ByteArray} {lost : Bool} (h : HouseAt base w H D S ls lost) (b : Bool) :
    HouseAt base (w.setCell ⟨H.h, 3, none⟩ (.bool b)) H D S ls b ∧ HChg w H H (w.setCell ⟨H.h, 3, none⟩ (.bool b)) := by
  obtain ⟨h1, h2, h3, hk⟩ := h.setH 3 (.bool b)
  exact ⟨⟨by simpa using h.blk.set 3 (.bool b), h1, h2, h3, h.ge, h.sep⟩, rfl, rfl, fun _ h => .inl h, fun _ h => .inl h, hk.mono (fun _ _ e => .inl e)⟩
theorem HouseAt.setState {base : Nat} {w : World} {H : HV} {D : Dsk} {S S' : St} {ls : List ByteArray} {lost : Bool} {V' : StV} (h : HouseAt base w H D S ls lost) (hs : StAt w V' S')
    (hf : ∀ k, V'.fp k → k ≠ H.h ∧ k ≠ H.d ∧ H.v.ownBlock ≠ some k ∧ H.vl.ownBlock ≠ some k) :
    HouseAt base (w.setCell ⟨H.h, 1, none⟩ (.pointer (some ⟨V'.b, 0, none⟩))) { H with V := V' } D S' ls lost := by
  obtain ⟨h1, h2, h3, hk⟩ := h.setH 1 (.pointer (some ⟨V'.b, 0, none⟩))
  exact ⟨by simpa using h.blk.set 1 (.pointer (some ⟨V'.b, 0, none⟩)), h1, hs.keep hk (fun i hi e => (hf i hi).1 e), h3, h.ge, hf⟩
theorem HouseAt.setLines {base : Nat} {w w1 : World} {H : HV} {D : Dsk} {S : St} {ls : List ByteArray} {lost : Bool} {vl' : Value} {ls' : List ByteArray} (h : HouseAt base w H D S ls lost)
    (k : Keep (fun k => H.vl.ownBlock = some k) w w1) (ho : w1.ownsRow base 9 1 vl' ls'.length (strCells ls')) (hf : vl'.ownBlock = H.vl.ownBlock ∨ ∃ g, vl'.ownBlock = some g ∧ w.heap.size ≤ g) :
    HouseAt base (w1.setCell ⟨H.h, 2, none⟩ vl') { H with vl := vl' } D S ls' lost ∧ HChg w H { H with vl := vl' } (w1.setCell ⟨H.h, 2, none⟩ vl') := by
  have hk : Keep (fun k => k = H.h) w1 (w1.setCell ⟨H.h, 2, none⟩ vl') := (Keep.refl _ _).setCell _ _ (fun _ => rfl)
  have hb1 := h.blk.keep k h.lh
  have hn : ∀ i, vl'.ownBlock = some i → (H.V.fp i → False) := fun i e hi => by
    rcases hf with h1 | ⟨g, h1, h2⟩
    · exact (h.sep i hi).2.2.2 (h1 ▸ e)
    · have h3 : g = i := Option.some.inj (h1.symm.trans e)
      have := h.fp_lt i hi; omega
  refine ⟨⟨by simpa using hb1.set 2 vl', (h.disk.keep k h.ld (fun g hg e => h.lv g e hg)).keep hk (fun e => h.hd e.symm) (fun g hg e => h.vh (e ▸ hg)), (h.st.keep k (fun i hi e => (h.sep i hi).2.2.2 e)).keep hk (fun i hi e => (h.sep i hi).1 e),
    ownsRow_keep ho hk (fun g hg e => ownsRow_blk ho hb1 (by decide) (e ▸ hg)), h.ge, fun i hi => ⟨(h.sep i hi).1, (h.sep i hi).2.1, (h.sep i hi).2.2.1, fun e => hn i e hi⟩⟩, rfl, rfl, fun i hi => ?_, fun _ h => .inl h,
    (k.mono (fun i _ e => .inr (.inr (.inr e)))).trans hk (fun i _ e => .inl e)⟩
  rcases hi with e | e | e | e
  · exact .inl (.inl e)
  · exact .inl (.inr (.inl e))
  · exact .inl (.inr (.inr (.inl e)))
  · have e' : vl'.ownBlock = some i := e
    rcases hf with h1 | ⟨g, h1, h2⟩
    · exact .inl (.inr (.inr (.inr (h1 ▸ e'))))
    · have h3 : g = i := Option.some.inj (h1.symm.trans e')
      exact .inr (by omega)

theorem hdo_fin {base : Nat} {w w3 wc w5 w6 : World} {H H5 H6 : HV} {D D2 : Dsk} {S rs : St} {ls : List ByteArray} {lost : Bool} {V' : StV} (h : HouseAt base w H D S ls lost) (hk3 : Keep (fun _ => False) w w3) (hkc : Keep (fun _ => False) w3 wc) (hst : StAt w3 V' rs)
    (hfp : ∀ k, V'.fp k → H.V.fp k ∨ w.heap.size ≤ k) (hc5 : HChg wc H H5 w5) (hc6 : HChg w5 H5 H6 w6) (h6 : HouseAt base w6 H6 D2 S ls lost) :
    HouseAt base (w6.setCell ⟨H6.h, 1, none⟩ (.pointer (some ⟨V'.b, 0, none⟩))) { H6 with V := V' } D2 rs ls lost ∧ HChg w H { H6 with V := V' } (w6.setCell ⟨H6.h, 1, none⟩ (.pointer (some ⟨V'.b, 0, none⟩))) := by
  have hc56 := hc5.trans hc6
  have hz3 := hk3.size
  have hzc := hkc.size
  have hap : ∀ k, V'.fp k → ¬ H.tp k := fun k hk e => by
    rcases hfp k hk with e' | e'
    · have := h.sep k e'
      rcases e with e | e | e | e
      · exact this.1 e
      · exact this.2.1 e
      · exact this.2.2.1 e
      · exact this.2.2.2 e
    · have := h.tp_lt k e; omega
  have hlt : ∀ k, V'.fp k → k < wc.heap.size := fun k hk => by have := hst.lt k hk; omega
  have hap6 : ∀ k, V'.fp k → ¬ H6.tp k := fun k hk e => by
    rcases hc56.tp k e with e' | e'
    · exact hap k hk e'
    · have := hlt k hk; omega
  have hst6 : StAt w6 V' rs := (hst.keep hkc (fun _ _ h => h)).keep hc56.keep hap
  refine ⟨h6.setState hst6 (fun k hk => ⟨fun e => hap6 k hk (.inl e), fun e => hap6 k hk (.inr (.inl e)), fun e => hap6 k hk (.inr (.inr (.inl e))), fun e => hap6 k hk (.inr (.inr (.inr e)))⟩), hc56.h, hc56.d, fun k hk => ?_, fun k hk => hfp k hk, ?_⟩
  · rcases hc56.tp k hk with e | e
    · exact .inl e
    · exact .inr (by omega)
  · have hkw : Keep H.tp w w6 := ((hk3.trans hkc (fun _ _ h => h)).mono (fun _ _ h => h.elim)).trans hc56.keep (fun _ _ h => h)
    refine hkw.setCell _ _ (fun hl => ?_)
    rw [hc56.h]
    exact .inl rfl
structure HRes where
  err : Int
  out : ByteArray
  D : Dsk
  st : St
  ls : List ByteArray
  lost : Bool
/-- What Do of a house does. -/
def hdoF (F : Nat → St → FA → Res) (D : Dsk) (S : St) (ls : List ByteArray) (lost : Bool) (s : ByteArray) : HRes :=
  if lost then ⟨7, bs [], D, S, ls, true⟩
  else if (doF F S s).err = 0 then
    if (appendF D (s.data.toList ++ [10])).1 = 0 then
      if (syncF (appendF D (s.data.toList ++ [10])).2).1 = 0 then ⟨0, (doF F S s).out, (syncF (appendF D (s.data.toList ++ [10])).2).2, (doF F S s).st, ls ++ [s], false⟩
      else ⟨(syncF (appendF D (s.data.toList ++ [10])).2).1, bs [], (syncF (appendF D (s.data.toList ++ [10])).2).2, S, ls, true⟩
    else ⟨(appendF D (s.data.toList ++ [10])).1, bs [], (appendF D (s.data.toList ++ [10])).2, S, ls, (appendF D (s.data.toList ++ [10])).1 == 10⟩
  else ⟨(doF F S s).err, bs [], D, S, ls, false⟩
def HDoPost (base : Nat) (w : World) (H : HV) (r : HRes) (e : Ending) (w' : World) : Prop :=
  ∃ H', e = .returned (.tuple #[.string r.out, .int .i64 r.err]) ∧ HouseAt base w' H' r.D r.st r.ls r.lost ∧ HChg w H H' w'
theorem doF_size {F : Nat → St → FA → Res} {S : St} {s : ByteArray} (h : (doF F S s).err = 0) : s.size ≤ 200 := by
  unfold doF formF at h
  by_cases hl : isLineB s = true
  · unfold isLineB at hl; simp at hl; exact hl.1
  · simp [hl] at h
end Go.Proofs.YtmiencgloondjaaGreatDoor

/- house.House.Do. -/
namespace Go.Proofs.YtmiencgloondjaaGreatDoor
set_option linter.unusedSimpArgs false
set_option linter.unusedVariables false
set_option linter.unnecessarySimpa false
open Go.RowKit

theorem hnone_any {base : Nat} {w : World} {H : HV} {D : Dsk} {S : St} {ls : List ByteArray} {lost : Bool} (h : HouseAt base w H D S ls lost) :
    Calls Tryz.prog 26 #[.pointer (some ⟨H.h, 0, none⟩)] w fun e w' => e = .returned (.bool false) ∧ w = w' := by
  have c1 := h.blk.cell 1
  simp at c1
  clear h
  go_enter Tryz.func26, Tryz.ntmps26
  go_wp2
  go_ret
  exact ⟨rfl, rfl⟩

set_option maxHeartbeats 1500000 in
set_option maxRecDepth 100000 in
theorem hdo_any {base : Nat} {w : World} {H : HV} {D : Dsk} {S : St} {ls : List ByteArray} {lost : Bool} {s : ByteArray} {F : Nat → St → FA → Res} (hG : Glob w) (hb : base ≤ w.heap.size) (h : HouseAt base w H D S ls lost) (hs : S.small) (hls : ls.length ≤ 1000000000)
    (hsz : s.size ≤ 9223372036854775807) (hrun : RunOK F S s) : Calls Tryz.prog 12 #[.pointer (some ⟨H.h, 0, none⟩), .string s] w (HDoPost base w H (hdoF F D S ls lost s)) := by
  obtain ⟨hb', hd, v, V, vl⟩ := H
  obtain ⟨lo, lc, hvl, _⟩ := ownsRow_shape h.own
  simp only at hvl
  subst hvl
  have c0 := h.blk.cell 0
  have c1 := h.blk.cell 1
  have c2 := h.blk.cell 2
  have c3 := h.blk.cell 3
  simp at c0 c1 c2 c3
  have H := Lib.hid h; clear h
  have HG := Lib.hid hG; clear hG
  have HS := Lib.hid hs; clear hs
  have HRUN := Lib.hid hrun; clear hrun
  cases lost with
  | true =>
    have HF := Lib.hid (show hdoF F D S ls true s = ⟨7, bs [], D, S, ls, true⟩ by unfold hdoF; rw [if_pos rfl])
    go_enter Tryz.func12, Tryz.ntmps12
    go_wp2_with (first
      | (go_at_call 26; refine (hnone_any H.out).mono ?_; rintro e w' ⟨rfl, rfl⟩))
    go_ret2
    rw [HF.out]
    exact ⟨_, rfl, H.out, HChg.refl _ _⟩
  | false =>
    obtain ⟨R, hR⟩ : ∃ R, doF F S s = R := ⟨_, rfl⟩
    have hF0 : hdoF F D S ls false s = if R.err = 0 then
      if (appendF D (s.data.toList ++ [10])).1 = 0 then
        if (syncF (appendF D (s.data.toList ++ [10])).2).1 = 0 then ⟨0, R.out, (syncF (appendF D (s.data.toList ++ [10])).2).2, R.st, ls ++ [s], false⟩
        else ⟨(syncF (appendF D (s.data.toList ++ [10])).2).1, bs [], (syncF (appendF D (s.data.toList ++ [10])).2).2, S, ls, true⟩
      else ⟨(appendF D (s.data.toList ++ [10])).1, bs [], (appendF D (s.data.toList ++ [10])).2, S, ls, (appendF D (s.data.toList ++ [10])).1 == 10⟩
      else ⟨R.err, bs [], D, S, ls, false⟩ := by unfold hdoF; rw [if_neg (by simp), hR]
    have hsz2 : R.err = 0 → s.size ≤ 200 := fun e => doF_size (F := F) (S := S) (by rw [hR]; exact e)
    have HRR := Lib.hid hR; clear hR
    obtain ⟨re, rs, ro⟩ := R
    by_cases hz : re = 0
    · subst hz
      have hs200 : s.size ≤ 200 := hsz2 rfl
      clear hsz2
      rw [if_pos rfl] at hF0
      have hsum : (9223372036854775807 < s.size + 1) = False := eq_false (by omega)
      have hcv := fun W => Lib.run_convert_string_bytes (P := Tryz.prog) W 9 28 5 (s ++ ⟨#[10]⟩) Tryz.underlying9 Tryz.underlying28 Tryz.underlying5
      have hts : (s ++ (⟨#[10]⟩ : ByteArray)).size = s.size + 1 := by rw [ByteArray.size_append]; rfl
      have HCC : Hid (∀ w3, Rd (Lib.bytesWorld w3 5 (s ++ ⟨#[10]⟩)) 1 (.slice (some ⟨w3.heap.size, 0, none⟩) (s.size + 1) (grownCap w3 (s.size + 1) 0 5)) (s.data.toList ++ [10]).length (bcells (s.data.toList ++ [10]))) := Lib.hid fun w3 => by
        have := convCell w3 (s ++ ⟨#[10]⟩) (by rw [hts]; omega)
        rw [hts, show (s ++ (⟨#[10]⟩ : ByteArray)).data.toList = s.data.toList ++ [10] by simp] at this
        exact this
      have HKC : Hid (∀ w3, Keep (fun _ => False) w3 (Lib.bytesWorld w3 5 (s ++ (⟨#[10]⟩ : ByteArray)))) := Lib.hid fun w3 => convKeep w3 5 _
      clear hts
      obtain ⟨A, hA⟩ : ∃ A, appendF D (s.data.toList ++ [10]) = A := ⟨_, rfl⟩
      rw [hA] at hF0
      have HAP := Lib.hid hA; clear hA
      obtain ⟨ae, D1⟩ := A
      by_cases ha : ae = 0
      · subst ha
        rw [if_pos rfl] at hF0
        dsimp only at hF0
        obtain ⟨Y, hY⟩ : ∃ Y, syncF D1 = Y := ⟨_, rfl⟩
        rw [hY] at hF0
        have HY := Lib.hid hY; clear hY
        obtain ⟨ye, D2⟩ := Y
        by_cases hy : ye = 0
        · subst hy
          rw [if_pos rfl] at hF0
          have HF := Lib.hid hF0; clear hF0
          go_enter Tryz.func12, Tryz.ntmps12
          go_wp2_with (first
            | (go_at_call 26; refine (hnone_any H.out).mono ?_; rintro e w' ⟨rfl, rfl⟩)
            | (go_at_call 23; have hh := do_any (F := F) HG.out H.out.st HS.out (by omega) HRUN.out; rw [HRR.out] at hh; refine Calls.mono hh ?_; clear hh; rintro e w3 ⟨V', rfl, hst3, hvb3, hVV, hfp3, hk3⟩; have c0 := (H.out.blk.keep hk3 (fun h => h)).cell 0; have c1 := (H.out.blk.keep hk3 (fun h => h)).cell 1; have c2 := (H.out.blk.keep hk3 (fun h => h)).cell 2; simp at c0 c1 c2; have HST3 := Lib.hid hst3; have HFP := Lib.hid hfp3; have HK3 := Lib.hid hk3; clear hst3 hvb3 hVV hfp3 hk3)
            | (go_at_call 9; have hX := (H.out.idle HK3.out).idle (HKC.out w3); have hh := append_any hX.disk (HCC.out w3) (fun e => by have e2 : w3.heap.size = hd := Option.some.inj e; have := H.out.disk.blk.lt; have := HK3.out.size; simp only at *; omega) (by have h5 := (HKC.out w3).size; have := HK3.out.size; omega); unfold AppendPost at hh; rw [HAP.out] at hh; dsimp only at hh; refine Calls.mono hh ?_; clear hh; rintro e w5 ⟨rfl, ⟨v1, hd1, hf1⟩, hk5⟩; obtain ⟨h5, hc5⟩ := hX.onDisk hk5 hd1 hf1; have c0 := h5.blk.cell 0; have c1 := h5.blk.cell 1; have c2 := h5.blk.cell 2; have c3 := h5.blk.cell 3; have f1 := h5.blk.free 1; have f2 := h5.blk.free 2; have f3 := h5.blk.free 3; simp at c0 c1 c2 c3; have H5 := Lib.hid h5; have HC5 := Lib.hid hc5; clear hX hd1 hf1 hk5 h5 hc5)
            | (go_at_call 10; have hh := sync_any H5.out.disk; rw [HY.out] at hh; dsimp only at hh; refine Calls.mono hh ?_; clear hh; rintro e w6 ⟨rfl, ⟨v2, hd2, hf2⟩, hk6⟩; obtain ⟨h6, hc6⟩ := H5.out.onDisk hk6 hd2 hf2; have c0 := h6.blk.cell 0; have c1 := h6.blk.cell 1; have c2 := h6.blk.cell 2; have c3 := h6.blk.cell 3; have f1 := h6.blk.free 1; have f2 := h6.blk.free 2; have f3 := h6.blk.free 3; simp at c0 c1 c2 c3; have H6 := Lib.hid h6; have HC6 := Lib.hid hc6; clear hd2 hf2 hk6 h6 hc6; obtain ⟨h7, hc7⟩ := hdo_fin H.out HK3.out (HKC.out w3) HST3.out HFP.out HC5.out HC6.out H6.out; have ho8 := ownsRow_keep h7.own ((Keep.refl (fun _ => False) _).alloc (.cells #[.string s] 9)) (fun _ _ h => h); have hs8 := Rd.new (w6.setCell ⟨hb', 1, none⟩ (.pointer (some ⟨V'.b, 0, none⟩))) 1 1 [.string s] 9 rfl (by simp [Value.oneCell']) (by unfold maxLen; omega); rw [World.size_setCell] at hs8; have HS8 := Lib.hid (hs8.src (P := Tryz.prog) Tryz.underlying45); have HO8 := Lib.hid ho8; have H7 := Lib.hid h7; have HC7 := Lib.hid hc7; clear h7 hc7 ho8 hs8)
            | (at_builtin; refine wpList_app (w := (w6.setCell ⟨hb', 1, none⟩ (.pointer (some ⟨V'.b, 0, none⟩))).alloc (.cells #[.string s] 9)) rfl (.tmp 67) (.tmp 69) 45 45 rfl 9 (.string ⟨#[]⟩) 1 16 Tryz.underlying45 info9 rfl HO8.out rfl HS8.out rfl ?hb1 ?hb2 ?hb3 ?hgo))
          case hb1 => unfold maxLen; omega
          case hb2 => omega
          case hb3 => exact Nat.le_trans hb (Nat.le_trans HC7.out.keep.size (by simp))
          case hgo =>
          intro v' w9 happ
          obtain ⟨ao9, cap9, rfl, _⟩ := ownsRow_shape happ.own
          have h8 := H7.out.idle ((Keep.refl (fun _ => False) _).alloc (.cells #[.string s] 9))
          obtain ⟨h9, hc9⟩ := h8.setLines (vl' := .slice ao9 (ls.length + 1) cap9) (ls' := ls ++ [s]) happ.keep (by have := happ.own; simpa [strCells] using this) happ.fresh
          have hb9 := h8.blk.keep happ.keep h8.lh
          have c2 := hb9.cell 2
          have f2 := hb9.free 2
          simp at c2
          have H9 := Lib.hid h9
          have HC9 := Lib.hid hc9
          clear h8 h9 hc9 hb9 happ
          go_wp2
          go_ret2
          rw [HF.out]
          exact ⟨_, rfl, H9.out, (HC7.out.trans (HChg.idle _ ((Keep.refl (fun _ => False) _).alloc (.cells #[.string s] 9)))).trans HC9.out⟩
        · rw [if_neg hy] at hF0
          have HF := Lib.hid hF0; clear hF0
          have hy2 : (ye != 0) = true := by simpa using hy
          go_enter Tryz.func12, Tryz.ntmps12
          go_wp2_with (first
            | (go_at_call 26; refine (hnone_any H.out).mono ?_; rintro e w' ⟨rfl, rfl⟩)
            | (go_at_call 23; have hh := do_any (F := F) HG.out H.out.st HS.out (by omega) HRUN.out; rw [HRR.out] at hh; refine Calls.mono hh ?_; clear hh; rintro e w3 ⟨V', rfl, hst3, hvb3, hVV, hfp3, hk3⟩; have c0 := (H.out.blk.keep hk3 (fun h => h)).cell 0; have c1 := (H.out.blk.keep hk3 (fun h => h)).cell 1; have c2 := (H.out.blk.keep hk3 (fun h => h)).cell 2; simp at c0 c1 c2; have HST3 := Lib.hid hst3; have HFP := Lib.hid hfp3; have HK3 := Lib.hid hk3; clear hst3 hvb3 hVV hfp3 hk3)
            | (go_at_call 9; have hX := (H.out.idle HK3.out).idle (HKC.out w3); have hh := append_any hX.disk (HCC.out w3) (fun e => by have e2 : w3.heap.size = hd := Option.some.inj e; have := H.out.disk.blk.lt; have := HK3.out.size; simp only at *; omega) (by have h5 := (HKC.out w3).size; have := HK3.out.size; omega); unfold AppendPost at hh; rw [HAP.out] at hh; dsimp only at hh; refine Calls.mono hh ?_; clear hh; rintro e w5 ⟨rfl, ⟨v1, hd1, hf1⟩, hk5⟩; obtain ⟨h5, hc5⟩ := hX.onDisk hk5 hd1 hf1; have c0 := h5.blk.cell 0; have c1 := h5.blk.cell 1; have c2 := h5.blk.cell 2; have c3 := h5.blk.cell 3; have f1 := h5.blk.free 1; have f2 := h5.blk.free 2; have f3 := h5.blk.free 3; simp at c0 c1 c2 c3; have H5 := Lib.hid h5; have HC5 := Lib.hid hc5; clear hX hd1 hf1 hk5 h5 hc5)
            | (go_at_call 10; have hh := sync_any H5.out.disk; rw [HY.out] at hh; dsimp only at hh; refine Calls.mono hh ?_; clear hh; rintro e w6 ⟨rfl, ⟨v2, hd2, hf2⟩, hk6⟩; obtain ⟨h6, hc6⟩ := H5.out.onDisk hk6 hd2 hf2; have c0 := h6.blk.cell 0; have c1 := h6.blk.cell 1; have c2 := h6.blk.cell 2; have c3 := h6.blk.cell 3; have f1 := h6.blk.free 1; have f2 := h6.blk.free 2; have f3 := h6.blk.free 3; simp at c0 c1 c2 c3; have H6 := Lib.hid h6; have HC6 := Lib.hid hc6; clear hd2 hf2 hk6 h6 hc6))
          go_ret2
          rw [HF.out]
          exact ⟨_, rfl, (H6.out.setLost true).1, ((HChg.idle _ (HK3.out.trans (HKC.out w3) (fun _ _ h => h)) |>.trans HC5.out).trans HC6.out).trans (H6.out.setLost true).2⟩
      · rw [if_neg ha] at hF0
        have HF := Lib.hid hF0; clear hF0
        have ha2 : (ae != 0) = true := by simpa using ha
        go_enter Tryz.func12, Tryz.ntmps12
        go_wp2_with (first
          | (go_at_call 26; refine (hnone_any H.out).mono ?_; rintro e w' ⟨rfl, rfl⟩)
          | (go_at_call 23; have hh := do_any (F := F) HG.out H.out.st HS.out (by omega) HRUN.out; rw [HRR.out] at hh; refine Calls.mono hh ?_; clear hh; rintro e w3 ⟨V', rfl, hst3, hvb3, hVV, hfp3, hk3⟩; have c0 := (H.out.blk.keep hk3 (fun h => h)).cell 0; have c1 := (H.out.blk.keep hk3 (fun h => h)).cell 1; have c2 := (H.out.blk.keep hk3 (fun h => h)).cell 2; simp at c0 c1 c2; have HST3 := Lib.hid hst3; have HFP := Lib.hid hfp3; have HK3 := Lib.hid hk3; clear hst3 hvb3 hVV hfp3 hk3)
          | (go_at_call 9; have hX := (H.out.idle HK3.out).idle (HKC.out w3); have hh := append_any hX.disk (HCC.out w3) (fun e => by have e2 : w3.heap.size = hd := Option.some.inj e; have := H.out.disk.blk.lt; have := HK3.out.size; simp only at *; omega) (by have h5 := (HKC.out w3).size; have := HK3.out.size; omega); unfold AppendPost at hh; rw [HAP.out] at hh; dsimp only at hh; refine Calls.mono hh ?_; clear hh; rintro e w5 ⟨rfl, ⟨v1, hd1, hf1⟩, hk5⟩; obtain ⟨h5, hc5⟩ := hX.onDisk hk5 hd1 hf1; have c0 := h5.blk.cell 0; have c1 := h5.blk.cell 1; have c2 := h5.blk.cell 2; have c3 := h5.blk.cell 3; have f1 := h5.blk.free 1; have f2 := h5.blk.free 2; have f3 := h5.blk.free 3; simp at c0 c1 c2 c3; have H5 := Lib.hid h5; have HC5 := Lib.hid hc5; clear hX hd1 hf1 hk5 h5 hc5))
        go_ret2
        rw [HF.out]
        exact ⟨_, rfl, (H5.out.setLost (ae == 10)).1, (HChg.idle _ (HK3.out.trans (HKC.out w3) (fun _ _ h => h)) |>.trans HC5.out).trans (H5.out.setLost (ae == 10)).2⟩
    · rw [if_neg hz] at hF0
      have HF := Lib.hid hF0; clear hF0 hsz2
      have hz2 : (re != 0) = true := by simpa using hz
      go_enter Tryz.func12, Tryz.ntmps12
      go_wp2_with (first
        | (go_at_call 26; refine (hnone_any H.out).mono ?_; rintro e w' ⟨rfl, rfl⟩)
        | (go_at_call 23; have hh := do_any (F := F) HG.out H.out.st HS.out (by omega) HRUN.out; rw [HRR.out] at hh; refine Calls.mono hh ?_; clear hh; rintro e w3 ⟨V', rfl, hst3, hvb3, hVV, hfp3, hk3⟩; have c0 := (H.out.blk.keep hk3 (fun h => h)).cell 0; have c1 := (H.out.blk.keep hk3 (fun h => h)).cell 1; have c2 := (H.out.blk.keep hk3 (fun h => h)).cell 2; simp at c0 c1 c2; have HST3 := Lib.hid hst3; have HFP := Lib.hid hfp3; have HK3 := Lib.hid hk3; clear hst3 hvb3 hVV hfp3 hk3))
      go_ret2
      rw [HF.out]
      exact ⟨_, rfl, H.out.idle HK3.out, HChg.idle _ HK3.out⟩
end Go.Proofs.YtmiencgloondjaaGreatDoor

/- house.Open. -/
namespace Go.Proofs.YtmiencgloondjaaGreatDoor
set_option linter.unusedSimpArgs false
set_option linter.unusedVariables false
set_option linter.unnecessarySimpa false
open Go.RowKit

/-- What holds at the head of Open's loop. -/
def OpenRel (F : Nat → St → FA → Res) (I : Nat → St → Prop) (w : World) (D : Dsk) (g : List Int) (bd hb : Nat) (bv : Value) (i : Value) (wr : World) : Prop :=
  ∃ (rest : List UInt8) (S : St) (ls : List ByteArray) (at_ fuel : Nat) (V : StV) (lo : Option Addr) (lc : Nat),
    i = .int .i64 at_ ∧ at_ ≤ D.bytes.length ∧ rest = D.bytes.drop at_ ∧ rest.length < fuel ∧ openLoop F fuel rest S ls at_ = openLoop F (D.bytes.length + 1) D.bytes (S0 g) [] 0 ∧ I ls.length S ∧ ls.length ≤ at_ ∧
    Blk wr hb #[.pointer (some ⟨bd, 0, none⟩), .pointer (some ⟨V.b, 0, none⟩), .slice lo ls.length lc, .bool false] 47 ∧ StAt wr V S ∧
    (∀ k, V.fp k → w.heap.size ≤ k ∧ k ≠ hb ∧ (Value.slice lo ls.length lc).ownBlock ≠ some k) ∧
    wr.ownsRow w.heap.size 9 1 (.slice lo ls.length lc) ls.length (strCells ls) ∧ wr.ownsRow w.heap.size 5 1 bv D.bytes.length (bcells D.bytes) ∧ Keep (fun _ => False) w wr

set_option maxHeartbeats 6000000 in
set_option maxRecDepth 100000 in
theorem open_any {base bd : Nat} {w : World} {D : Dsk} {v gv : Value} {g : List Int} {F : Nat → St → FA → Res} {I : Nat → St → Prop} (hG : Glob w) (hd : DiskAt base w bd D v) (hg : Rd w 1 gv g.length (icells g)) (hgl : g.length ≤ 1000000)
    (hglt : ∀ k, gv.ownBlock = some k → k < w.heap.size) (hb : base ≤ w.heap.size) (hI : baysB g = true → I 0 (S0 g)) (hsys : Sys F I D.bytes.length D.bytes.length) :
    Calls Tryz.prog 7 #[.pointer (some ⟨bd, 0, none⟩), gv] w (OpenPost base w bd v (openF F D g)) := by
  obtain ⟨go, gc, hve, _⟩ := hg.shape
  subst hve
  have hbays := bays_any hg (by omega) hG.tab (by have := hG.size; omega)
  have HD := Lib.hid hd; clear hd
  have HG := Lib.hid hG; clear hG
  have HGV := Lib.hid hg; clear hg
  have HGL := Lib.hid hglt; clear hglt
  cases hbay : baysB g with
  | false =>
    have HF := Lib.hid (show openF F D g = ⟨2, D, S0 g, []⟩ by unfold openF; rw [hbay]; rfl)
    rw [hbay] at hbays
    have HB := Lib.hid hbays; clear hbays hbay
    go_enter Tryz.func7, Tryz.ntmps7
    go_wp2_with (first
      | (go_at_call 19; refine (none_any HD.out).mono ?_; rintro e w' ⟨rfl, rfl⟩)
      | (go_at_call 20; refine HB.out.mono ?_; rintro e w1 ⟨rfl, hk1⟩; have HK1 := Lib.hid hk1; clear hk1))
    go_ret2
    refine ⟨v, ?_, .inl rfl, HK1.out.mono (fun _ _ h => h.elim), fun _ => by rw [HF.out]; rfl, fun e => by rw [HF.out] at e; cases e⟩
    rw [HF.out]
    exact HD.out.keep HK1.out (fun h => h) (fun _ _ h => h)
  | true =>
    replace hI := hI hbay
    rw [hbay] at hbays
    have HB := Lib.hid hbays; clear hbays
    cases hoff : D.off with
    | true =>
      have HF := Lib.hid (show openF F D g = ⟨10, D, S0 g, []⟩ by unfold openF; rw [hbay, hoff]; rfl)
      have HOFF := Lib.hid hoff; clear hoff hbay
      go_enter Tryz.func7, Tryz.ntmps7
      go_wp2_with (first
        | (go_at_call 19; refine (none_any HD.out).mono ?_; rintro e w' ⟨rfl, rfl⟩)
        | (go_at_call 20; refine HB.out.mono ?_; rintro e w1 ⟨rfl, hk1⟩; have HK1 := Lib.hid hk1; clear hk1)
        | (go_at_call 6; have hh := read_any (HD.out.keep HK1.out (fun h => h) (fun _ _ h => h)); refine Calls.mono hh ?_; clear hh; rintro e w2 ⟨v', rfl, ho2, hk2⟩; rw [HOFF.out]; simp only [if_true]; have HK2 := Lib.hid hk2; clear hk2))
      go_ret2
      refine ⟨v, ?_, .inl rfl, (HK1.out.trans HK2.out (fun _ _ h => h)).mono (fun _ _ h => h.elim), fun _ => by rw [HF.out]; rfl, fun e => by rw [HF.out] at e; cases e⟩
      rw [HF.out]
      exact HD.out.keep (HK1.out.trans HK2.out (fun _ _ h => h)) (fun h => h) (fun _ _ h => h)
    | false =>
      have HF := Lib.hid (show openF F D g = openEnd D (openLoop F (D.bytes.length + 1) D.bytes (S0 g) [] 0) by unfold openF; rw [hbay, hoff]; rfl)
      have HOFF := Lib.hid hoff; clear hoff hbay
      go_enter Tryz.func7, Tryz.ntmps7
      go_wp2_with (first
        | (go_at_call 19; refine (none_any HD.out).mono ?_; rintro e w' ⟨rfl, rfl⟩)
        | (go_at_call 20; refine HB.out.mono ?_; rintro e w1 ⟨rfl, hk1⟩; have HK1 := Lib.hid hk1; clear hk1)
        | (go_at_call 6; have hh := read_any (HD.out.keep HK1.out (fun h => h) (fun _ _ h => h)); refine Calls.mono hh ?_; clear hh; rintro e w2 ⟨v', rfl, ho2, hk2⟩; rw [HOFF.out] at ho2; rw [HOFF.out]; simp only [Bool.false_eq_true, if_false] at ho2; simp only [Bool.false_eq_true, if_false]; obtain ⟨bo, bc, rfl, hbc⟩ := ownsRow_shape ho2; have HO2 := Lib.hid ho2; clear ho2; have HK2 := Lib.hid hk2; clear hk2)
        | (go_at_call 21; have hh := clone55 ((HGV.out.keep HK1.out (fun _ _ h => h)).keep HK2.out (fun _ _ h => h)) (by omega); refine Calls.mono hh ?_; clear hh; rintro e w3 ⟨gv', rfl, ho3, hk3⟩; obtain ⟨go', gc', rfl, hgc⟩ := ownsRow_shape ho3; have HO3 := Lib.hid ho3; clear ho3; have HK3 := Lib.hid hk3; clear hk3))
      have hz2 := HK1.out.size
      have hz3 := HK2.out.size
      have hz4 := HK3.out.size
      have hn3 : Blk ((w3.alloc (.cells #[.slice go' g.length gc', .slice none 0 0, .slice none 0 0, .slice none 0 0, .slice none 0 0] 64)).alloc (.cells #[.pointer (some ⟨bd, 0, none⟩), .pointer (some ⟨w3.heap.size, 0, none⟩), .slice none 0 0, .bool false] 47)) w3.heap.size (StV.cells ⟨w3.heap.size, .slice go' g.length gc', .slice none 0 0, .slice none 0 0, .slice none 0 0, .slice none 0 0⟩) 64 := (Blk.new _ _ _).alloc _
      have hn4 : Blk ((w3.alloc (.cells #[.slice go' g.length gc', .slice none 0 0, .slice none 0 0, .slice none 0 0, .slice none 0 0] 64)).alloc (.cells #[.pointer (some ⟨bd, 0, none⟩), .pointer (some ⟨w3.heap.size, 0, none⟩), .slice none 0 0, .bool false] 47)) (w3.heap.size + 1) #[.pointer (some ⟨bd, 0, none⟩), .pointer (some ⟨w3.heap.size, 0, none⟩), .slice none 0 0, .bool false] 47 := by
        have := Blk.new (w3.alloc (.cells #[.slice go' g.length gc', .slice none 0 0, .slice none 0 0, .slice none 0 0, .slice none 0 0] 64)) #[.pointer (some ⟨bd, 0, none⟩), .pointer (some ⟨w3.heap.size, 0, none⟩), .slice none 0 0, .bool false] 47
        rwa [World.size_alloc] at this
      have hk34 : Keep (fun _ => False) w3 ((w3.alloc (.cells #[.slice go' g.length gc', .slice none 0 0, .slice none 0 0, .slice none 0 0, .slice none 0 0] 64)).alloc (.cells #[.pointer (some ⟨bd, 0, none⟩), .pointer (some ⟨w3.heap.size, 0, none⟩), .slice none 0 0, .bool false] 47)) := ((Keep.refl _ _).alloc _).alloc _
      obtain ⟨w4, hw4⟩ : ∃ w4, w4 = ((w3.alloc (.cells #[.slice go' g.length gc', .slice none 0 0, .slice none 0 0, .slice none 0 0, .slice none 0 0] 64)).alloc (.cells #[.pointer (some ⟨bd, 0, none⟩), .pointer (some ⟨w3.heap.size, 0, none⟩), .slice none 0 0, .bool false] 47)) := ⟨_, rfl⟩
      rw [← hw4] at hn3 hn4 hk34
      rw [← hw4]
      clear hw4
      have hk04 : Keep (fun _ => False) w w4 := ((HK1.out.trans HK2.out (fun _ _ h => h)).trans HK3.out (fun _ _ h => h)).trans hk34 (fun _ _ h => h)
      have hst0 : StAt w4 ⟨w3.heap.size, .slice go' g.length gc', .slice none 0 0, .slice none 0 0, .slice none 0 0, .slice none 0 0⟩ (S0 g) := by
        refine ⟨hn3, ownsRow_rd (ownsRow_keep HO3.out hk34 (fun _ _ h => h)) (icells_one _), Rd.nil _ _, Rd.nil _ _, Rd.nil _ _, Rd.nil _ _, fun k hk => ?_⟩
        have h5 := hn3.lt
        rcases hk with e | e | e | e | e | e
        · rw [e]; exact h5
        · have := (ownsRow_lt HO3.out k e).2; omega
        · cases e
        · cases e
        · cases e
        · cases e
      have hfp0 : ∀ k, StV.fp ⟨w3.heap.size, .slice go' g.length gc', .slice none 0 0, .slice none 0 0, .slice none 0 0, .slice none 0 0⟩ k → w.heap.size ≤ k ∧ k ≠ w3.heap.size + 1 := fun k hk => by
        rcases hk with e | e | e | e | e | e
        · exact ⟨by rw [e]; show w.heap.size ≤ w3.heap.size; omega, by rw [e]; show w3.heap.size ≠ w3.heap.size + 1; omega⟩
        · have h6 := ownsRow_lt HO3.out k e
          exact ⟨by omega, by omega⟩
        · cases e
        · cases e
        · cases e
        · cases e
      have HREL : Hid (OpenRel F I w D g bd (w3.heap.size + 1) (.slice bo D.bytes.length bc) (.int .i64 0) w4) := Lib.hid
        ⟨D.bytes, S0 g, [], 0, D.bytes.length + 1, _, none, 0, rfl, Nat.zero_le _, rfl, by omega, rfl, hI, Nat.le_refl _, hn4, hst0, fun k hk => ⟨(hfp0 k hk).1, (hfp0 k hk).2, fun h => by cases h⟩, World.ownsRow_nil _ _ _ _, ownsRow_base (ownsRow_keep (ownsRow_keep HO2.out HK3.out (fun _ _ h => h)) hk34 (fun _ _ h => h)) hz2, hk04⟩
      clear hst0 hfp0 hn3 hn4 hk34 hk04
      have HSYS := Lib.hid hsys; clear hsys hI
      go_loopw [9] (OpenRel F I w D g bd (w3.heap.size + 1) (.slice bo D.bytes.length bc)) (fun i _ => D.bytes.length - (intOf i).toNat)
      · exact HREL.out
      case round =>
        obtain ⟨rest, S, ls, at_, fuel, V, lo, lc, rfl, hat, hrest, hfuel, hloop, hinv, hls, hblk, hst, hsep, hown, hby, hkeep⟩ := hrel
        have HLOOP := Lib.hid hloop; clear hloop
        have HINV := Lib.hid hinv; clear hinv
        have HBLK := Lib.hid hblk; clear hblk
        have HST := Lib.hid hst; clear hst
        have HSEP := Lib.hid hsep; clear hsep
        have HOWN := Lib.hid hown; clear hown
        have HBY := Lib.hid hby; clear hby
        have HKEEP := Lib.hid hkeep; clear hkeep
        subst hrest
        have hlat : (at_ : Int) ≤ (D.bytes.length : Int) := by omega
        have hdb := HD.out.ok.size1
        have hdf := HD.out.ok.fits
        obtain ⟨rest, hrest⟩ : ∃ rest, D.bytes.drop at_ = rest := ⟨_, rfl⟩
        obtain ⟨so, hso⟩ : ∃ so, (if bc = at_ then bo else bo.map (fun x => x.add at_)) = so := ⟨_, rfl⟩
        have hrl : rest.length = D.bytes.length - at_ := by rw [← hrest, List.length_drop]
        have hsl : ∀ W, (Instr.slice 28 (.slice bo D.bytes.length bc) (some (.int .i64 (at_ : Int))) none none).run Tryz.prog W = .ok (.slice so rest.length (bc - at_)) W := fun W => by
          rw [run_slice_l W 28 bo D.bytes.length bc (by kernel_rfl) .i64 (at_ : Int) (by omega) hlat]
          have h1 : (sizeOf (Tryz.prog.elem 28)).run Tryz.prog W = .ok 1 W := by kernel_rfl
          rw [h1]
          simp only [Result.andThen_ok, sliced, Int.toNat_natCast, Nat.mul_one, hso, hrl]
        have hrd : Rd wr 1 (.slice so rest.length (bc - at_)) rest.length (bcells rest) := by
          have := (ownsRow_rd HBY.out (bcells_one _)).drop1 at_ hat
          rwa [hso, hrest] at this
        rw [hrest] at hfuel HLOOP
        have HRD := Lib.hid hrd
        have hso2 : ∀ b, (Value.slice so (cutPre rest).length (bc - at_)).ownBlock = some b → (Value.slice bo D.bytes.length bc).ownBlock = some b := fun b e => by
          rw [← hso] at e
          split at e
          · cases bo <;> exact e
          · cases bo with
            | none => exact e
            | some x => obtain ⟨xb, xo, xs⟩ := x; simp only [Option.map_some, Addr.add] at e; split at e <;> exact e
        have HREST := Lib.hid hrest; clear hrest hso
        have hpl := cutPre_length rest
        have hcv : Hid (∀ W, Keep (fun k => ¬ (Value.slice bo D.bytes.length bc).ownBlock = some k) wr W → (convert 28 9 (.slice so (cutPre rest).length (bc - at_))).run Tryz.prog W = .ok (.string (bs (cutPre rest))) W) := Lib.hid fun W hk =>
          convRd ((cutPre_rd hrd).keep hk (fun b e h => h (hso2 b e)))
        clear hrd
        have HSA : Hid (∀ W, Keep (fun _ => False) wr W → W.cell? ⟨w3.heap.size + 1, 1, none⟩ = some (.pointer (some ⟨V.b, 0, none⟩)) ∧ (convert 28 9 (.slice so (cutPre rest).length (bc - at_))).run Tryz.prog W = .ok (.string (bs (cutPre rest))) W) := Lib.hid fun W hk =>
          ⟨(HBLK.out.keep hk (fun h => h)).cell 1, hcv.out W (hk.mono (fun _ _ h => h.elim))⟩
        have HKR : Hid (Keep (fun _ => False) wr wr) := Lib.hid (Keep.refl _ _)
        have hrn : rest.length ≤ D.bytes.length := by omega
        have HRL := Lib.hid hrl; clear hrl
        have hlsn : ls.length ≤ D.bytes.length := by omega
        obtain ⟨ok, hok⟩ : ∃ ok, (cutNL rest).isSome = ok := ⟨_, rfl⟩
        obtain ⟨R, hR⟩ : ∃ R, doF F S (bs (cutPre rest)) = R := ⟨_, rfl⟩
        obtain ⟨re, rs, ro⟩ := R
        have HOK := Lib.hid hok; clear hok
        have HRR := Lib.hid hR; clear hR
        cases ok with
        | false =>
          have HL := Lib.hid (show openF F D g = openEnd D (S, ls, at_) by rw [HF.out, ← HLOOP.out]; rw [openLoop_none hfuel HOK.out])
          have HF := HL
          have hbw : w.heap.size ≤ w3.heap.size + 1 := by omega
          by_cases hend : at_ < D.bytes.length
          · have hlt : ((at_ : Int) < (D.bytes.length : Int)) = True := eq_true (by omega)
            obtain ⟨C, hC⟩ : ∃ C, cutF D (at_ : Int) = C := ⟨_, rfl⟩
            obtain ⟨ce, D1⟩ := C
            have HC := Lib.hid hC
            by_cases hce : ce = 0
            · subst hce
              obtain ⟨Y, hY⟩ : ∃ Y, syncF D1 = Y := ⟨_, rfl⟩
              obtain ⟨se, D2⟩ := Y
              have HY := Lib.hid hY
              have HL2 := Lib.hid (show openEnd D (S, ls, at_) = ⟨se, D2, S, ls⟩ by unfold openEnd; rw [if_pos hend]; simp only [hC, if_true, hY])
              clear hC hY
              by_cases hse : se = 0
              · subst hse
                go_wp2_with (first
                  | (go_at_call 22; have hh := bcut_any (w := wr.alloc (.cells #[.int .u8 10] 5)) (b2 := wr.heap.size) ((HG.out.keep HKEEP.out).keep ((Keep.refl _ _).alloc _)) rfl (HRD.out.keep ((Keep.refl (fun _ => False) _).alloc _) (fun _ _ h => h)) (by rw [World.cell?_alloc_new]; rfl) (by omega); refine Calls.mono hh ?_; clear hh; rintro e w' ⟨v2, rfl, q, rfl⟩; rw [HOK.out]))
                go_region_held3 (fun W => W.cell? ⟨w3.heap.size + 1, 1, none⟩ = some (.pointer (some ⟨V.b, 0, none⟩)) ∧ (convert 28 9 (.slice so (cutPre rest).length (bc - at_))).run Tryz.prog W = .ok (.string (bs (cutPre rest))) W)
                  ((refine HSA.out _ ?_; repeat (first | exact HKR.out | apply Keep.drew | apply Keep.drewN | apply Keep.alloc)))
                  ((go_at_call 23; have kk := ((((Keep.refl (fun _ => False) wr).alloc (.cells #[.int .u8 10] 5)).drewN q).drew); have hh := do_any (F := F) (line := bs (cutPre rest)) ((HG.out.keep HKEEP.out).keep kk) (HST.out.keep kk (fun _ _ h => h)) (HSYS.out.small _ _ hlsn HINV.out) (by simp [bs, ByteArray.size]; omega) (HSYS.out.run _ _ _ hlsn HINV.out (by simp [bs, ByteArray.size]; omega)); rw [HRR.out] at hh; refine Calls.mono hh ?_; clear hh; rintro e W3 ⟨V', rfl, hst3, hvb3, hVV, hfp3, hk3⟩; have HKR := Lib.hid (kk.trans hk3 (fun _ _ h => h)); have hB3 := HBLK.out.keep HKR.out (fun h => h); have c1 := hB3.cell 1; have f1 := hB3.free 1; simp at c1; have HB3 := Lib.hid hB3; have HST3 := Lib.hid hst3; have HVV := Lib.hid hVV; have HFP := Lib.hid hfp3; clear hst3 hvb3 hVV hfp3 hk3 kk hB3; dsimp only))
                go_wp2_with (first
                  | (go_at_call 11; have hh := cut_any (at_ : Int) (HD.out.keep (HKEEP.out.trans HKR.out (fun _ _ h => h)) (fun h => h) (fun _ _ h => h)); rw [HC.out] at hh; dsimp only at hh; refine Calls.mono hh ?_; clear hh; rintro e W4 ⟨rfl, ⟨v1, hd1, hf1⟩, hk4⟩; have HD1 := Lib.hid hd1; have HF1 := Lib.hid hf1; have HK4 := Lib.hid hk4; clear hd1 hf1 hk4)
                  | (go_at_call 10; have hh := sync_any HD1.out; rw [HY.out] at hh; dsimp only at hh; refine Calls.mono hh ?_; clear hh; rintro e W5 ⟨rfl, ⟨v2, hd2, hf2⟩, hk5⟩; have HD2 := Lib.hid hd2; have HF2 := Lib.hid hf2; have HK5 := Lib.hid hk5; clear hd2 hf2 hk5))
                go_ret2
                rw [HF.out, HL2.out]
                exact open_fin HD.out hb HB3.out (HST.out.keep HKR.out (fun _ _ h => h)) HSEP.out (ownsRow_keep HOWN.out HKR.out (fun _ _ h => h)) hbw (HKEEP.out.trans HKR.out (fun _ _ h => h)) (HK4.out.trans HK5.out (fun k hk e => e.elim .inl (fun e => HF1.out.elim (fun h => .inr (h ▸ e)) (fun ⟨g, h1, h2⟩ => by have h3 : g = k := Option.some.inj (h1.symm.trans e); omega)))) HD2.out (HF2.out.elim (fun h => HF1.out.elim (fun h' => .inl (h.trans h')) (fun ⟨g, h1, h2⟩ => .inr ⟨g, h.trans h1, h2⟩)) (fun ⟨g, h1, h2⟩ => .inr ⟨g, h1, Nat.le_trans HK4.out.size h2⟩))
              · have hse2 : (se != 0) = true := by simpa using hse
                have hne := hse
                go_wp2_with (first
                  | (go_at_call 22; have hh := bcut_any (w := wr.alloc (.cells #[.int .u8 10] 5)) (b2 := wr.heap.size) ((HG.out.keep HKEEP.out).keep ((Keep.refl _ _).alloc _)) rfl (HRD.out.keep ((Keep.refl (fun _ => False) _).alloc _) (fun _ _ h => h)) (by rw [World.cell?_alloc_new]; rfl) (by omega); refine Calls.mono hh ?_; clear hh; rintro e w' ⟨v2, rfl, q, rfl⟩; rw [HOK.out]))
                go_region_held3 (fun W => W.cell? ⟨w3.heap.size + 1, 1, none⟩ = some (.pointer (some ⟨V.b, 0, none⟩)) ∧ (convert 28 9 (.slice so (cutPre rest).length (bc - at_))).run Tryz.prog W = .ok (.string (bs (cutPre rest))) W)
                  ((refine HSA.out _ ?_; repeat (first | exact HKR.out | apply Keep.drew | apply Keep.drewN | apply Keep.alloc)))
                  ((go_at_call 23; have kk := ((((Keep.refl (fun _ => False) wr).alloc (.cells #[.int .u8 10] 5)).drewN q).drew); have hh := do_any (F := F) (line := bs (cutPre rest)) ((HG.out.keep HKEEP.out).keep kk) (HST.out.keep kk (fun _ _ h => h)) (HSYS.out.small _ _ hlsn HINV.out) (by simp [bs, ByteArray.size]; omega) (HSYS.out.run _ _ _ hlsn HINV.out (by simp [bs, ByteArray.size]; omega)); rw [HRR.out] at hh; refine Calls.mono hh ?_; clear hh; rintro e W3 ⟨V', rfl, hst3, hvb3, hVV, hfp3, hk3⟩; have HKR := Lib.hid (kk.trans hk3 (fun _ _ h => h)); have hB3 := HBLK.out.keep HKR.out (fun h => h); have c1 := hB3.cell 1; have f1 := hB3.free 1; simp at c1; have HB3 := Lib.hid hB3; have HST3 := Lib.hid hst3; have HVV := Lib.hid hVV; have HFP := Lib.hid hfp3; clear hst3 hvb3 hVV hfp3 hk3 kk hB3; dsimp only))
                go_wp2_with (first
                  | (go_at_call 11; have hh := cut_any (at_ : Int) (HD.out.keep (HKEEP.out.trans HKR.out (fun _ _ h => h)) (fun h => h) (fun _ _ h => h)); rw [HC.out] at hh; dsimp only at hh; refine Calls.mono hh ?_; clear hh; rintro e W4 ⟨rfl, ⟨v1, hd1, hf1⟩, hk4⟩; have HD1 := Lib.hid hd1; have HF1 := Lib.hid hf1; have HK4 := Lib.hid hk4; clear hd1 hf1 hk4)
                  | (go_at_call 10; have hh := sync_any HD1.out; rw [HY.out] at hh; dsimp only at hh; refine Calls.mono hh ?_; clear hh; rintro e W5 ⟨rfl, ⟨v2, hd2, hf2⟩, hk5⟩; have HD2 := Lib.hid hd2; have HF2 := Lib.hid hf2; have HK5 := Lib.hid hk5; clear hd2 hf2 hk5))
                go_ret2
                rw [HF.out, HL2.out]
                exact open_err hne (HKEEP.out.trans HKR.out (fun _ _ h => h)) (HK4.out.trans HK5.out (fun k hk e => e.elim .inl (fun e => HF1.out.elim (fun h => .inr (h ▸ e)) (fun ⟨g, h1, h2⟩ => by have h3 : g = k := Option.some.inj (h1.symm.trans e); omega)))) HD2.out (HF2.out.elim (fun h => HF1.out.elim (fun h' => .inl (h.trans h')) (fun ⟨g, h1, h2⟩ => .inr ⟨g, h.trans h1, h2⟩)) (fun ⟨g, h1, h2⟩ => .inr ⟨g, h1, Nat.le_trans HK4.out.size h2⟩))
            · have hce2 : (ce != 0) = true := by simpa using hce
              have hne := hce
              have HL2 := Lib.hid (show openEnd D (S, ls, at_) = ⟨ce, D1, S, ls⟩ by unfold openEnd; rw [if_pos hend]; simp only [hC, if_neg hce])
              clear hC
              go_wp2_with (first
                | (go_at_call 22; have hh := bcut_any (w := wr.alloc (.cells #[.int .u8 10] 5)) (b2 := wr.heap.size) ((HG.out.keep HKEEP.out).keep ((Keep.refl _ _).alloc _)) rfl (HRD.out.keep ((Keep.refl (fun _ => False) _).alloc _) (fun _ _ h => h)) (by rw [World.cell?_alloc_new]; rfl) (by omega); refine Calls.mono hh ?_; clear hh; rintro e w' ⟨v2, rfl, q, rfl⟩; rw [HOK.out]))
              go_region_held3 (fun W => W.cell? ⟨w3.heap.size + 1, 1, none⟩ = some (.pointer (some ⟨V.b, 0, none⟩)) ∧ (convert 28 9 (.slice so (cutPre rest).length (bc - at_))).run Tryz.prog W = .ok (.string (bs (cutPre rest))) W)
                ((refine HSA.out _ ?_; repeat (first | exact HKR.out | apply Keep.drew | apply Keep.drewN | apply Keep.alloc)))
                ((go_at_call 23; have kk := ((((Keep.refl (fun _ => False) wr).alloc (.cells #[.int .u8 10] 5)).drewN q).drew); have hh := do_any (F := F) (line := bs (cutPre rest)) ((HG.out.keep HKEEP.out).keep kk) (HST.out.keep kk (fun _ _ h => h)) (HSYS.out.small _ _ hlsn HINV.out) (by simp [bs, ByteArray.size]; omega) (HSYS.out.run _ _ _ hlsn HINV.out (by simp [bs, ByteArray.size]; omega)); rw [HRR.out] at hh; refine Calls.mono hh ?_; clear hh; rintro e W3 ⟨V', rfl, hst3, hvb3, hVV, hfp3, hk3⟩; have HKR := Lib.hid (kk.trans hk3 (fun _ _ h => h)); have hB3 := HBLK.out.keep HKR.out (fun h => h); have c1 := hB3.cell 1; have f1 := hB3.free 1; simp at c1; have HB3 := Lib.hid hB3; have HST3 := Lib.hid hst3; have HVV := Lib.hid hVV; have HFP := Lib.hid hfp3; clear hst3 hvb3 hVV hfp3 hk3 kk hB3; dsimp only))
              go_wp2_with (first
                | (go_at_call 11; have hh := cut_any (at_ : Int) (HD.out.keep (HKEEP.out.trans HKR.out (fun _ _ h => h)) (fun h => h) (fun _ _ h => h)); rw [HC.out] at hh; dsimp only at hh; refine Calls.mono hh ?_; clear hh; rintro e W4 ⟨rfl, ⟨v1, hd1, hf1⟩, hk4⟩; have HD1 := Lib.hid hd1; have HF1 := Lib.hid hf1; have HK4 := Lib.hid hk4; clear hd1 hf1 hk4))
              go_ret2
              rw [HF.out, HL2.out]
              exact open_err hne (HKEEP.out.trans HKR.out (fun _ _ h => h)) HK4.out HD1.out HF1.out
          · have hlt : ((at_ : Int) < (D.bytes.length : Int)) = False := eq_false (by omega)
            obtain ⟨Y, hY⟩ : ∃ Y, syncF D = Y := ⟨_, rfl⟩
            obtain ⟨se, D2⟩ := Y
            have HY := Lib.hid hY
            have HL2 := Lib.hid (show openEnd D (S, ls, at_) = ⟨se, D2, S, ls⟩ by unfold openEnd; rw [if_neg hend]; simp only [hY])
            clear hY
            by_cases hse : se = 0
            · subst hse
              go_wp2_with (first
                | (go_at_call 22; have hh := bcut_any (w := wr.alloc (.cells #[.int .u8 10] 5)) (b2 := wr.heap.size) ((HG.out.keep HKEEP.out).keep ((Keep.refl _ _).alloc _)) rfl (HRD.out.keep ((Keep.refl (fun _ => False) _).alloc _) (fun _ _ h => h)) (by rw [World.cell?_alloc_new]; rfl) (by omega); refine Calls.mono hh ?_; clear hh; rintro e w' ⟨v2, rfl, q, rfl⟩; rw [HOK.out]))
              go_region_held3 (fun W => W.cell? ⟨w3.heap.size + 1, 1, none⟩ = some (.pointer (some ⟨V.b, 0, none⟩)) ∧ (convert 28 9 (.slice so (cutPre rest).length (bc - at_))).run Tryz.prog W = .ok (.string (bs (cutPre rest))) W)
                ((refine HSA.out _ ?_; repeat (first | exact HKR.out | apply Keep.drew | apply Keep.drewN | apply Keep.alloc)))
                ((go_at_call 23; have kk := ((((Keep.refl (fun _ => False) wr).alloc (.cells #[.int .u8 10] 5)).drewN q).drew); have hh := do_any (F := F) (line := bs (cutPre rest)) ((HG.out.keep HKEEP.out).keep kk) (HST.out.keep kk (fun _ _ h => h)) (HSYS.out.small _ _ hlsn HINV.out) (by simp [bs, ByteArray.size]; omega) (HSYS.out.run _ _ _ hlsn HINV.out (by simp [bs, ByteArray.size]; omega)); rw [HRR.out] at hh; refine Calls.mono hh ?_; clear hh; rintro e W3 ⟨V', rfl, hst3, hvb3, hVV, hfp3, hk3⟩; have HKR := Lib.hid (kk.trans hk3 (fun _ _ h => h)); have hB3 := HBLK.out.keep HKR.out (fun h => h); have c1 := hB3.cell 1; have f1 := hB3.free 1; simp at c1; have HB3 := Lib.hid hB3; have HST3 := Lib.hid hst3; have HVV := Lib.hid hVV; have HFP := Lib.hid hfp3; clear hst3 hvb3 hVV hfp3 hk3 kk hB3; dsimp only))
              go_wp2_with (first
                | (go_at_call 10; have hh := sync_any (HD.out.keep (HKEEP.out.trans HKR.out (fun _ _ h => h)) (fun h => h) (fun _ _ h => h)); rw [HY.out] at hh; dsimp only at hh; refine Calls.mono hh ?_; clear hh; rintro e W5 ⟨rfl, ⟨v2, hd2, hf2⟩, hk5⟩; have HD2 := Lib.hid hd2; have HF2 := Lib.hid hf2; have HK5 := Lib.hid hk5; clear hd2 hf2 hk5))
              go_ret2
              rw [HF.out, HL2.out]
              exact open_fin HD.out hb HB3.out (HST.out.keep HKR.out (fun _ _ h => h)) HSEP.out (ownsRow_keep HOWN.out HKR.out (fun _ _ h => h)) hbw (HKEEP.out.trans HKR.out (fun _ _ h => h)) HK5.out HD2.out HF2.out
            · have hse2 : (se != 0) = true := by simpa using hse
              have hne := hse
              go_wp2_with (first
                | (go_at_call 22; have hh := bcut_any (w := wr.alloc (.cells #[.int .u8 10] 5)) (b2 := wr.heap.size) ((HG.out.keep HKEEP.out).keep ((Keep.refl _ _).alloc _)) rfl (HRD.out.keep ((Keep.refl (fun _ => False) _).alloc _) (fun _ _ h => h)) (by rw [World.cell?_alloc_new]; rfl) (by omega); refine Calls.mono hh ?_; clear hh; rintro e w' ⟨v2, rfl, q, rfl⟩; rw [HOK.out]))
              go_region_held3 (fun W => W.cell? ⟨w3.heap.size + 1, 1, none⟩ = some (.pointer (some ⟨V.b, 0, none⟩)) ∧ (convert 28 9 (.slice so (cutPre rest).length (bc - at_))).run Tryz.prog W = .ok (.string (bs (cutPre rest))) W)
                ((refine HSA.out _ ?_; repeat (first | exact HKR.out | apply Keep.drew | apply Keep.drewN | apply Keep.alloc)))
                ((go_at_call 23; have kk := ((((Keep.refl (fun _ => False) wr).alloc (.cells #[.int .u8 10] 5)).drewN q).drew); have hh := do_any (F := F) (line := bs (cutPre rest)) ((HG.out.keep HKEEP.out).keep kk) (HST.out.keep kk (fun _ _ h => h)) (HSYS.out.small _ _ hlsn HINV.out) (by simp [bs, ByteArray.size]; omega) (HSYS.out.run _ _ _ hlsn HINV.out (by simp [bs, ByteArray.size]; omega)); rw [HRR.out] at hh; refine Calls.mono hh ?_; clear hh; rintro e W3 ⟨V', rfl, hst3, hvb3, hVV, hfp3, hk3⟩; have HKR := Lib.hid (kk.trans hk3 (fun _ _ h => h)); have hB3 := HBLK.out.keep HKR.out (fun h => h); have c1 := hB3.cell 1; have f1 := hB3.free 1; simp at c1; have HB3 := Lib.hid hB3; have HST3 := Lib.hid hst3; have HVV := Lib.hid hVV; have HFP := Lib.hid hfp3; clear hst3 hvb3 hVV hfp3 hk3 kk hB3; dsimp only))
              go_wp2_with (first
                | (go_at_call 10; have hh := sync_any (HD.out.keep (HKEEP.out.trans HKR.out (fun _ _ h => h)) (fun h => h) (fun _ _ h => h)); rw [HY.out] at hh; dsimp only at hh; refine Calls.mono hh ?_; clear hh; rintro e W5 ⟨rfl, ⟨v2, hd2, hf2⟩, hk5⟩; have HD2 := Lib.hid hd2; have HF2 := Lib.hid hf2; have HK5 := Lib.hid hk5; clear hd2 hf2 hk5))
              go_ret2
              rw [HF.out, HL2.out]
              exact open_err hne (HKEEP.out.trans HKR.out (fun _ _ h => h)) HK5.out HD2.out HF2.out
        | true =>
          by_cases hz : re = 0
          · subst hz
            go_wp2_with (first
              | (go_at_call 22; have hh := bcut_any (w := wr.alloc (.cells #[.int .u8 10] 5)) (b2 := wr.heap.size) ((HG.out.keep HKEEP.out).keep ((Keep.refl _ _).alloc _)) rfl (HRD.out.keep ((Keep.refl (fun _ => False) _).alloc _) (fun _ _ h => h)) (by rw [World.cell?_alloc_new]; rfl) (by omega); refine Calls.mono hh ?_; clear hh; rintro e w' ⟨v2, rfl, q, rfl⟩; rw [HOK.out]))
            go_region_held3 (fun W => W.cell? ⟨w3.heap.size + 1, 1, none⟩ = some (.pointer (some ⟨V.b, 0, none⟩)) ∧ (convert 28 9 (.slice so (cutPre rest).length (bc - at_))).run Tryz.prog W = .ok (.string (bs (cutPre rest))) W)
              ((refine HSA.out _ ?_; repeat (first | exact HKR.out | apply Keep.drew | apply Keep.drewN | apply Keep.alloc)))
              ((go_at_call 23; have kk := ((((Keep.refl (fun _ => False) wr).alloc (.cells #[.int .u8 10] 5)).drewN q).drew); have hh := do_any (F := F) (line := bs (cutPre rest)) ((HG.out.keep HKEEP.out).keep kk) (HST.out.keep kk (fun _ _ h => h)) (HSYS.out.small _ _ hlsn HINV.out) (by simp [bs, ByteArray.size]; omega) (HSYS.out.run _ _ _ hlsn HINV.out (by simp [bs, ByteArray.size]; omega)); rw [HRR.out] at hh; refine Calls.mono hh ?_; clear hh; rintro e W3 ⟨V', rfl, hst3, hvb3, hVV, hfp3, hk3⟩; have HKR := Lib.hid (kk.trans hk3 (fun _ _ h => h)); have hB3 := HBLK.out.keep HKR.out (fun h => h); have c1 := hB3.cell 1; have f1 := hB3.free 1; simp at c1; have HB3 := Lib.hid hB3; have HST3 := Lib.hid hst3; have HVV := Lib.hid hVV; have HFP := Lib.hid hfp3; clear hst3 hvb3 hVV hfp3 hk3 kk hB3; dsimp only))
            go_wp2
            have hk34 : Keep (fun k => k = w3.heap.size + 1) W3 (W3.setCell ⟨w3.heap.size + 1, 1, none⟩ (.pointer (some ⟨V'.b, 0, none⟩))) := (Keep.refl _ _).setCell _ _ (fun _ => rfl)
            have hb4 := HB3.out.set 1 (.pointer (some ⟨V'.b, 0, none⟩))
            obtain ⟨W4, hW4⟩ : ∃ W4, W4 = W3.setCell ⟨w3.heap.size + 1, 1, none⟩ (.pointer (some ⟨V'.b, 0, none⟩)) := ⟨_, rfl⟩
            rw [← hW4] at hk34 hb4
            rw [← hW4]
            clear hW4 c1 f1
            have c2 := hb4.cell 2
            have f2 := hb4.free 2
            simp at c2
            have hlt4 : w3.heap.size + 1 < W4.heap.size := hb4.lt
            have hne4 : w3.heap.size + 1 ≠ W4.heap.size := by omega
            have hbyne := ownsRow_blk HBY.out HBLK.out (by decide)
            have hbyvl := ownsRow_types HBY.out HOWN.out (by decide)
            have HSC : Hid (∀ W, Keep (fun k => k = w3.heap.size + 1 ∨ (Value.slice lo ls.length lc).ownBlock = some k) W4 W → (convert 28 9 (.slice so (cutPre rest).length (bc - at_))).run Tryz.prog W = .ok (.string (bs (cutPre rest))) W) := Lib.hid fun W hk =>
              hcv.out W (((HKR.out.mono (fun _ _ h => h.elim)).trans hk34 (fun k _ e h => hbyne (e ▸ h))).trans hk (fun k _ e h => e.elim (fun e => hbyne (e ▸ h)) (fun e => hbyvl k h e)))
            clear hbyne hbyvl
            obtain ⟨w5, hw5⟩ : ∃ w5, w5 = W4.alloc (.cells #[.string (bs (cutPre rest))] 9) := ⟨_, rfl⟩
            have hk45 : Keep (fun _ => False) W4 w5 := by rw [hw5]; exact (Keep.refl _ _).alloc _
            have HSRC : Hid (Src Tryz.prog 1 45 (.slice (some ⟨W4.heap.size, 0, none⟩) 1 1) 1 [.string (bs (cutPre rest))] w5.drew) := Lib.hid (by
              have := Rd.new W4 1 1 [.string (bs (cutPre rest))] 9 rfl (by simp [Value.oneCell']) (by unfold maxLen; omega)
              rw [hw5]; exact this.drew.src Tryz.underlying45)
            have hol4 : W4.ownsRow w.heap.size 9 1 (.slice lo ls.length lc) ls.length (strCells ls) := ownsRow_keep (ownsRow_keep HOWN.out HKR.out (fun _ _ h => h)) hk34 (fun k e e' => ownsRow_blk HOWN.out HBLK.out (by decide) (e' ▸ e))
            have HOL : Hid (w5.drew.ownsRow w.heap.size 9 1 (.slice lo ls.length lc) ls.length (strCells ls)) := Lib.hid (ownsRow_keep hol4 hk45.drew (fun _ _ h => h))
            have HBN : Hid ((Value.slice lo ls.length lc).ownBlock ≠ some (w3.heap.size + 1)) := Lib.hid (ownsRow_blk HOWN.out HBLK.out (by decide))
            have hb5 := hb4.keep hk45.drew (fun h => h)
            have HKR4 : Hid (Keep (fun k => k = w3.heap.size + 1 ∨ (Value.slice lo ls.length lc).ownBlock = some k) W4 W4) := Lib.hid (Keep.refl _ _)
            have HB5 := Lib.hid hb5; clear hb5
            have HK45 := Lib.hid hk45; clear hk45
            have HK34 := Lib.hid hk34; clear hk34
            have hwb : w.heap.size ≤ w5.drew.heap.size := Nat.le_trans HKEEP.out.size (Nat.le_trans HKR.out.size (Nat.le_trans HK34.out.size HK45.out.size))
            have HWB := Lib.hid hwb; clear hwb
            have HW5 := Lib.hid hw5; clear hw5 hb4 hol4
            refine wp_region_noPanic ?_
            refine wp_region_held_drew (S := fun W => (convert 28 9 (.slice so (cutPre rest).length (bc - at_))).run Tryz.prog W = .ok (.string (bs (cutPre rest))) W) (by kernel_rfl) (HSC.out _ HKR4.out.drew) (fun hHeld => ?_)
            refine wpAnyH_take (i := 0) (oi := _) (v := ?_) rfl (by kernel_rfl) (by kernel_rfl) (by kernel_rfl) (fun _ _ _ h => h) (Or.inl ⟨by rfl, ?_⟩) (by assumption) ?_
            rotate_left
            · (intro w hSw; (try dsimp only at hSw); go_simp) <;> with_reducible rfl
            (try simp only [List.getElem_toArray, List.getElem_cons_zero, List.getElem_cons_succ, Act.put, List.setIfInBounds_toArray, List.set_cons_zero, List.set_cons_succ])
            refine wpAnyH_take (i := 1) (oi := _) (v := ?_) rfl (by kernel_rfl) (by kernel_rfl) (by kernel_rfl) (fun _ _ _ h => h) (Or.inl ⟨by rfl, ?_⟩) (by assumption) ?_
            rotate_left
            · (intro w hSw; (try dsimp only at hSw); go_simp) <;> with_reducible rfl
            (try simp only [List.getElem_toArray, List.getElem_cons_zero, List.getElem_cons_succ, Act.put, List.setIfInBounds_toArray, List.set_cons_zero, List.set_cons_succ])
            refine wpAnyH_take (i := 2) (oi := _) (v := ?_) rfl (by kernel_rfl) (by kernel_rfl) (by kernel_rfl) (fun _ _ _ h => h) (Or.inl ⟨by rfl, ?_⟩) (by assumption) ?_
            rotate_left
            · (intro w hSw; (try dsimp only at hSw); go_simp) <;> with_reducible rfl
            (try simp only [List.getElem_toArray, List.getElem_cons_zero, List.getElem_cons_succ, Act.put, List.setIfInBounds_toArray, List.set_cons_zero, List.set_cons_succ])
            refine wpAnyH_take (i := 3) (oi := _) (v := ?_) rfl (by kernel_rfl) (by kernel_rfl) (by kernel_rfl) (fun _ _ _ h => h) (Or.inl ⟨by rfl, ?_⟩) (by assumption) ?_
            rotate_left
            · (intro w hSw; (try dsimp only at hSw); go_simp) <;> with_reducible rfl
            (try simp only [List.getElem_toArray, List.getElem_cons_zero, List.getElem_cons_succ, Act.put, List.setIfInBounds_toArray, List.set_cons_zero, List.set_cons_succ])
            refine wpAnyH_take (i := 5) (oi := _) (v := ?_) rfl (by kernel_rfl) (by kernel_rfl) (by kernel_rfl) (fun _ _ _ h => h) (Or.inl ⟨by rfl, ?_⟩) (by assumption) ?_
            rotate_left
            · (intro w hSw; (try dsimp only at hSw); go_simp) <;> with_reducible rfl
            (try simp only [List.getElem_toArray, List.getElem_cons_zero, List.getElem_cons_succ, Act.put, List.setIfInBounds_toArray, List.set_cons_zero, List.set_cons_succ])
            refine wpAnyH_take (i := 6) (oi := _) (v := ?_) rfl (by kernel_rfl) (by kernel_rfl) (by kernel_rfl) (fun _ _ _ h => h) (Or.inl ⟨by rfl, ?_⟩) (by assumption) ?_
            rotate_left
            · (intro w hSw; (try dsimp only at hSw); go_simp) <;> with_reducible rfl
            (try simp only [List.getElem_toArray, List.getElem_cons_zero, List.getElem_cons_succ, Act.put, List.setIfInBounds_toArray, List.set_cons_zero, List.set_cons_succ])
            refine wpAnyH_ready (rs := [4, 7]) (by kernel_rfl) (by simp) ?_
            refine AllReadyH.cons (o := _) rfl (fun K hK => ?_) (AllReadyH.cons (o := _) rfl (fun K hK => ?_) AllReadyH.nil)
            · go_simp
              refine hK.out _ _ ?_ (fun hHeld => ?_)
              · ((try dsimp only); refine HSC.out _ ?_; repeat (first | exact HKR4.out | apply Keep.drew | apply Keep.alloc | refine Keep.setCell ?_ _ _ (fun _ => .inl rfl)))
              clear hK K
              (try simp only [List.getElem_toArray, List.getElem_cons_zero, List.getElem_cons_succ, Act.put, List.setIfInBounds_toArray, List.set_cons_zero, List.set_cons_succ])
              refine wpAnyH_ready (rs := [7]) (by kernel_rfl) (by simp) ?_
              refine AllReadyH.cons (o := _) rfl (fun K hK => ?_) AllReadyH.nil
              go_simp
              refine hK.out _ _ ?_ (fun hHeld => ?_)
              · ((try dsimp only); refine HSC.out _ ?_; repeat (first | exact HKR4.out | apply Keep.drew | apply Keep.alloc | refine Keep.setCell ?_ _ _ (fun _ => .inl rfl)))
              clear hK K
              (try simp only [List.getElem_toArray, List.getElem_cons_zero, List.getElem_cons_succ, Act.put, List.setIfInBounds_toArray, List.set_cons_zero, List.set_cons_succ])
              refine wpAnyH_ready (rs := [8]) (by kernel_rfl) (by simp) ?_
              refine AllReadyH.cons (o := _) rfl (fun K hK => ?_) AllReadyH.nil
              rw [if_pos (by rfl)]
              rw [← HW5.out]
              refine oper_app (w := w5.drew) (.tmp 74) (.tmp 77) 45 45 rfl 9 (.string ⟨#[]⟩) 1 16 Tryz.underlying45 info9 rfl HOL.out rfl HSRC.out rfl (by unfold maxLen; omega) (by omega) HWB.out (fun v' w7 happ => ?_)
              obtain ⟨ao7, cap7, rfl, _⟩ := ownsRow_shape happ.own
              have HKR4 := Lib.hid ((HK45.out.drew.mono (fun _ _ h => h.elim)).trans happ.keep (fun _ _ h => .inr h) : Keep (fun k => k = w3.heap.size + 1 ∨ (Value.slice lo ls.length lc).ownBlock = some k) W4 w7)
              have hb7 := HB5.out.keep happ.keep HBN.out
              have c2 := hb7.cell 2
              have f2 := hb7.free 2
              simp at c2
              have HB7 := Lib.hid hb7
              have HA := Lib.hid happ
              clear happ hb7
              refine hK.out _ _ ?_ (fun hHeld => ?_)
              · ((try dsimp only); refine HSC.out _ ?_; repeat (first | exact HKR4.out | apply Keep.drew | apply Keep.alloc | refine Keep.setCell ?_ _ _ (fun _ => .inl rfl)))
              clear hK K
              (try simp only [List.getElem_toArray, List.getElem_cons_zero, List.getElem_cons_succ, Act.put, List.setIfInBounds_toArray, List.set_cons_zero, List.set_cons_succ])
              refine wpAnyH_take (i := 9) (oi := _) (v := ?_) rfl (by kernel_rfl) (by kernel_rfl) (by kernel_rfl) (fun _ _ _ h => h) (Or.inl ⟨by rfl, ?_⟩) (by assumption) ?_
              rotate_left
              · (intro w hSw; (try dsimp only at hSw); go_simp) <;> with_reducible rfl
              (try simp only [List.getElem_toArray, List.getElem_cons_zero, List.getElem_cons_succ, Act.put, List.setIfInBounds_toArray, List.set_cons_zero, List.set_cons_succ])
              refine wpAnyH_take (i := 10) (oi := _) (v := ?_) rfl (by kernel_rfl) (by kernel_rfl) (by kernel_rfl) (fun _ _ _ h => h) (Or.inl ⟨by rfl, ?_⟩) (by assumption) ?_
              rotate_left
              · (intro w hSw; (try dsimp only at hSw); go_simp) <;> with_reducible rfl
              (try simp only [List.getElem_toArray, List.getElem_cons_zero, List.getElem_cons_succ, Act.put, List.setIfInBounds_toArray, List.set_cons_zero, List.set_cons_succ])
              refine wpAnyH_ready (rs := [11]) (by kernel_rfl) (by simp) ?_
              refine AllReadyH.cons (o := _) rfl (fun K hK => ?_) AllReadyH.nil
              go_simp
              refine hK.out _ _ ?_ (fun hHeld => ?_)
              · ((try dsimp only); refine HSC.out _ ?_; repeat (first | exact HKR4.out | apply Keep.drew | apply Keep.alloc | refine Keep.setCell ?_ _ _ (fun _ => .inl rfl)))
              clear hK K
              (try simp only [List.getElem_toArray, List.getElem_cons_zero, List.getElem_cons_succ, Act.put, List.setIfInBounds_toArray, List.set_cons_zero, List.set_cons_succ])
              refine wpAnyH_done (by kernel_rfl) ?_ _
              refine NoPanic.normal ?_
              go_wp2
              go_roundw
              case rel =>
                have hct := (cutNL_true HOK.out).2
                have hnx := HSYS.out.next _ _ _ hlsn HINV.out (show (bs (cutPre rest)).size ≤ D.bytes.length by simp [bs, ByteArray.size]; omega) (show (doF F S (bs (cutPre rest))).err = 0 by rw [HRR.out])
                rw [HRR.out] at hnx
                have hrl := HRL.out
                have hk38 : Keep (fun k => k = w3.heap.size + 1 ∨ (Value.slice lo ls.length lc).ownBlock = some k) W3 (w7.setCell ⟨w3.heap.size + 1, 2, none⟩ (.slice ao7 (ls.length + 1) cap7)) :=
                  ((HK34.out.mono (fun _ _ h => .inl h)).trans HKR4.out (fun _ _ h => h)).setCell _ _ (fun _ => .inl rfl)
                have hk08 : Keep (fun k => k = w3.heap.size + 1 ∨ (Value.slice lo ls.length lc).ownBlock = some k) wr (w7.setCell ⟨w3.heap.size + 1, 2, none⟩ (.slice ao7 (ls.length + 1) cap7)) := (HKR.out.mono (fun _ _ h => h.elim)).trans hk38 (fun _ _ h => h)
                have hvne : (Value.slice ao7 (ls.length + 1) cap7).ownBlock ≠ some (w3.heap.size + 1) := fun e => ownsRow_blk HA.out.own HB7.out (by decide) e
                have hwr := HKEEP.out.size
                have hW3 := HKR.out.size
                have hsep3 : ∀ k, V'.fp k → w.heap.size ≤ k ∧ k ≠ w3.heap.size + 1 ∧ (Value.slice lo ls.length lc).ownBlock ≠ some k := fun k hk => by
                  rcases HFP.out k hk with e | e
                  · exact HSEP.out k e
                  · have e2 : (wr.alloc (.cells #[.int .u8 10] 5)).heap.size ≤ k := e
                    rw [World.size_alloc] at e2
                    refine ⟨by omega, fun h => by have := HBLK.out.lt; omega, fun h => by have := (ownsRow_lt HOWN.out k h).2; omega⟩
                refine ⟨rest.drop ((cutPre rest).length + 1), rs, ls ++ [bs (cutPre rest)], at_ + ((cutPre rest).length + 1), fuel - 1, V', ao7, cap7, by go_num, by omega, ?_, ?_, ?_, ?_, ?_, ?_, ?_, ?_, ?_, ?_, ?_⟩
                · rw [← HREST.out, List.drop_drop]
                · rw [List.length_drop]; omega
                · rw [← HLOOP.out]; exact (openLoop_step hfuel HOK.out HRR.out).symm
                · rw [List.length_append]; exact hnx
                · rw [List.length_append]; simp; omega
                · have := HB7.out.set 2 (.slice ao7 (ls.length + 1) cap7)
                  rw [List.length_append]
                  simpa using this
                · exact HST3.out.keep hk38 (fun i hi e => e.elim (fun e => (hsep3 i hi).2.1 e) (fun e => (hsep3 i hi).2.2 e))
                · intro k hk
                  refine ⟨(hsep3 k hk).1, (hsep3 k hk).2.1, fun e => ?_⟩
                  rw [List.length_append] at e
                  rcases HA.out.fresh with h1 | ⟨q1, h1, h2⟩
                  · exact (hsep3 k hk).2.2 (h1 ▸ e)
                  · have h3 : q1 = k := Option.some.inj (h1.symm.trans e)
                    have h4 := HST3.out.lt k hk
                    have h5 := HK34.out.size
                    have h6 := HK45.out.size
                    have h7 : w5.heap.size ≤ q1 := h2
                    omega
                · have := ownsRow_setCell HA.out.own ⟨w3.heap.size + 1, 2, none⟩ (.slice ao7 (ls.length + 1) cap7) hvne
                  simpa [strCells] using this
                · exact ownsRow_keep HBY.out hk08 (fun k e e' => e'.elim (fun e' => ownsRow_blk HBY.out HBLK.out (by decide) (e' ▸ e)) (fun e' => ownsRow_types HBY.out HOWN.out (by decide) k e e'))
                · exact HKEEP.out.trans hk08 (fun k hk e => e.elim (fun e => by have := HB.out; omega) (fun e => by have := (ownsRow_lt HOWN.out k e).1; omega))
              case measure =>
                have hct := (cutNL_true HOK.out).2
                have hrl := HRL.out
                simp [intOf]; omega
            · go_simp
              refine hK.out _ _ ?_ (fun hHeld => ?_)
              · ((try dsimp only); refine HSC.out _ ?_; repeat (first | exact HKR4.out | apply Keep.drew | apply Keep.alloc | refine Keep.setCell ?_ _ _ (fun _ => .inl rfl)))
              clear hK K
              (try simp only [List.getElem_toArray, List.getElem_cons_zero, List.getElem_cons_succ, Act.put, List.setIfInBounds_toArray, List.set_cons_zero, List.set_cons_succ])
              refine wpAnyH_ready (rs := [4]) (by kernel_rfl) (by simp) ?_
              refine AllReadyH.cons (o := _) rfl (fun K hK => ?_) AllReadyH.nil
              go_simp
              refine hK.out _ _ ?_ (fun hHeld => ?_)
              · ((try dsimp only); refine HSC.out _ ?_; repeat (first | exact HKR4.out | apply Keep.drew | apply Keep.alloc | refine Keep.setCell ?_ _ _ (fun _ => .inl rfl)))
              clear hK K
              (try simp only [List.getElem_toArray, List.getElem_cons_zero, List.getElem_cons_succ, Act.put, List.setIfInBounds_toArray, List.set_cons_zero, List.set_cons_succ])
              refine wpAnyH_ready (rs := [8]) (by kernel_rfl) (by simp) ?_
              refine AllReadyH.cons (o := _) rfl (fun K hK => ?_) AllReadyH.nil
              rw [if_pos (by rfl)]
              rw [← HW5.out]
              refine oper_app (w := w5.drew) (.tmp 74) (.tmp 77) 45 45 rfl 9 (.string ⟨#[]⟩) 1 16 Tryz.underlying45 info9 rfl HOL.out rfl HSRC.out rfl (by unfold maxLen; omega) (by omega) HWB.out (fun v' w7 happ => ?_)
              obtain ⟨ao7, cap7, rfl, _⟩ := ownsRow_shape happ.own
              have HKR4 := Lib.hid ((HK45.out.drew.mono (fun _ _ h => h.elim)).trans happ.keep (fun _ _ h => .inr h) : Keep (fun k => k = w3.heap.size + 1 ∨ (Value.slice lo ls.length lc).ownBlock = some k) W4 w7)
              have hb7 := HB5.out.keep happ.keep HBN.out
              have c2 := hb7.cell 2
              have f2 := hb7.free 2
              simp at c2
              have HB7 := Lib.hid hb7
              have HA := Lib.hid happ
              clear happ hb7
              refine hK.out _ _ ?_ (fun hHeld => ?_)
              · ((try dsimp only); refine HSC.out _ ?_; repeat (first | exact HKR4.out | apply Keep.drew | apply Keep.alloc | refine Keep.setCell ?_ _ _ (fun _ => .inl rfl)))
              clear hK K
              (try simp only [List.getElem_toArray, List.getElem_cons_zero, List.getElem_cons_succ, Act.put, List.setIfInBounds_toArray, List.set_cons_zero, List.set_cons_succ])
              refine wpAnyH_take (i := 9) (oi := _) (v := ?_) rfl (by kernel_rfl) (by kernel_rfl) (by kernel_rfl) (fun _ _ _ h => h) (Or.inl ⟨by rfl, ?_⟩) (by assumption) ?_
              rotate_left
              · (intro w hSw; (try dsimp only at hSw); go_simp) <;> with_reducible rfl
              (try simp only [List.getElem_toArray, List.getElem_cons_zero, List.getElem_cons_succ, Act.put, List.setIfInBounds_toArray, List.set_cons_zero, List.set_cons_succ])
              refine wpAnyH_take (i := 10) (oi := _) (v := ?_) rfl (by kernel_rfl) (by kernel_rfl) (by kernel_rfl) (fun _ _ _ h => h) (Or.inl ⟨by rfl, ?_⟩) (by assumption) ?_
              rotate_left
              · (intro w hSw; (try dsimp only at hSw); go_simp) <;> with_reducible rfl
              (try simp only [List.getElem_toArray, List.getElem_cons_zero, List.getElem_cons_succ, Act.put, List.setIfInBounds_toArray, List.set_cons_zero, List.set_cons_succ])
              refine wpAnyH_ready (rs := [11]) (by kernel_rfl) (by simp) ?_
              refine AllReadyH.cons (o := _) rfl (fun K hK => ?_) AllReadyH.nil
              go_simp
              refine hK.out _ _ ?_ (fun hHeld => ?_)
              · ((try dsimp only); refine HSC.out _ ?_; repeat (first | exact HKR4.out | apply Keep.drew | apply Keep.alloc | refine Keep.setCell ?_ _ _ (fun _ => .inl rfl)))
              clear hK K
              (try simp only [List.getElem_toArray, List.getElem_cons_zero, List.getElem_cons_succ, Act.put, List.setIfInBounds_toArray, List.set_cons_zero, List.set_cons_succ])
              refine wpAnyH_done (by kernel_rfl) ?_ _
              refine NoPanic.normal ?_
              go_wp2
              go_roundw
              case rel =>
                have hct := (cutNL_true HOK.out).2
                have hnx := HSYS.out.next _ _ _ hlsn HINV.out (show (bs (cutPre rest)).size ≤ D.bytes.length by simp [bs, ByteArray.size]; omega) (show (doF F S (bs (cutPre rest))).err = 0 by rw [HRR.out])
                rw [HRR.out] at hnx
                have hrl := HRL.out
                have hk38 : Keep (fun k => k = w3.heap.size + 1 ∨ (Value.slice lo ls.length lc).ownBlock = some k) W3 (w7.setCell ⟨w3.heap.size + 1, 2, none⟩ (.slice ao7 (ls.length + 1) cap7)) :=
                  ((HK34.out.mono (fun _ _ h => .inl h)).trans HKR4.out (fun _ _ h => h)).setCell _ _ (fun _ => .inl rfl)
                have hk08 : Keep (fun k => k = w3.heap.size + 1 ∨ (Value.slice lo ls.length lc).ownBlock = some k) wr (w7.setCell ⟨w3.heap.size + 1, 2, none⟩ (.slice ao7 (ls.length + 1) cap7)) := (HKR.out.mono (fun _ _ h => h.elim)).trans hk38 (fun _ _ h => h)
                have hvne : (Value.slice ao7 (ls.length + 1) cap7).ownBlock ≠ some (w3.heap.size + 1) := fun e => ownsRow_blk HA.out.own HB7.out (by decide) e
                have hwr := HKEEP.out.size
                have hW3 := HKR.out.size
                have hsep3 : ∀ k, V'.fp k → w.heap.size ≤ k ∧ k ≠ w3.heap.size + 1 ∧ (Value.slice lo ls.length lc).ownBlock ≠ some k := fun k hk => by
                  rcases HFP.out k hk with e | e
                  · exact HSEP.out k e
                  · have e2 : (wr.alloc (.cells #[.int .u8 10] 5)).heap.size ≤ k := e
                    rw [World.size_alloc] at e2
                    refine ⟨by omega, fun h => by have := HBLK.out.lt; omega, fun h => by have := (ownsRow_lt HOWN.out k h).2; omega⟩
                refine ⟨rest.drop ((cutPre rest).length + 1), rs, ls ++ [bs (cutPre rest)], at_ + ((cutPre rest).length + 1), fuel - 1, V', ao7, cap7, by go_num, by omega, ?_, ?_, ?_, ?_, ?_, ?_, ?_, ?_, ?_, ?_, ?_⟩
                · rw [← HREST.out, List.drop_drop]
                · rw [List.length_drop]; omega
                · rw [← HLOOP.out]; exact (openLoop_step hfuel HOK.out HRR.out).symm
                · rw [List.length_append]; exact hnx
                · rw [List.length_append]; simp; omega
                · have := HB7.out.set 2 (.slice ao7 (ls.length + 1) cap7)
                  rw [List.length_append]
                  simpa using this
                · exact HST3.out.keep hk38 (fun i hi e => e.elim (fun e => (hsep3 i hi).2.1 e) (fun e => (hsep3 i hi).2.2 e))
                · intro k hk
                  refine ⟨(hsep3 k hk).1, (hsep3 k hk).2.1, fun e => ?_⟩
                  rw [List.length_append] at e
                  rcases HA.out.fresh with h1 | ⟨q1, h1, h2⟩
                  · exact (hsep3 k hk).2.2 (h1 ▸ e)
                  · have h3 : q1 = k := Option.some.inj (h1.symm.trans e)
                    have h4 := HST3.out.lt k hk
                    have h5 := HK34.out.size
                    have h6 := HK45.out.size
                    have h7 : w5.heap.size ≤ q1 := h2
                    omega
                · have := ownsRow_setCell HA.out.own ⟨w3.heap.size + 1, 2, none⟩ (.slice ao7 (ls.length + 1) cap7) hvne
                  simpa [strCells] using this
                · exact ownsRow_keep HBY.out hk08 (fun k e e' => e'.elim (fun e' => ownsRow_blk HBY.out HBLK.out (by decide) (e' ▸ e)) (fun e' => ownsRow_types HBY.out HOWN.out (by decide) k e e'))
                · exact HKEEP.out.trans hk08 (fun k hk e => e.elim (fun e => by have := HB.out; omega) (fun e => by have := (ownsRow_lt HOWN.out k e).1; omega))
              case measure =>
                have hct := (cutNL_true HOK.out).2
                have hrl := HRL.out
                simp [intOf]; omega
          · have hre : (re != 0) = true := by simpa using hz
            have HL := Lib.hid (show openF F D g = openEnd D (S, ls, at_) by rw [HF.out, ← HLOOP.out]; rw [openLoop_err hfuel HOK.out HRR.out hz])
            have HF := HL
            have hbw : w.heap.size ≤ w3.heap.size + 1 := by omega
            by_cases hend : at_ < D.bytes.length
            · have hlt : ((at_ : Int) < (D.bytes.length : Int)) = True := eq_true (by omega)
              obtain ⟨C, hC⟩ : ∃ C, cutF D (at_ : Int) = C := ⟨_, rfl⟩
              obtain ⟨ce, D1⟩ := C
              have HC := Lib.hid hC
              by_cases hce : ce = 0
              · subst hce
                obtain ⟨Y, hY⟩ : ∃ Y, syncF D1 = Y := ⟨_, rfl⟩
                obtain ⟨se, D2⟩ := Y
                have HY := Lib.hid hY
                have HL2 := Lib.hid (show openEnd D (S, ls, at_) = ⟨se, D2, S, ls⟩ by unfold openEnd; rw [if_pos hend]; simp only [hC, if_true, hY])
                clear hC hY
                by_cases hse : se = 0
                · subst hse
                  go_wp2_with (first
                    | (go_at_call 22; have hh := bcut_any (w := wr.alloc (.cells #[.int .u8 10] 5)) (b2 := wr.heap.size) ((HG.out.keep HKEEP.out).keep ((Keep.refl _ _).alloc _)) rfl (HRD.out.keep ((Keep.refl (fun _ => False) _).alloc _) (fun _ _ h => h)) (by rw [World.cell?_alloc_new]; rfl) (by omega); refine Calls.mono hh ?_; clear hh; rintro e w' ⟨v2, rfl, q, rfl⟩; rw [HOK.out]))
                  go_region_held3 (fun W => W.cell? ⟨w3.heap.size + 1, 1, none⟩ = some (.pointer (some ⟨V.b, 0, none⟩)) ∧ (convert 28 9 (.slice so (cutPre rest).length (bc - at_))).run Tryz.prog W = .ok (.string (bs (cutPre rest))) W)
                    ((refine HSA.out _ ?_; repeat (first | exact HKR.out | apply Keep.drew | apply Keep.drewN | apply Keep.alloc)))
                    ((go_at_call 23; have kk := ((((Keep.refl (fun _ => False) wr).alloc (.cells #[.int .u8 10] 5)).drewN q).drew); have hh := do_any (F := F) (line := bs (cutPre rest)) ((HG.out.keep HKEEP.out).keep kk) (HST.out.keep kk (fun _ _ h => h)) (HSYS.out.small _ _ hlsn HINV.out) (by simp [bs, ByteArray.size]; omega) (HSYS.out.run _ _ _ hlsn HINV.out (by simp [bs, ByteArray.size]; omega)); rw [HRR.out] at hh; refine Calls.mono hh ?_; clear hh; rintro e W3 ⟨V', rfl, hst3, hvb3, hVV, hfp3, hk3⟩; have HKR := Lib.hid (kk.trans hk3 (fun _ _ h => h)); have hB3 := HBLK.out.keep HKR.out (fun h => h); have c1 := hB3.cell 1; have f1 := hB3.free 1; simp at c1; have HB3 := Lib.hid hB3; have HST3 := Lib.hid hst3; have HVV := Lib.hid hVV; have HFP := Lib.hid hfp3; clear hst3 hvb3 hVV hfp3 hk3 kk hB3; dsimp only))
                  go_wp2_with (first
                    | (go_at_call 11; have hh := cut_any (at_ : Int) (HD.out.keep (HKEEP.out.trans HKR.out (fun _ _ h => h)) (fun h => h) (fun _ _ h => h)); rw [HC.out] at hh; dsimp only at hh; refine Calls.mono hh ?_; clear hh; rintro e W4 ⟨rfl, ⟨v1, hd1, hf1⟩, hk4⟩; have HD1 := Lib.hid hd1; have HF1 := Lib.hid hf1; have HK4 := Lib.hid hk4; clear hd1 hf1 hk4)
                    | (go_at_call 10; have hh := sync_any HD1.out; rw [HY.out] at hh; dsimp only at hh; refine Calls.mono hh ?_; clear hh; rintro e W5 ⟨rfl, ⟨v2, hd2, hf2⟩, hk5⟩; have HD2 := Lib.hid hd2; have HF2 := Lib.hid hf2; have HK5 := Lib.hid hk5; clear hd2 hf2 hk5))
                  go_ret2
                  rw [HF.out, HL2.out]
                  exact open_fin HD.out hb HB3.out (HST.out.keep HKR.out (fun _ _ h => h)) HSEP.out (ownsRow_keep HOWN.out HKR.out (fun _ _ h => h)) hbw (HKEEP.out.trans HKR.out (fun _ _ h => h)) (HK4.out.trans HK5.out (fun k hk e => e.elim .inl (fun e => HF1.out.elim (fun h => .inr (h ▸ e)) (fun ⟨g, h1, h2⟩ => by have h3 : g = k := Option.some.inj (h1.symm.trans e); omega)))) HD2.out (HF2.out.elim (fun h => HF1.out.elim (fun h' => .inl (h.trans h')) (fun ⟨g, h1, h2⟩ => .inr ⟨g, h.trans h1, h2⟩)) (fun ⟨g, h1, h2⟩ => .inr ⟨g, h1, Nat.le_trans HK4.out.size h2⟩))
                · have hse2 : (se != 0) = true := by simpa using hse
                  have hne := hse
                  go_wp2_with (first
                    | (go_at_call 22; have hh := bcut_any (w := wr.alloc (.cells #[.int .u8 10] 5)) (b2 := wr.heap.size) ((HG.out.keep HKEEP.out).keep ((Keep.refl _ _).alloc _)) rfl (HRD.out.keep ((Keep.refl (fun _ => False) _).alloc _) (fun _ _ h => h)) (by rw [World.cell?_alloc_new]; rfl) (by omega); refine Calls.mono hh ?_; clear hh; rintro e w' ⟨v2, rfl, q, rfl⟩; rw [HOK.out]))
                  go_region_held3 (fun W => W.cell? ⟨w3.heap.size + 1, 1, none⟩ = some (.pointer (some ⟨V.b, 0, none⟩)) ∧ (convert 28 9 (.slice so (cutPre rest).length (bc - at_))).run Tryz.prog W = .ok (.string (bs (cutPre rest))) W)
                    ((refine HSA.out _ ?_; repeat (first | exact HKR.out | apply Keep.drew | apply Keep.drewN | apply Keep.alloc)))
                    ((go_at_call 23; have kk := ((((Keep.refl (fun _ => False) wr).alloc (.cells #[.int .u8 10] 5)).drewN q).drew); have hh := do_any (F := F) (line := bs (cutPre rest)) ((HG.out.keep HKEEP.out).keep kk) (HST.out.keep kk (fun _ _ h => h)) (HSYS.out.small _ _ hlsn HINV.out) (by simp [bs, ByteArray.size]; omega) (HSYS.out.run _ _ _ hlsn HINV.out (by simp [bs, ByteArray.size]; omega)); rw [HRR.out] at hh; refine Calls.mono hh ?_; clear hh; rintro e W3 ⟨V', rfl, hst3, hvb3, hVV, hfp3, hk3⟩; have HKR := Lib.hid (kk.trans hk3 (fun _ _ h => h)); have hB3 := HBLK.out.keep HKR.out (fun h => h); have c1 := hB3.cell 1; have f1 := hB3.free 1; simp at c1; have HB3 := Lib.hid hB3; have HST3 := Lib.hid hst3; have HVV := Lib.hid hVV; have HFP := Lib.hid hfp3; clear hst3 hvb3 hVV hfp3 hk3 kk hB3; dsimp only))
                  go_wp2_with (first
                    | (go_at_call 11; have hh := cut_any (at_ : Int) (HD.out.keep (HKEEP.out.trans HKR.out (fun _ _ h => h)) (fun h => h) (fun _ _ h => h)); rw [HC.out] at hh; dsimp only at hh; refine Calls.mono hh ?_; clear hh; rintro e W4 ⟨rfl, ⟨v1, hd1, hf1⟩, hk4⟩; have HD1 := Lib.hid hd1; have HF1 := Lib.hid hf1; have HK4 := Lib.hid hk4; clear hd1 hf1 hk4)
                    | (go_at_call 10; have hh := sync_any HD1.out; rw [HY.out] at hh; dsimp only at hh; refine Calls.mono hh ?_; clear hh; rintro e W5 ⟨rfl, ⟨v2, hd2, hf2⟩, hk5⟩; have HD2 := Lib.hid hd2; have HF2 := Lib.hid hf2; have HK5 := Lib.hid hk5; clear hd2 hf2 hk5))
                  go_ret2
                  rw [HF.out, HL2.out]
                  exact open_err hne (HKEEP.out.trans HKR.out (fun _ _ h => h)) (HK4.out.trans HK5.out (fun k hk e => e.elim .inl (fun e => HF1.out.elim (fun h => .inr (h ▸ e)) (fun ⟨g, h1, h2⟩ => by have h3 : g = k := Option.some.inj (h1.symm.trans e); omega)))) HD2.out (HF2.out.elim (fun h => HF1.out.elim (fun h' => .inl (h.trans h')) (fun ⟨g, h1, h2⟩ => .inr ⟨g, h.trans h1, h2⟩)) (fun ⟨g, h1, h2⟩ => .inr ⟨g, h1, Nat.le_trans HK4.out.size h2⟩))
              · have hce2 : (ce != 0) = true := by simpa using hce
                have hne := hce
                have HL2 := Lib.hid (show openEnd D (S, ls, at_) = ⟨ce, D1, S, ls⟩ by unfold openEnd; rw [if_pos hend]; simp only [hC, if_neg hce])
                clear hC
                go_wp2_with (first
                  | (go_at_call 22; have hh := bcut_any (w := wr.alloc (.cells #[.int .u8 10] 5)) (b2 := wr.heap.size) ((HG.out.keep HKEEP.out).keep ((Keep.refl _ _).alloc _)) rfl (HRD.out.keep ((Keep.refl (fun _ => False) _).alloc _) (fun _ _ h => h)) (by rw [World.cell?_alloc_new]; rfl) (by omega); refine Calls.mono hh ?_; clear hh; rintro e w' ⟨v2, rfl, q, rfl⟩; rw [HOK.out]))
                go_region_held3 (fun W => W.cell? ⟨w3.heap.size + 1, 1, none⟩ = some (.pointer (some ⟨V.b, 0, none⟩)) ∧ (convert 28 9 (.slice so (cutPre rest).length (bc - at_))).run Tryz.prog W = .ok (.string (bs (cutPre rest))) W)
                  ((refine HSA.out _ ?_; repeat (first | exact HKR.out | apply Keep.drew | apply Keep.drewN | apply Keep.alloc)))
                  ((go_at_call 23; have kk := ((((Keep.refl (fun _ => False) wr).alloc (.cells #[.int .u8 10] 5)).drewN q).drew); have hh := do_any (F := F) (line := bs (cutPre rest)) ((HG.out.keep HKEEP.out).keep kk) (HST.out.keep kk (fun _ _ h => h)) (HSYS.out.small _ _ hlsn HINV.out) (by simp [bs, ByteArray.size]; omega) (HSYS.out.run _ _ _ hlsn HINV.out (by simp [bs, ByteArray.size]; omega)); rw [HRR.out] at hh; refine Calls.mono hh ?_; clear hh; rintro e W3 ⟨V', rfl, hst3, hvb3, hVV, hfp3, hk3⟩; have HKR := Lib.hid (kk.trans hk3 (fun _ _ h => h)); have hB3 := HBLK.out.keep HKR.out (fun h => h); have c1 := hB3.cell 1; have f1 := hB3.free 1; simp at c1; have HB3 := Lib.hid hB3; have HST3 := Lib.hid hst3; have HVV := Lib.hid hVV; have HFP := Lib.hid hfp3; clear hst3 hvb3 hVV hfp3 hk3 kk hB3; dsimp only))
                go_wp2_with (first
                  | (go_at_call 11; have hh := cut_any (at_ : Int) (HD.out.keep (HKEEP.out.trans HKR.out (fun _ _ h => h)) (fun h => h) (fun _ _ h => h)); rw [HC.out] at hh; dsimp only at hh; refine Calls.mono hh ?_; clear hh; rintro e W4 ⟨rfl, ⟨v1, hd1, hf1⟩, hk4⟩; have HD1 := Lib.hid hd1; have HF1 := Lib.hid hf1; have HK4 := Lib.hid hk4; clear hd1 hf1 hk4))
                go_ret2
                rw [HF.out, HL2.out]
                exact open_err hne (HKEEP.out.trans HKR.out (fun _ _ h => h)) HK4.out HD1.out HF1.out
            · have hlt : ((at_ : Int) < (D.bytes.length : Int)) = False := eq_false (by omega)
              obtain ⟨Y, hY⟩ : ∃ Y, syncF D = Y := ⟨_, rfl⟩
              obtain ⟨se, D2⟩ := Y
              have HY := Lib.hid hY
              have HL2 := Lib.hid (show openEnd D (S, ls, at_) = ⟨se, D2, S, ls⟩ by unfold openEnd; rw [if_neg hend]; simp only [hY])
              clear hY
              by_cases hse : se = 0
              · subst hse
                go_wp2_with (first
                  | (go_at_call 22; have hh := bcut_any (w := wr.alloc (.cells #[.int .u8 10] 5)) (b2 := wr.heap.size) ((HG.out.keep HKEEP.out).keep ((Keep.refl _ _).alloc _)) rfl (HRD.out.keep ((Keep.refl (fun _ => False) _).alloc _) (fun _ _ h => h)) (by rw [World.cell?_alloc_new]; rfl) (by omega); refine Calls.mono hh ?_; clear hh; rintro e w' ⟨v2, rfl, q, rfl⟩; rw [HOK.out]))
                go_region_held3 (fun W => W.cell? ⟨w3.heap.size + 1, 1, none⟩ = some (.pointer (some ⟨V.b, 0, none⟩)) ∧ (convert 28 9 (.slice so (cutPre rest).length (bc - at_))).run Tryz.prog W = .ok (.string (bs (cutPre rest))) W)
                  ((refine HSA.out _ ?_; repeat (first | exact HKR.out | apply Keep.drew | apply Keep.drewN | apply Keep.alloc)))
                  ((go_at_call 23; have kk := ((((Keep.refl (fun _ => False) wr).alloc (.cells #[.int .u8 10] 5)).drewN q).drew); have hh := do_any (F := F) (line := bs (cutPre rest)) ((HG.out.keep HKEEP.out).keep kk) (HST.out.keep kk (fun _ _ h => h)) (HSYS.out.small _ _ hlsn HINV.out) (by simp [bs, ByteArray.size]; omega) (HSYS.out.run _ _ _ hlsn HINV.out (by simp [bs, ByteArray.size]; omega)); rw [HRR.out] at hh; refine Calls.mono hh ?_; clear hh; rintro e W3 ⟨V', rfl, hst3, hvb3, hVV, hfp3, hk3⟩; have HKR := Lib.hid (kk.trans hk3 (fun _ _ h => h)); have hB3 := HBLK.out.keep HKR.out (fun h => h); have c1 := hB3.cell 1; have f1 := hB3.free 1; simp at c1; have HB3 := Lib.hid hB3; have HST3 := Lib.hid hst3; have HVV := Lib.hid hVV; have HFP := Lib.hid hfp3; clear hst3 hvb3 hVV hfp3 hk3 kk hB3; dsimp only))
                go_wp2_with (first
                  | (go_at_call 10; have hh := sync_any (HD.out.keep (HKEEP.out.trans HKR.out (fun _ _ h => h)) (fun h => h) (fun _ _ h => h)); rw [HY.out] at hh; dsimp only at hh; refine Calls.mono hh ?_; clear hh; rintro e W5 ⟨rfl, ⟨v2, hd2, hf2⟩, hk5⟩; have HD2 := Lib.hid hd2; have HF2 := Lib.hid hf2; have HK5 := Lib.hid hk5; clear hd2 hf2 hk5))
                go_ret2
                rw [HF.out, HL2.out]
                exact open_fin HD.out hb HB3.out (HST.out.keep HKR.out (fun _ _ h => h)) HSEP.out (ownsRow_keep HOWN.out HKR.out (fun _ _ h => h)) hbw (HKEEP.out.trans HKR.out (fun _ _ h => h)) HK5.out HD2.out HF2.out
              · have hse2 : (se != 0) = true := by simpa using hse
                have hne := hse
                go_wp2_with (first
                  | (go_at_call 22; have hh := bcut_any (w := wr.alloc (.cells #[.int .u8 10] 5)) (b2 := wr.heap.size) ((HG.out.keep HKEEP.out).keep ((Keep.refl _ _).alloc _)) rfl (HRD.out.keep ((Keep.refl (fun _ => False) _).alloc _) (fun _ _ h => h)) (by rw [World.cell?_alloc_new]; rfl) (by omega); refine Calls.mono hh ?_; clear hh; rintro e w' ⟨v2, rfl, q, rfl⟩; rw [HOK.out]))
                go_region_held3 (fun W => W.cell? ⟨w3.heap.size + 1, 1, none⟩ = some (.pointer (some ⟨V.b, 0, none⟩)) ∧ (convert 28 9 (.slice so (cutPre rest).length (bc - at_))).run Tryz.prog W = .ok (.string (bs (cutPre rest))) W)
                  ((refine HSA.out _ ?_; repeat (first | exact HKR.out | apply Keep.drew | apply Keep.drewN | apply Keep.alloc)))
                  ((go_at_call 23; have kk := ((((Keep.refl (fun _ => False) wr).alloc (.cells #[.int .u8 10] 5)).drewN q).drew); have hh := do_any (F := F) (line := bs (cutPre rest)) ((HG.out.keep HKEEP.out).keep kk) (HST.out.keep kk (fun _ _ h => h)) (HSYS.out.small _ _ hlsn HINV.out) (by simp [bs, ByteArray.size]; omega) (HSYS.out.run _ _ _ hlsn HINV.out (by simp [bs, ByteArray.size]; omega)); rw [HRR.out] at hh; refine Calls.mono hh ?_; clear hh; rintro e W3 ⟨V', rfl, hst3, hvb3, hVV, hfp3, hk3⟩; have HKR := Lib.hid (kk.trans hk3 (fun _ _ h => h)); have hB3 := HBLK.out.keep HKR.out (fun h => h); have c1 := hB3.cell 1; have f1 := hB3.free 1; simp at c1; have HB3 := Lib.hid hB3; have HST3 := Lib.hid hst3; have HVV := Lib.hid hVV; have HFP := Lib.hid hfp3; clear hst3 hvb3 hVV hfp3 hk3 kk hB3; dsimp only))
                go_wp2_with (first
                  | (go_at_call 10; have hh := sync_any (HD.out.keep (HKEEP.out.trans HKR.out (fun _ _ h => h)) (fun h => h) (fun _ _ h => h)); rw [HY.out] at hh; dsimp only at hh; refine Calls.mono hh ?_; clear hh; rintro e W5 ⟨rfl, ⟨v2, hd2, hf2⟩, hk5⟩; have HD2 := Lib.hid hd2; have HF2 := Lib.hid hf2; have HK5 := Lib.hid hk5; clear hd2 hf2 hk5))
                go_ret2
                rw [HF.out, HL2.out]
                exact open_err hne (HKEEP.out.trans HKR.out (fun _ _ h => h)) HK5.out HD2.out HF2.out
end Go.Proofs.YtmiencgloondjaaGreatDoor

/- The laws' own disks, path, graph, and awake: a new house takes a lot. -/
namespace Go.Proofs.YtmiencgloondjaaGreatDoor
set_option linter.unusedSimpArgs false
set_option linter.unusedVariables false
set_option linter.unnecessarySimpa false
open Go.RowKit

def DisksPost (base : Nat) (w : World) (n : Int) (e : Ending) (w' : World) : Prop :=
  Keep (fun _ => False) w w' ∧
  (1 ≤ n ∧ n ≤ 1000000 → ∃ d x, e = .returned (.tuple #[.pointer (some ⟨d, 0, none⟩), .pointer (some ⟨x, 0, none⟩), .bool true]) ∧ DiskAt base w' d (newD n.toNat) (.slice none 0 0) ∧ RDiskAt base w' x (newD n.toNat) (.slice none 0 0) ∧ w.heap.size ≤ d ∧ w.heap.size ≤ x ∧ d ≠ x) ∧
  (¬ (1 ≤ n ∧ n ≤ 1000000) → e = .returned (.tuple #[.pointer none, .pointer none, .bool true]))
theorem disks_any {base : Nat} {w : World} (n : Int) (hb : base ≤ w.heap.size) : Calls Tryz.prog 36 #[.int .i64 n] w (DisksPost base w n) := by
  have h1 := newDisk_any (base := base) (w := w) n hb
  unfold NewPost at h1
  by_cases hn : 1 ≤ n ∧ n ≤ 1000000
  · have hn2 : ¬ (n < 1 ∨ 1000000 < n) := by omega
    simp only [if_neg hn2] at h1
    have H1 := Lib.hid h1; clear h1
    have HN := Lib.hid hn
    go_enter Tryz.func36, Tryz.ntmps36
    go_wp2_with (first
      | (go_at_call 61; refine H1.out.mono ?_; rintro e w1 ⟨rfl, hk1, hd1⟩; have HK1 := Lib.hid hk1; have HD1 := Lib.hid (hd1 HN.out.1 HN.out.2); clear hk1 hd1)
      | (go_at_call 62; have hh := rnewDisk_any (base := base) (w := w1) n (Nat.le_trans hb HK1.out.size); unfold RNewPost at hh; simp only [if_neg hn2] at hh; refine Calls.mono hh ?_; clear hh; rintro e w2 ⟨rfl, hk2, hd2⟩; have HK2 := Lib.hid hk2; have HD2 := Lib.hid (hd2 HN.out.1 HN.out.2); clear hk2 hd2))
    go_ret3
    have hz1 := HK1.out.size
    refine ⟨HK1.out.trans HK2.out (fun _ _ h => h), fun _ => ⟨w.heap.size, w1.heap.size, rfl, HD1.out.2.keep HK2.out (fun h => h) (fun _ _ h => h), HD2.out.2, Nat.le_refl _, hz1, by have := HD1.out.1; omega⟩, fun h => absurd HN.out h⟩
  · have hn2 : n < 1 ∨ 1000000 < n := by omega
    simp only [if_pos hn2] at h1
    have H1 := Lib.hid h1; clear h1
    have HN := Lib.hid hn
    have HN2 := Lib.hid hn2; clear hn hn2
    go_enter Tryz.func36, Tryz.ntmps36
    go_wp2_with (first
      | (go_at_call 61; refine H1.out.mono ?_; rintro e w1 ⟨rfl, hk1, hd1⟩; have HK1 := Lib.hid hk1; clear hk1 hd1)
      | (go_at_call 62; have hh := rnewDisk_any (base := base) (w := w1) n (Nat.le_trans hb HK1.out.size); unfold RNewPost at hh; simp only [if_pos HN2.out] at hh; refine Calls.mono hh ?_; clear hh; rintro e w2 ⟨rfl, hk2, hd2⟩; have HK2 := Lib.hid hk2; clear hk2 hd2))
    go_ret3
    exact ⟨HK1.out.trans HK2.out (fun _ _ h => h), fun h => absurd h HN.out, fun _ => rfl⟩

def pathG : List Int := [2, 5, 10, 20, 40, 80, 160, 64]
theorem path_any {w : World} : Calls Tryz.prog 37 #[] w fun e w' => e = .returned (.slice (some ⟨w.heap.size, 0, none⟩) 8 8) ∧ w' = w.alloc (.cells (icells pathG).toArray 3) := by
  go_enter Tryz.func37, Tryz.ntmps37
  go_wp2
  go_ret
  exact ⟨rfl, rfl⟩
theorem Rd.takeN {w : World} {ao : Option Addr} {n c : Nat} {xs : List Value} (h : Rd w 1 (.slice ao n c) n xs) (k : Nat) (hk : k ≤ n) : Rd w 1 (.slice ao k c) k (xs.take k) := by
  refine ⟨by have := h.1; rw [List.length_take]; omega, fun u hu => h.2.1 u (List.mem_of_mem_take hu), ?_⟩
  rcases h.2.2 with ⟨e, h0⟩ | ⟨b, o, c', e, h1, h2, hx⟩
  · injection e with e1 e2 e3
    subst e1 e3
    have : k = 0 := by omega
    subst this
    exact .inl ⟨rfl, rfl⟩
  · injection e with e1 e2 e3
    subst e1 e3
    refine .inr ⟨b, o, c, rfl, by omega, h2, fun j u hu => hx j u ?_⟩
    rw [List.getElem?_take] at hu
    split at hu
    · exact hu
    · cases hu
theorem graph_any {w : World} {v : Value} {g : List Int} (hv : Rd w 1 v g.length (icells g)) (hl : g.length ≤ 9223372036854775807) : Calls Tryz.prog 8 #[v] w (ClonePost w 3 1 (g.take 10).length (icells (g.take 10))) := by
  obtain ⟨ao, cap, hve, hlc, _⟩ := hv.shape
  subst hve
  have hm : (min (g.length : Int) 10).toNat = (g.take 10).length := by rw [List.length_take]; omega
  have hr := hv.takeN (g.take 10).length (by rw [List.length_take]; omega)
  have ht : (icells g).take (g.take 10).length = icells (g.take 10) := by
    rw [List.length_take]
    by_cases h : g.length ≤ 10
    · rw [List.take_of_length_le h, List.take_of_length_le (by rw [icells_length]; omega)]
    · rw [show min 10 g.length = 10 by omega]
      simp [icells, List.map_take]
  rw [ht] at hr
  have HC := Lib.hid (clone57 hr (by rw [List.length_take]; omega))
  have HM := Lib.hid hm
  clear hv ht hr hm
  have h0 : (0 : Int) ≤ min (g.length : Int) 10 := by omega
  have h1 : min (g.length : Int) 10 ≤ (cap : Int) := by omega
  go_enter Tryz.func8, Tryz.ntmps8
  go_wp2_with (go_at_call 24; rw [HM.out]; refine HC.out.mono ?_; rintro e w1 ⟨v', rfl, ho1, hk1⟩; have HO1 := Lib.hid ho1; have HK1 := Lib.hid hk1; clear ho1 hk1)
  go_ret
  exact ⟨_, rfl, HO1.out, HK1.out⟩

/-- The line that awake has done, read. -/
theorem form_mace : formF (bs [116, 97, 107, 101, 32, 109, 97, 99, 101, 32, 53]) = some ([115, 100], 420, ⟨[5], bs [109, 97, 99, 101], true⟩) := by kernel_rfl
theorem form_empty : formF (bs []) = none := by kernel_rfl
theorem bays_path : baysB pathG = true := by decide +kernel

def F0 (f : Nat) (S : St) (a : FA) : Res := if f = 420 then takeF S a else ⟨1, S, bs []⟩
theorem enters420 : Enters 420 := enters_of Tryz.func420 (by kernel_rfl) rfl
theorem size_zero {s : ByteArray} (h : s.size ≤ 0) : s = bs [] := ByteArray.ext (Array.eq_empty_of_size_eq_zero (Nat.le_zero.1 h))
theorem run_mace : RunOK F0 (S0 pathG) (bs [116, 97, 107, 101, 32, 109, 97, 99, 101, 32, 53]) := by
  intro so f a hf hok
  rw [form_mace] at hf
  simp only [Option.some.injEq, Prod.mk.injEq] at hf
  obtain ⟨_, rfl, rfl⟩ := hf
  refine ⟨enters420, fun base w V vn hG h ha => ?_⟩
  exact take_any hG h (by simp [S0]) ha rfl
def openE : OpenR := ⟨0, newD 100, S0 pathG, []⟩
theorem sys_empty : Sys F0 (fun _ S => S = S0 pathG) 0 0 := by
  refine ⟨fun k S line hk hS hl => ?_, fun k S hk hS => ?_, fun k S line hk hS hl he => ?_⟩
  · intro so f a hf
    have : line = bs [] := size_zero hl
    rw [this, form_empty] at hf; cases hf
  · rw [hS]; exact ⟨by simp [S0], by simp [S0], by simp [S0], by simp [S0]⟩
  · have : line = bs [] := size_zero hl
    rw [this] at he
    unfold doF at he
    rw [form_empty] at he; cases he
theorem open_path : openF F0 (newD 100) pathG = openE := by kernel_rfl
theorem do_mace : hdoF F0 (newD 100) (S0 pathG) [] false (bs [116, 97, 107, 101, 32, 109, 97, 99, 101, 32, 53]) =
    ⟨0, bs [116, 97, 107, 101, 32, 49], { newD 100 with bytes := [116, 97, 107, 101, 32, 109, 97, 99, 101, 32, 53, 10], safe := 12 }, addS (S0 pathG) ⟨bs [109, 97, 99, 101], 5, -1, false⟩, [bs [116, 97, 107, 101, 32, 109, 97, 99, 101, 32, 53]], false⟩ := by kernel_rfl

set_option maxRecDepth 100000 in
theorem awake_any {w : World} (hG : Glob w) : Calls Tryz.prog 18 #[] w (IdxPost w (.bool true)) := by
  have h12 := disks_any (base := w.heap.size) (w := w) 100 (Nat.le_refl _)
  have HG := Lib.hid hG; clear hG
  have H12 := Lib.hid h12; clear h12
  go_enter Tryz.func18, Tryz.ntmps18
  go_wp2_with (first
    | (go_at_call 36; refine H12.out.mono ?_; rintro e w1 ⟨hk1, hd1, _⟩; obtain ⟨d, x, rfl, hd, hx, hdd, _, _⟩ := hd1 (by omega); have HK1 := Lib.hid hk1; have HD := Lib.hid (show DiskAt w.heap.size w1 d (newD 100) (.slice none 0 0) from hd); have HDD := Lib.hid hdd; clear hk1 hd1 hd hx hdd)
    | (go_at_call 37; refine path_any.mono ?_; rintro e w2 ⟨rfl, rfl⟩; have hr := Rd.new w1 1 8 (icells pathG) 3 rfl (icells_one _) (by unfold maxLen; omega); have HR := Lib.hid hr; clear hr)
    | (go_at_call 8; have hh := graph_any (g := pathG) HR.out (by decide); refine Calls.mono hh ?_; clear hh; rintro e w3 ⟨gv, rfl, ho3, hk3⟩; have HO3 := Lib.hid ho3; have HK3 := Lib.hid (((HK1.out.alloc (.cells (icells pathG).toArray 3)).trans hk3 (fun _ _ h => h))); have HK13 := Lib.hid ((((Keep.refl (fun _ => False) w1).alloc (.cells (icells pathG).toArray 3)).trans hk3 (fun _ _ h => h))); clear ho3 hk3)
    | (go_at_call 7; have hh := open_any (F := F0) (I := fun _ S => S = S0 pathG) (g := pathG) (HG.out.keep HK3.out) (HD.out.keep HK13.out (fun h => h) (fun _ _ h => h)) (ownsRow_rd HO3.out (icells_one _)) (by decide) (fun k e => (ownsRow_lt HO3.out k e).2) HK3.out.size (fun _ => rfl) sys_empty; rw [open_path] at hh; refine Calls.mono hh ?_; clear hh; rintro e w4 ⟨v4, hd4, hf4, hk4, _, hok4⟩; obtain ⟨H, rfl, hHd, hHv, hh4, hfp4, hbb4, hvl4⟩ := hok4 rfl; have HH := Lib.hid hh4; have HK4 := Lib.hid (HK3.out.trans (hk4.mono (T := fun k => w.heap.size ≤ k) (fun k _ e => e.elim (fun e => e ▸ HDD.out) (fun e => by cases e))) (fun k hk e => by omega)); have HTP : Hid (∀ k, H.tp k → w.heap.size ≤ k) := Lib.hid (fun k hk => by
        have hz := HK3.out.size
        rcases hk with e | e | e | e
        · omega
        · rw [e, hHd]; exact HDD.out
        · rw [hHv] at e
          rcases hf4 with h1 | ⟨g, h1, h2⟩
          · rw [h1] at e; cases e
          · have h3 : g = k := Option.some.inj (h1.symm.trans e)
            omega
        · have := hvl4 k e; omega); clear hd4 hf4 hk4 hok4 hHd hHv hh4 hfp4 hbb4 hvl4)
    | (go_at_call 12; have hh := hdo_any (F := F0) (s := bs [116, 97, 107, 101, 32, 109, 97, 99, 101, 32, 53]) ((GW.start HG.out).keep HK4.out (fun i hi e => by omega)).glob HK4.out.size HH.out ⟨by simp [openE, S0], by simp [openE, S0], by simp [openE, S0], by simp [openE, S0]⟩ (by simp [openE]) (by decide) run_mace; rw [show hdoF F0 openE.D openE.st openE.ls false (bs [116, 97, 107, 101, 32, 109, 97, 99, 101, 32, 53]) = _ from do_mace] at hh; refine Calls.mono hh ?_; clear hh; rintro e w5 ⟨H', rfl, _, hc5⟩; have HC5 := Lib.hid hc5; clear hc5))
  go_ret
  refine ⟨?_, (HK4.out.mono (T := fun k => w.heap.size ≤ k) (fun _ _ e => e.elim)).trans HC5.out.keep (fun k _ e => HTP.out k e) |>.mono (fun k hk e => by omega)⟩
  show Ending.returned (.bool ((bs [116, 97, 107, 101, 32, 49]).toList == [116, 97, 107, 101, 32, 49])) = _
  rw [beq_iff_eq.2 ((toList_bs _ _).2 rfl)]
end Go.Proofs.YtmiencgloondjaaGreatDoor

/- The law HouseNobody, walked: it returns true, whatever its arguments. -/
namespace Go.Proofs.YtmiencgloondjaaGreatDoor
set_option linter.unusedSimpArgs false
set_option linter.unusedVariables false
set_option linter.unnecessarySimpa false
open Go.RowKit

theorem NilD.keep {w w' : World} {v : Value} (h : NilD w v) (k : Keep (fun _ => False) w w') : NilD w' v :=
  h.imp id fun ⟨b, e, c⟩ => ⟨b, e, (k.cell (p := ⟨b, 2, none⟩) (World.block_lt_of_cell? _ _ c) (fun h => h)).trans c⟩
theorem NilH.keep {w w' : World} {v : Value} (h : NilH w v) (k : Keep (fun _ => False) w w') : NilH w' v :=
  h.imp id fun ⟨b, e, c⟩ => ⟨b, e, (k.cell (p := ⟨b, 1, none⟩) (World.block_lt_of_cell? _ _ c) (fun h => h)).trans c⟩
def NRel (w1 : World) (v : Value) (wx : World) : Prop := ∃ j : Nat, j ≤ 2 ∧ v = .int .i64 j ∧ Keep (fun _ => False) w1 wx

set_option maxHeartbeats 6000000 in
set_option maxRecDepth 100000 in
theorem houseNobody_any {w : World} {gv cv : Value} {g : List Int} {s : ByteArray} {n : Int} {l : List CallR} (hG : Glob w) (hg : Rd w 1 gv g.length (icells g)) (hgl : g.length < 9223372036854775807) (hs : s.size ≤ 140737488355328)
    (hc : Rd w 2 cv l.length (callsC l)) (hl : l.length ≤ 9223372036854775806) :
    Calls Tryz.prog 3 #[gv, .string s, .int .i64 n, cv] w (IdxPost w (.bool true)) := by
  have HG := Lib.hid hG; have HGR := Lib.hid hg; have HC := Lib.hid hc
  clear hG hg hc
  have hcv := fun W => Lib.run_convert_string_bytes (P := Tryz.prog) W 9 28 5 s Tryz.underlying9 Tryz.underlying28 Tryz.underlying5
  obtain ⟨wa, hwa⟩ : ∃ wa, wa = w.alloc (.cells #[.bool false, .int .i64 0, .int .i64 0, .int .i64 0, .slice none 0 0] 30) := ⟨_, rfl⟩
  have ha := Blk.new w #[.bool false, .int .i64 0, .int .i64 0, .int .i64 0, .slice none 0 0] 30
  have hza : wa.heap.size = w.heap.size + 1 := by rw [hwa, World.size_alloc]
  have hka : Keep (fun _ => False) w wa := by rw [hwa]; exact (Keep.refl _ _).alloc _
  rw [← hwa] at ha
  obtain ⟨wb, hwb⟩ : ∃ wb, wb = wa.alloc (.cells #[.pointer none, .pointer (some ⟨w.heap.size, 0, none⟩)] 25) := ⟨_, rfl⟩
  have hb := Blk.new wa #[.pointer none, .pointer (some ⟨w.heap.size, 0, none⟩)] 25
  have hkb : Keep (fun _ => False) w wb := by rw [hwb]; exact hka.alloc _
  rw [← hwb] at hb
  have hnd : NilD wb (.pointer (some ⟨w.heap.size, 0, none⟩)) := .inr ⟨_, rfl, by rw [hwb]; exact (ha.alloc _).cell 2⟩
  have HB := Lib.hid hb; have HKB := Lib.hid hkb; have HND := Lib.hid hnd; have HWA := Lib.hid hwa; have HWB := Lib.hid hwb; have HZA := Lib.hid hza
  clear ha hb hkb hka hnd hwa hwb hza
  go_enter Tryz.func3, Tryz.ntmps3
  go_wp2_with fail
  rw [← HWA.out, ← HZA.out, ← HWB.out]
  go_loopw [27] (NRel wb) (fun v _ => 2 - (intOf v).toNat)
  case atStart => exact ⟨0, Nat.zero_le _, rfl, Keep.refl _ _⟩
  case round =>
    obtain ⟨j, hj, rfl, hk⟩ := hrel
    have HK := Lib.hid hk
    have hb2 := HB.out.keep hk (fun h => h)
    have c0 := hb2.cell 0; have c1 := hb2.cell 1
    simp at c0 c1
    clear hk hb2
    by_cases hj2 : j < 2
    · have h01 : j = 0 ∨ j = 1 := by omega
      rcases h01 with rfl | rfl
      · have hnd : NilD wr (.pointer none) := .inl rfl
        have H4 := Lib.hid (nfuse_any (n := n) hnd); have H5 := Lib.hid (ncrash_any (n := n) hnd); have H6 := Lib.hid (nread_any hnd)
        have H8 := Lib.hid (graph_any (HGR.out.keep (HKB.out.trans HK.out (fun _ _ h => h)) (fun _ _ h => h)) (Nat.le_of_lt hgl))
        have HN := Lib.hid hnd
        clear hnd hj hj2
        go_wp2_with (first
          | (go_at_call 4; refine H4.out.mono ?_; rintro e w4 ⟨rfl, rfl⟩)
          | (go_at_call 5; refine H5.out.mono ?_; rintro e w4 ⟨rfl, rfl⟩)
          | (go_at_call 6; refine H6.out.mono ?_; rintro e w4 ⟨rfl, rfl⟩)
          | (go_at_call 8; refine Calls.mono H8.out ?_; rintro e w5 ⟨gv5, rfl, ho5, hk5⟩; have HK5 := Lib.hid hk5; have HN5 := Lib.hid (HN.out.keep hk5); have HN6 := Lib.hid (HN5.out.keep (convKeep w5 5 s)); clear ho5 hk5)
          | (go_at_call 7; refine (nopen_any HN5.out).mono ?_; rintro e w4 ⟨rfl, rfl⟩)
          | (go_at_call 9; refine (nappend_any HN6.out).mono ?_; rintro e w4 ⟨rfl, rfl⟩)
          | (go_at_call 10; refine (nsync_any HN6.out).mono ?_; rintro e w4 ⟨rfl, rfl⟩)
          | (go_at_call 11; refine (ncut_any HN6.out).mono ?_; rintro e w4 ⟨rfl, rfl⟩))
        go_roundw
        case rel => exact ⟨1, by omega, by go_num, (HK.out.trans HK5.out (fun _ _ h => h)).trans (convKeep _ 5 s) (fun _ _ h => h)⟩
        case measure => simp [intOf]
      · have hnd : NilD wr (.pointer (some ⟨w.heap.size, 0, none⟩)) := HND.out.keep HK.out
        have H4 := Lib.hid (nfuse_any (n := n) hnd); have H5 := Lib.hid (ncrash_any (n := n) hnd); have H6 := Lib.hid (nread_any hnd)
        have H8 := Lib.hid (graph_any (HGR.out.keep (HKB.out.trans HK.out (fun _ _ h => h)) (fun _ _ h => h)) (Nat.le_of_lt hgl))
        have HN := Lib.hid hnd
        clear hnd hj hj2
        go_wp2_with (first
          | (go_at_call 4; refine H4.out.mono ?_; rintro e w4 ⟨rfl, rfl⟩)
          | (go_at_call 5; refine H5.out.mono ?_; rintro e w4 ⟨rfl, rfl⟩)
          | (go_at_call 6; refine H6.out.mono ?_; rintro e w4 ⟨rfl, rfl⟩)
          | (go_at_call 8; refine Calls.mono H8.out ?_; rintro e w5 ⟨gv5, rfl, ho5, hk5⟩; have HK5 := Lib.hid hk5; have HN5 := Lib.hid (HN.out.keep hk5); have HN6 := Lib.hid (HN5.out.keep (convKeep w5 5 s)); clear ho5 hk5)
          | (go_at_call 7; refine (nopen_any HN5.out).mono ?_; rintro e w4 ⟨rfl, rfl⟩)
          | (go_at_call 9; refine (nappend_any HN6.out).mono ?_; rintro e w4 ⟨rfl, rfl⟩)
          | (go_at_call 10; refine (nsync_any HN6.out).mono ?_; rintro e w4 ⟨rfl, rfl⟩)
          | (go_at_call 11; refine (ncut_any HN6.out).mono ?_; rintro e w4 ⟨rfl, rfl⟩))
        go_roundw
        case rel => exact ⟨2, by omega, by go_num, (HK.out.trans HK5.out (fun _ _ h => h)).trans (convKeep _ 5 s) (fun _ _ h => h)⟩
        case measure => simp [intOf]
    · have hj3 : j = 2 := by omega
      subst hj3
      rw [show (((2 : Nat) : Int)) = (2 : Int) from rfl]
      clear hj hj2 c0 c1
      obtain ⟨wc, hwc⟩ : ∃ wc, wc = wr.alloc (.cells #[.pointer none, .pointer none, .slice none 0 0, .bool false] 47) := ⟨_, rfl⟩
      have hcb := Blk.new wr #[.pointer none, .pointer none, .slice none 0 0, .bool false] 47
      have hzc : wc.heap.size = wr.heap.size + 1 := by rw [hwc, World.size_alloc]
      have hkc : Keep (fun _ => False) w wc := by rw [hwc]; exact (HKB.out.trans HK.out (fun _ _ h => h)).alloc _
      rw [← hwc] at hcb
      obtain ⟨wd, hwd⟩ : ∃ wd, wd = wc.alloc (.cells #[.pointer none, .pointer (some ⟨wr.heap.size, 0, none⟩)] 36) := ⟨_, rfl⟩
      have hdb := Blk.new wc #[.pointer none, .pointer (some ⟨wr.heap.size, 0, none⟩)] 36
      have hkd : Keep (fun _ => False) w wd := by rw [hwd]; exact hkc.alloc _
      rw [← hwd] at hdb
      have hnh : NilH wd (.pointer (some ⟨wr.heap.size, 0, none⟩)) := .inr ⟨_, rfl, by rw [hwd]; exact (hcb.alloc _).cell 1⟩
      have HDB := Lib.hid hdb; have HKD := Lib.hid hkd; have HNH := Lib.hid hnh; have HWC := Lib.hid hwc; have HWD := Lib.hid hwd; have HZC := Lib.hid hzc
      clear hcb hdb hkd hkc hnh hwc hwd hzc
      go_wp2_with fail
      rw [← HWC.out, ← HZC.out, ← HWD.out]
      go_loopw [87] (NRel wd) (fun v _ => 2 - (intOf v).toNat)
      case atStart => exact ⟨0, Nat.zero_le _, rfl, Keep.refl _ _⟩
      case round =>
        obtain ⟨j, hj, rfl, hk⟩ := hrel
        have HK2 := Lib.hid hk
        have hb2 := HDB.out.keep hk (fun h => h)
        have c0 := hb2.cell 0; have c1 := hb2.cell 1
        simp at c0 c1
        clear hk hb2
        by_cases hj2 : j < 2
        · have h01 : j = 0 ∨ j = 1 := by omega
          rcases h01 with rfl | rfl
          · have hnd : NilH wr (.pointer none) := .inl rfl
            have H12 := Lib.hid (ndo_any (s := s) hnd); have H13 := Lib.hid (nask_any (s := s) hnd)
            have H15 := Lib.hid (calls_any (HC.out.keep (HKD.out.trans HK2.out (fun _ _ h => h)) (fun _ _ h => h)) hl)
            have HN := Lib.hid hnd
            clear hnd hj hj2
            go_wp2_with (first
              | (go_at_call 12; refine H12.out.mono ?_; rintro e w4 ⟨rfl, rfl⟩)
              | (go_at_call 13; refine H13.out.mono ?_; rintro e w4 ⟨rfl, rfl⟩)
              | (go_at_call 15; refine Calls.mono H15.out ?_; rintro e w5 ⟨cv5, rfl, ho5, hk5⟩; have HK5 := Lib.hid hk5; have HN5 := Lib.hid (HN.out.keep hk5); clear ho5 hk5)
              | (go_at_call 14; refine (nday_any HN5.out).mono ?_; rintro e w6 ⟨rfl, hk6⟩; have HK6 := Lib.hid (HK5.out.trans hk6 (fun _ _ h => h)); have HN6 := Lib.hid (HN5.out.keep hk6); clear hk6)
              | (go_at_call 16; refine (njournal_any HN6.out).mono ?_; rintro e w4 ⟨rfl, rfl⟩)
              | (go_at_call 17; refine (nstate_any HN6.out).mono ?_; rintro e w4 ⟨rfl, rfl⟩))
            go_roundw
            case rel => exact ⟨1, by omega, by go_num, HK2.out.trans HK6.out (fun _ _ h => h)⟩
            case measure => simp [intOf]
          · have hnd : NilH wr _ := HNH.out.keep HK2.out
            have H12 := Lib.hid (ndo_any (s := s) hnd); have H13 := Lib.hid (nask_any (s := s) hnd)
            have H15 := Lib.hid (calls_any (HC.out.keep (HKD.out.trans HK2.out (fun _ _ h => h)) (fun _ _ h => h)) hl)
            have HN := Lib.hid hnd
            clear hnd hj hj2
            go_wp2_with (first
              | (go_at_call 12; refine H12.out.mono ?_; rintro e w4 ⟨rfl, rfl⟩)
              | (go_at_call 13; refine H13.out.mono ?_; rintro e w4 ⟨rfl, rfl⟩)
              | (go_at_call 15; refine Calls.mono H15.out ?_; rintro e w5 ⟨cv5, rfl, ho5, hk5⟩; have HK5 := Lib.hid hk5; have HN5 := Lib.hid (HN.out.keep hk5); clear ho5 hk5)
              | (go_at_call 14; refine (nday_any HN5.out).mono ?_; rintro e w6 ⟨rfl, hk6⟩; have HK6 := Lib.hid (HK5.out.trans hk6 (fun _ _ h => h)); have HN6 := Lib.hid (HN5.out.keep hk6); clear hk6)
              | (go_at_call 16; refine (njournal_any HN6.out).mono ?_; rintro e w4 ⟨rfl, rfl⟩)
              | (go_at_call 17; refine (nstate_any HN6.out).mono ?_; rintro e w4 ⟨rfl, rfl⟩))
            go_roundw
            case rel => exact ⟨2, by omega, by go_num, HK2.out.trans HK6.out (fun _ _ h => h)⟩
            case measure => simp [intOf]
        · have hj3 : j = 2 := by omega
          subst hj3
          clear hj hj2 c0 c1
          go_wp2_with (go_at_call 18; refine Calls.mono (awake_any (HG.out.keep (HKD.out.trans HK2.out (fun _ _ h => h)))) ?_; rintro e w4 ⟨rfl, hk4⟩; have HK4 := Lib.hid hk4; clear hk4)
          go_ret
          exact ⟨rfl, (HKD.out.trans HK2.out (fun _ _ h => h)).trans HK4.out (fun _ _ h => h)⟩
end Go.Proofs.YtmiencgloondjaaGreatDoor
