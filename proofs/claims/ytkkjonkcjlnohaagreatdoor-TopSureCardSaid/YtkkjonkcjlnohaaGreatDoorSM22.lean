/- A house in memory, and what Open answers, in plain Lean. -/
import Derived.Test.YtkkjonkcjlnohaaGreatDoorSM13
import Derived.Test.YtkkjonkcjlnohaaGreatDoorSM11
import Derived.Test.YtkkjonkcjlnohaaGreatDoorSM20
import Derived.Test.YtkkjonkcjlnohaaGreatDoorSM21
import Derived.Test.YtkkjonkcjlnohaaGreatDoorSM17
import Derived.Test.YtkkjonkcjlnohaaGreatDoorSM14
import Derived.Test.YtkkjonkcjlnohaaGreatDoorSM19

/- A house in memory, and what Open answers, in plain Lean. -/
namespace Go.Proofs.YtkkjonkcjlnohaaGreatDoor
set_option linter.unusedSimpArgs false
set_option linter.unusedVariables false
set_option linter.unnecessarySimpa false
open Go.RowKit

/-- Where a house lies: its block, its disk's block and bytes, its state, its lines. -/
structure HV where
  h : Nat
  d : Nat
  v : Value
  V : StV
  vl : Value
structure HouseAt (base : Nat) (w : World) (H : HV) (D : Dsk) (S : St) (ls : List ByteArray) (lost : Bool) : Prop where
  blk : Blk w H.h #[.pointer (some ⟨H.d, 0, none⟩), .pointer (some ⟨H.V.b, 0, none⟩), H.vl, .bool lost] 61
  disk : DiskAt base w H.d D H.v
  st : StAt w H.V S
  own : w.ownsRow base 9 1 H.vl ls.length (strCells ls)
  ge : base ≤ H.h
  sep : ∀ k, H.V.fp k → k ≠ H.h ∧ k ≠ H.d ∧ H.v.ownBlock ≠ some k ∧ H.vl.ownBlock ≠ some k
/-- What a house's calls may write. -/
def HV.tp (H : HV) (k : Nat) : Prop := k = H.h ∨ k = H.d ∨ H.v.ownBlock = some k ∨ H.vl.ownBlock = some k
theorem HouseAt.keep {T : Nat → Prop} {base : Nat} {w w' : World} {H : HV} {D : Dsk} {S : St} {ls : List ByteArray} {lost : Bool} (h : HouseAt base w H D S ls lost) (k : Keep T w w') (h1 : ∀ i, H.tp i → ¬ T i) (h2 : ∀ i, H.V.fp i → ¬ T i) : HouseAt base w' H D S ls lost :=
  ⟨h.blk.keep k (h1 _ (.inl rfl)), h.disk.keep k (h1 _ (.inr (.inl rfl))) (fun g e => h1 g (.inr (.inr (.inl e)))), h.st.keep k h2, ownsRow_keep h.own k (fun g e => h1 g (.inr (.inr (.inr e)))), h.ge, h.sep⟩
theorem Blk.types {w : World} {b b' : Nat} {c c' : Array Value} {t t' : TypeId} (h : Blk w b c t) (h' : Blk w b' c' t') (ht : t ≠ t') : b ≠ b' := fun e => by
  subst e
  unfold Blk at h h'
  rw [h] at h'
  cases h'
  exact ht rfl

/-- The commands, and what holds of the states that they are run on. -/
structure Sys (F : Nat → St → FA → Res) (I : Nat → St → Prop) (n K : Nat) : Prop where
  run : ∀ k S line, k ≤ K → I k S → line.size ≤ n → RunOK F S line
  small : ∀ k S, k ≤ K → I k S → S.small
  next : ∀ k S line, k ≤ K → I k S → line.size ≤ n → (doF F S line).err = 0 → I (k + 1) (doF F S line).st

def openLoop (F : Nat → St → FA → Res) : Nat → List UInt8 → St → List ByteArray → Nat → St × List ByteArray × Nat
  | 0, _, S, ls, at_ => (S, ls, at_)
  | k + 1, rest, S, ls, at_ =>
    match cutNL rest with
    | none => (S, ls, at_)
    | some (a, b) => if (doF F S (bs a)).err = 0 then openLoop F k b (doF F S (bs a)).st (ls ++ [bs a]) (at_ + (a.length + 1)) else (S, ls, at_)
theorem cutNL_true {l : List UInt8} (h : (cutNL l).isSome = true) : cutNL l = some (cutPre l, l.drop ((cutPre l).length + 1)) ∧ (cutPre l).length + 1 ≤ l.length := by
  cases hc : cutNL l with
  | none => rw [hc] at h; cases h
  | some x =>
    obtain ⟨a, b⟩ := x
    have h1 := cutNL_some hc
    have h2 : cutPre l = a := by unfold cutPre; rw [hc]
    rw [h2]
    exact ⟨by rw [h1.2.2], h1.1⟩
theorem openLoop_step {F : Nat → St → FA → Res} {fuel : Nat} {rest : List UInt8} {S rs : St} {ls : List ByteArray} {at_ : Nat} {ro : ByteArray} (hf : rest.length < fuel) (h : (cutNL rest).isSome = true) (hR : doF F S (bs (cutPre rest)) = ⟨0, rs, ro⟩) :
    openLoop F fuel rest S ls at_ = openLoop F (fuel - 1) (rest.drop ((cutPre rest).length + 1)) rs (ls ++ [bs (cutPre rest)]) (at_ + ((cutPre rest).length + 1)) := by
  obtain ⟨k, rfl⟩ : ∃ k, fuel = k + 1 := ⟨fuel - 1, by omega⟩
  show (match cutNL rest with | none => _ | some (a, b) => _) = _
  rw [(cutNL_true h).1]
  simp only [hR, if_true, Nat.add_sub_cancel]
theorem openLoop_none {F : Nat → St → FA → Res} {fuel : Nat} {rest : List UInt8} {S : St} {ls : List ByteArray} {at_ : Nat} (hf : rest.length < fuel) (h : (cutNL rest).isSome = false) :
    openLoop F fuel rest S ls at_ = (S, ls, at_) := by
  obtain ⟨k, rfl⟩ : ∃ k, fuel = k + 1 := ⟨fuel - 1, by omega⟩
  cases hc : cutNL rest with
  | none => show (match cutNL rest with | none => _ | some (a, b) => _) = _; rw [hc]
  | some x => rw [hc] at h; cases h
theorem openLoop_err {F : Nat → St → FA → Res} {fuel : Nat} {rest : List UInt8} {S : St} {ls : List ByteArray} {at_ : Nat} {R : Res} (hf : rest.length < fuel) (h : (cutNL rest).isSome = true) (hR : doF F S (bs (cutPre rest)) = R) (he : R.err ≠ 0) :
    openLoop F fuel rest S ls at_ = (S, ls, at_) := by
  obtain ⟨k, rfl⟩ : ∃ k, fuel = k + 1 := ⟨fuel - 1, by omega⟩
  show (match cutNL rest with | none => _ | some (a, b) => _) = _
  rw [(cutNL_true h).1]
  simp only [hR, if_neg he]
structure OpenR where
  err : Int
  D : Dsk
  st : St
  ls : List ByteArray
def S0 (g : List Int) : St := ⟨g, [], [], [], []⟩
def openEnd (D : Dsk) (r : St × List ByteArray × Nat) : OpenR :=
  if r.2.2 < D.bytes.length then
    if (cutF D r.2.2).1 = 0 then ⟨(syncF (cutF D r.2.2).2).1, (syncF (cutF D r.2.2).2).2, r.1, r.2.1⟩ else ⟨(cutF D r.2.2).1, (cutF D r.2.2).2, r.1, r.2.1⟩
  else ⟨(syncF D).1, (syncF D).2, r.1, r.2.1⟩
def openF (F : Nat → St → FA → Res) (D : Dsk) (g : List Int) : OpenR :=
  if baysB g then
    if D.off then ⟨10, D, S0 g, []⟩ else openEnd D (openLoop F (D.bytes.length + 1) D.bytes (S0 g) [] 0)
  else ⟨2, D, S0 g, []⟩
def OpenPost (base : Nat) (w : World) (bd : Nat) (v : Value) (r : OpenR) (e : Ending) (w' : World) : Prop :=
  ∃ v', DiskAt base w' bd r.D v' ∧ (v'.ownBlock = v.ownBlock ∨ ∃ g, v'.ownBlock = some g ∧ w.heap.size ≤ g) ∧ Keep (fun k => k = bd ∨ v.ownBlock = some k) w w' ∧
    (r.err ≠ 0 → e = .returned (.tuple #[.pointer none, .int .i64 r.err])) ∧
    (r.err = 0 → ∃ H, e = .returned (.tuple #[.pointer (some ⟨H.h, 0, none⟩), .int .i64 0]) ∧ H.d = bd ∧ H.v = v' ∧ HouseAt base w' H r.D r.st r.ls false ∧ (∀ k, H.V.fp k → w.heap.size ≤ k) ∧ w.heap.size ≤ H.h ∧ ∀ k, H.vl.ownBlock = some k → w.heap.size ≤ k)

theorem Rd.drop1 {w : World} {ao : Option Addr} {n c : Nat} {l : List UInt8} (h : Rd w 1 (.slice ao n c) l.length (bcells l)) (i : Nat) (hi : i ≤ l.length) :
    Rd w 1 (.slice (if c = i then ao else ao.map (fun x => x.add i)) (l.drop i).length (c - i)) (l.drop i).length (bcells (l.drop i)) := by
  have hlen : (l.drop i).length = l.length - i := List.length_drop
  refine ⟨by simp [bcells_length], bcells_one _, ?_⟩
  rcases h.2.2 with ⟨e, h0⟩ | ⟨b, o, c', e, h1, h2, hx⟩
  · injection e with e1 e2 e3
    subst e1 e3
    have : i = 0 := by omega
    subst this
    exact .inl ⟨by rw [if_pos rfl, hlen, h0], by rw [hlen, h0]⟩
  · injection e with e1 e2 e3
    subst e1 e3
    by_cases hci : c = i
    · rw [if_pos hci]
      have h0 : (l.drop i).length = 0 := by omega
      refine .inr ⟨b, o, c - i, rfl, by omega, by omega, fun j u hu => ?_⟩
      have : (bcells (l.drop i))[j]? = none := List.getElem?_eq_none (by rw [bcells_length]; omega)
      rw [this] at hu; cases hu
    · rw [if_neg hci]
      refine .inr ⟨b, o + i, c - i, ?_, by omega, by omega, fun j u hu => ?_⟩
      · simp [add_lit]
      · have : (bcells (l.drop i))[j]? = (bcells l)[i + j]? := by simp [bcells, List.map_drop]
        rw [this] at hu
        rw [Nat.add_assoc]
        exact hx _ u hu
theorem open_fin {base bd hb : Nat} {w W W' : World} {D D2 : Dsk} {v v' vl : Value} {V : StV} {S : St} {ls : List ByteArray} (hd : DiskAt base w bd D v) (hbase : base ≤ w.heap.size) (hblk : Blk W hb #[.pointer (some ⟨bd, 0, none⟩), .pointer (some ⟨V.b, 0, none⟩), vl, .bool false] 61)
    (hst : StAt W V S) (hsep : ∀ k, V.fp k → w.heap.size ≤ k ∧ k ≠ hb ∧ vl.ownBlock ≠ some k) (hown : W.ownsRow w.heap.size 9 1 vl ls.length (strCells ls)) (hbw : w.heap.size ≤ hb) (hkw : Keep (fun _ => False) w W)
    (hk : Keep (fun k => k = bd ∨ v.ownBlock = some k) W W') (hd2 : DiskAt base W' bd D2 v') (hf : v'.ownBlock = v.ownBlock ∨ ∃ g, v'.ownBlock = some g ∧ W.heap.size ≤ g) :
    OpenPost base w bd v ⟨0, D2, S, ls⟩ (.returned (.tuple #[.pointer (some ⟨hb, 0, none⟩), .int .i64 0])) W' := by
  have hbd := hd.blk.lt
  have hvl : ∀ k, v.ownBlock = some k → k < w.heap.size := fun k e => (ownsRow_lt hd.own k e).2
  have hsz := hkw.size
  refine ⟨v', hd2, hf.imp id (fun ⟨g, h1, h2⟩ => ⟨g, h1, by omega⟩), (hkw.mono (fun _ _ h => h.elim)).trans hk (fun _ _ h => h), fun h => absurd rfl h, fun _ => ⟨⟨hb, bd, v', V, vl⟩, rfl, rfl, rfl, ⟨?_, hd2, ?_, ?_, by show base ≤ hb; omega, ?_⟩, fun k h => (hsep k h).1, hbw, fun k h => (ownsRow_lt hown k h).1⟩⟩
  · exact hblk.keep hk (fun e => e.elim (fun e => by omega) (fun e => by have := hvl _ e; omega))
  · exact hst.keep hk (fun i hi e => e.elim (fun e => by have := (hsep i hi).1; omega) (fun e => by have := hvl _ e; have := (hsep i hi).1; omega))
  · exact ownsRow_base (ownsRow_keep hown hk (fun g hg e => by have h5 := (ownsRow_lt hown g hg).1; exact e.elim (fun e => by omega) (fun e => by have := hvl _ e; omega))) hbase
  · intro k hk'
    have h1 := hsep k hk'
    refine ⟨h1.2.1, fun e => by have e' : k = bd := e; omega, fun e => ?_, h1.2.2⟩
    have e' : v'.ownBlock = some k := e
    rcases hf with h2 | ⟨g, h2, h3⟩
    · have := hvl k (h2 ▸ e'); omega
    · have h4 : g = k := Option.some.inj (h2.symm.trans e')
      have := hst.lt k hk'; omega
theorem open_err {base bd : Nat} {w W W' : World} {D2 : Dsk} {v v' : Value} {S : St} {ls : List ByteArray} {er : Int} (he : er ≠ 0) (hkw : Keep (fun _ => False) w W)
    (hk : Keep (fun k => k = bd ∨ v.ownBlock = some k) W W') (hd2 : DiskAt base W' bd D2 v') (hf : v'.ownBlock = v.ownBlock ∨ ∃ g, v'.ownBlock = some g ∧ W.heap.size ≤ g) :
    OpenPost base w bd v ⟨er, D2, S, ls⟩ (.returned (.tuple #[.pointer none, .int .i64 er])) W' := by
  have hsz := hkw.size
  exact ⟨v', hd2, hf.imp id (fun ⟨g, h1, h2⟩ => ⟨g, h1, by omega⟩), (hkw.mono (fun _ _ h => h.elim)).trans hk (fun _ _ h => h), fun _ => rfl, fun h => absurd h he⟩
end Go.Proofs.YtkkjonkcjlnohaaGreatDoor

/- A house in memory: what each write into it leaves. -/
namespace Go.Proofs.YtkkjonkcjlnohaaGreatDoor
set_option linter.unusedSimpArgs false
set_option linter.unusedVariables false
set_option linter.unnecessarySimpa false
open Go.RowKit

/-- What a call on a house leaves. -/
structure HChg (w : World) (H H' : HV) (w' : World) : Prop where
  h : H'.h = H.h
  d : H'.d = H.d
  tp : ∀ k, H'.tp k → H.tp k ∨ w.heap.size ≤ k
  fp : ∀ k, H'.V.fp k → H.V.fp k ∨ w.heap.size ≤ k
  keep : Keep H.tp w w'
theorem HChg.refl (w : World) (H : HV) : HChg w H H w := ⟨rfl, rfl, fun _ h => .inl h, fun _ h => .inl h, Keep.refl _ _⟩
theorem HChg.trans {w w1 w2 : World} {H H1 H2 : HV} (a : HChg w H H1 w1) (b : HChg w1 H1 H2 w2) : HChg w H H2 w2 :=
  ⟨b.h.trans a.h, b.d.trans a.d, fun k hk => (b.tp k hk).elim (a.tp k) (fun e => .inr (Nat.le_trans a.keep.size e)), fun k hk => (b.fp k hk).elim (a.fp k) (fun e => .inr (Nat.le_trans a.keep.size e)),
   a.keep.trans b.keep (fun k hk e => (a.tp k e).elim id (fun e' => absurd hk (by omega)))⟩
theorem HChg.idle {w w' : World} (H : HV) (k : Keep (fun _ => False) w w') : HChg w H H w' := ⟨rfl, rfl, fun _ h => .inl h, fun _ h => .inl h, k.mono (fun _ _ h => h.elim)⟩

theorem HouseAt.fp_lt {base : Nat} {w : World} {H : HV} {D : Dsk} {S : St} {ls : List ByteArray} {lost : Bool} (h : HouseAt base w H D S ls lost) : ∀ k, H.V.fp k → k < w.heap.size := h.st.lt
theorem HouseAt.tp_lt {base : Nat} {w : World} {H : HV} {D : Dsk} {S : St} {ls : List ByteArray} {lost : Bool} (h : HouseAt base w H D S ls lost) : ∀ k, H.tp k → k < w.heap.size := fun k hk => by
  rcases hk with e | e | e | e
  · rw [e]; exact h.blk.lt
  · rw [e]; exact h.disk.blk.lt
  · exact (ownsRow_lt h.disk.own k e).2
  · exact (ownsRow_lt h.own k e).2
theorem HouseAt.hd {base : Nat} {w : World} {H : HV} {D : Dsk} {S : St} {ls : List ByteArray} {lost : Bool} (h : HouseAt base w H D S ls lost) : H.h ≠ H.d := h.blk.types h.disk.blk (by decide)
theorem HouseAt.vh {base : Nat} {w : World} {H : HV} {D : Dsk} {S : St} {ls : List ByteArray} {lost : Bool} (h : HouseAt base w H D S ls lost) : H.v.ownBlock ≠ some H.h := ownsRow_blk h.disk.own h.blk (by decide)
theorem HouseAt.lh {base : Nat} {w : World} {H : HV} {D : Dsk} {S : St} {ls : List ByteArray} {lost : Bool} (h : HouseAt base w H D S ls lost) : H.vl.ownBlock ≠ some H.h := ownsRow_blk h.own h.blk (by decide)
theorem HouseAt.ld {base : Nat} {w : World} {H : HV} {D : Dsk} {S : St} {ls : List ByteArray} {lost : Bool} (h : HouseAt base w H D S ls lost) : H.vl.ownBlock ≠ some H.d := ownsRow_blk h.own h.disk.blk (by decide)
theorem HouseAt.lv {base : Nat} {w : World} {H : HV} {D : Dsk} {S : St} {ls : List ByteArray} {lost : Bool} (h : HouseAt base w H D S ls lost) : ∀ k, H.vl.ownBlock = some k → H.v.ownBlock ≠ some k := ownsRow_types h.own h.disk.own (by decide)

theorem HouseAt.idle {base : Nat} {w w' : World} {H : HV} {D : Dsk} {S : St} {ls : List ByteArray} {lost : Bool} (h : HouseAt base w H D S ls lost) (k : Keep (fun _ => False) w w') : HouseAt base w' H D S ls lost :=
  h.keep k (fun _ _ h => h) (fun _ _ h => h)
theorem HouseAt.onDisk {base : Nat} {w w' : World} {H : HV} {D D' : Dsk} {S : St} {ls : List ByteArray} {lost : Bool} {v' : Value} (h : HouseAt base w H D S ls lost) (k : Keep (fun k => k = H.d ∨ H.v.ownBlock = some k) w w')
    (hd : DiskAt base w' H.d D' v') (hf : v'.ownBlock = H.v.ownBlock ∨ ∃ g, v'.ownBlock = some g ∧ w.heap.size ≤ g) :
    HouseAt base w' { H with v := v' } D' S ls lost ∧ HChg w H { H with v := v' } w' := by
  refine ⟨⟨h.blk.keep k (fun e => e.elim h.hd h.vh), hd, h.st.keep k (fun i hi e => e.elim (h.sep i hi).2.1 (h.sep i hi).2.2.1), ownsRow_keep h.own k (fun g hg e => e.elim (fun e => h.ld (e ▸ hg)) (h.lv g hg)), h.ge, fun i hi => ⟨(h.sep i hi).1, (h.sep i hi).2.1, fun e => ?_, (h.sep i hi).2.2.2⟩⟩, rfl, rfl, fun i hi => ?_, fun _ h => .inl h, k.mono (fun i _ e => e.elim (fun e => .inr (.inl e)) (fun e => .inr (.inr (.inl e))))⟩
  · have e' : v'.ownBlock = some i := e
    rcases hf with h1 | ⟨g, h1, h2⟩
    · exact (h.sep i hi).2.2.1 (h1 ▸ e')
    · have h3 : g = i := Option.some.inj (h1.symm.trans e')
      have := h.fp_lt i hi; omega
  · rcases hi with e | e | e | e
    · exact .inl (.inl e)
    · exact .inl (.inr (.inl e))
    · have e' : v'.ownBlock = some i := e
      rcases hf with h1 | ⟨g, h1, h2⟩
      · exact .inl (.inr (.inr (.inl (h1 ▸ e'))))
      · have h3 : g = i := Option.some.inj (h1.symm.trans e')
        exact .inr (by omega)
    · exact .inl (.inr (.inr (.inr e)))
theorem HouseAt.setH {base : Nat} {w : World} {H : HV} {D : Dsk} {S : St} {ls : List ByteArray} {lost : Bool} (h : HouseAt base w H D S ls lost) (o : Nat) (u : Value) :
    DiskAt base (w.setCell ⟨H.h, o, none⟩ u) H.d D H.v ∧ StAt (w.setCell ⟨H.h, o, none⟩ u) H.V S ∧ (w.setCell ⟨H.h, o, none⟩ u).ownsRow base 9 1 H.vl ls.length (strCells ls) ∧ Keep (fun k => k = H.h) w (w.setCell ⟨H.h, o, none⟩ u) := by
  have hk : Keep (fun k => k = H.h) w (w.setCell ⟨H.h, o, none⟩ u) := (Keep.refl _ _).setCell _ _ (fun _ => rfl)
  exact ⟨h.disk.keep hk (fun e => h.hd e.symm) (fun g hg e => h.vh (e ▸ hg)), h.st.keep hk (fun i hi e => (h.sep i hi).1 e), ownsRow_keep h.own hk (fun g hg e => h.lh (e ▸ hg)), hk⟩
theorem HouseAt.setLost {base : Nat} {w : World} {H : HV} {D : Dsk} {S : St} {ls : List ByteArray} {lost : Bool} (h : HouseAt base w H D S ls lost) (b : Bool) :
    HouseAt base (w.setCell ⟨H.h, 3, none⟩ (.bool b)) H D S ls b ∧ HChg w H H (w.setCell ⟨H.h, 3, none⟩ (.bool b)) := by
  obtain ⟨h1, h2, h3, hk⟩ := h.setH 3 (.bool b)
  exact ⟨⟨by simpa using h.blk.set 3 (.bool b), h1, h2, h3, h.ge, h.sep⟩, rfl, rfl, fun _ h => .inl h, fun _ h => .inl h, hk.mono (fun _ _ e => .inl e)⟩
theorem HouseAt.setState {base : Nat} {w : World} {H : HV} {D : Dsk} {S S' : St} {ls : List ByteArray} {lost : Bool} {V' : StV} (h : HouseAt base w H D S ls lost) (hs : StAt w V' S')
    (hf : ∀ k, V'.fp k → k ≠ H.h ∧ k ≠ H.d ∧ H.v.ownBlock ≠ some k ∧ H.vl.ownBlock ≠ some k) :
    HouseAt base (w.setCell ⟨H.h, 1, none⟩ (.pointer (some ⟨V'.b, 0, none⟩))) { H with V := V' } D S' ls lost := by
  obtain ⟨h1, h2, h3, hk⟩ := h.setH 1 (.pointer (some ⟨V'.b, 0, none⟩))
  exact ⟨by simpa using h.blk.set 1 (.pointer (some ⟨V'.b, 0, none⟩)), h1, hs.keep hk (fun i hi e => (hf i hi).1 e), h3, h.ge, hf⟩
theorem HouseAt.setLines {base : Nat} {w w1 : World} {H : HV} {D : Dsk} {S : St} {ls : List ByteArray} {lost : Bool} {vl' : Value} {ls' : List ByteArray} (h : HouseAt base w H D S ls lost)
    (k : Keep (fun k => H.vl.ownBlock = some k) w w1) (ho : w1.ownsRow base 9 1 vl' ls'.length (strCells ls')) (hf : vl'.ownBlock = H.vl.ownBlock ∨ ∃ g, vl'.ownBlock = some g ∧ w.heap.size ≤ g) :
    HouseAt base (w1.setCell ⟨H.h, 2, none⟩ vl') { H with vl := vl' } D S ls' lost ∧ HChg w H { H with vl := vl' } (w1.setCell ⟨H.h, 2, none⟩ vl') := by
  have hk : Keep (fun k => k = H.h) w1 (w1.setCell ⟨H.h, 2, none⟩ vl') := (Keep.refl _ _).setCell _ _ (fun _ => rfl)
  have hb1 := h.blk.keep k h.lh
  have hn : ∀ i, vl'.ownBlock = some i → (H.V.fp i → False) := fun i e hi => by
    rcases hf with h1 | ⟨g, h1, h2⟩
    · exact (h.sep i hi).2.2.2 (h1 ▸ e)
    · have h3 : g = i := Option.some.inj (h1.symm.trans e)
      have := h.fp_lt i hi; omega
  refine ⟨⟨by simpa using hb1.set 2 vl', (h.disk.keep k h.ld (fun g hg e => h.lv g e hg)).keep hk (fun e => h.hd e.symm) (fun g hg e => h.vh (e ▸ hg)), (h.st.keep k (fun i hi e => (h.sep i hi).2.2.2 e)).keep hk (fun i hi e => (h.sep i hi).1 e),
    ownsRow_keep ho hk (fun g hg e => ownsRow_blk ho hb1 (by decide) (e ▸ hg)), h.ge, fun i hi => ⟨(h.sep i hi).1, (h.sep i hi).2.1, (h.sep i hi).2.2.1, fun e => hn i e hi⟩⟩, rfl, rfl, fun i hi => ?_, fun _ h => .inl h,
    (k.mono (fun i _ e => .inr (.inr (.inr e)))).trans hk (fun i _ e => .inl e)⟩
  rcases hi with e | e | e | e
  · exact .inl (.inl e)
  · exact .inl (.inr (.inl e))
  · exact .inl (.inr (.inr (.inl e)))
  · have e' : vl'.ownBlock = some i := e
    rcases hf with h1 | ⟨g, h1, h2⟩
    · exact .inl (.inr (.inr (.inr (h1 ▸ e'))))
    · have h3 : g = i := Option.some.inj (h1.symm.trans e')
      exact .inr (by omega)

theorem hdo_fin {base : Nat} {w w3 wc w5 w6 : World} {H H5 H6 : HV} {D D2 : Dsk} {S rs : St} {ls : List ByteArray} {lost : Bool} {V' : StV} (h : HouseAt base w H D S ls lost) (hk3 : Keep (fun _ => False) w w3) (hkc : Keep (fun _ => False) w3 wc) (hst : StAt w3 V' rs)
    (hfp : ∀ k, V'.fp k → H.V.fp k ∨ w.heap.size ≤ k) (hc5 : HChg wc H H5 w5) (hc6 : HChg w5 H5 H6 w6) (h6 : HouseAt base w6 H6 D2 S ls lost) :
    HouseAt base (w6.setCell ⟨H6.h, 1, none⟩ (.pointer (some ⟨V'.b, 0, none⟩))) { H6 with V := V' } D2 rs ls lost ∧ HChg w H { H6 with V := V' } (w6.setCell ⟨H6.h, 1, none⟩ (.pointer (some ⟨V'.b, 0, none⟩))) := by
  have hc56 := hc5.trans hc6
  have hz3 := hk3.size
  have hzc := hkc.size
  have hap : ∀ k, V'.fp k → ¬ H.tp k := fun k hk e => by
    rcases hfp k hk with e' | e'
    · have := h.sep k e'
      rcases e with e | e | e | e
      · exact this.1 e
      · exact this.2.1 e
      · exact this.2.2.1 e
      · exact this.2.2.2 e
    · have := h.tp_lt k e; omega
  have hlt : ∀ k, V'.fp k → k < wc.heap.size := fun k hk => by have := hst.lt k hk; omega
  have hap6 : ∀ k, V'.fp k → ¬ H6.tp k := fun k hk e => by
    rcases hc56.tp k e with e' | e'
    · exact hap k hk e'
    · have := hlt k hk; omega
  have hst6 : StAt w6 V' rs := (hst.keep hkc (fun _ _ h => h)).keep hc56.keep hap
  refine ⟨h6.setState hst6 (fun k hk => ⟨fun e => hap6 k hk (.inl e), fun e => hap6 k hk (.inr (.inl e)), fun e => hap6 k hk (.inr (.inr (.inl e))), fun e => hap6 k hk (.inr (.inr (.inr e)))⟩), hc56.h, hc56.d, fun k hk => ?_, fun k hk => hfp k hk, ?_⟩
  · rcases hc56.tp k hk with e | e
    · exact .inl e
    · exact .inr (by omega)
  · have hkw : Keep H.tp w w6 := ((hk3.trans hkc (fun _ _ h => h)).mono (fun _ _ h => h.elim)).trans hc56.keep (fun _ _ h => h)
    refine hkw.setCell _ _ (fun hl => ?_)
    rw [hc56.h]
    exact .inl rfl
structure HRes where
  err : Int
  out : ByteArray
  D : Dsk
  st : St
  ls : List ByteArray
  lost : Bool
/-- What Do of a house does. -/
def hdoF (F : Nat → St → FA → Res) (D : Dsk) (S : St) (ls : List ByteArray) (lost : Bool) (s : ByteArray) : HRes :=
  if lost then ⟨7, bs [], D, S, ls, true⟩
  else if (doF F S s).err = 0 then
    if (appendF D (s.data.toList ++ [10])).1 = 0 then
      if (syncF (appendF D (s.data.toList ++ [10])).2).1 = 0 then ⟨0, (doF F S s).out, (syncF (appendF D (s.data.toList ++ [10])).2).2, (doF F S s).st, ls ++ [s], false⟩
      else ⟨(syncF (appendF D (s.data.toList ++ [10])).2).1, bs [], (syncF (appendF D (s.data.toList ++ [10])).2).2, S, ls, true⟩
    else ⟨(appendF D (s.data.toList ++ [10])).1, bs [], (appendF D (s.data.toList ++ [10])).2, S, ls, (appendF D (s.data.toList ++ [10])).1 == 10⟩
  else ⟨(doF F S s).err, bs [], D, S, ls, false⟩
def HDoPost (base : Nat) (w : World) (H : HV) (r : HRes) (e : Ending) (w' : World) : Prop :=
  ∃ H', e = .returned (.tuple #[.string r.out, .int .i64 r.err]) ∧ HouseAt base w' H' r.D r.st r.ls r.lost ∧ HChg w H H' w'
theorem doF_size {F : Nat → St → FA → Res} {S : St} {s : ByteArray} (h : (doF F S s).err = 0) : s.size ≤ 200 := by
  unfold doF formF at h
  by_cases hl : isLineB s = true
  · unfold isLineB at hl; simp at hl; exact hl.1
  · simp [hl] at h
end Go.Proofs.YtkkjonkcjlnohaaGreatDoor

/- house.House.Do. -/
namespace Go.Proofs.YtkkjonkcjlnohaaGreatDoor
set_option linter.unusedSimpArgs false
set_option linter.unusedVariables false
set_option linter.unnecessarySimpa false
open Go.RowKit

theorem hnone_any {base : Nat} {w : World} {H : HV} {D : Dsk} {S : St} {ls : List ByteArray} {lost : Bool} (h : HouseAt base w H D S ls lost) :
    Calls Tryz.prog 21 #[.pointer (some ⟨H.h, 0, none⟩)] w fun e w' => e = .returned (.bool false) ∧ w = w' := by
  have c1 := h.blk.cell 1
  simp at c1
  clear h
  go_enter Tryz.func21, Tryz.ntmps21
  go_wp2
  go_ret
  exact ⟨rfl, rfl⟩

set_option maxHeartbeats 1500000 in
set_option maxRecDepth 100000 in
theorem hdo_any {base : Nat} {w : World} {H : HV} {D : Dsk} {S : St} {ls : List ByteArray} {lost : Bool} {s : ByteArray} {F : Nat → St → FA → Res} (hG : Glob w) (hb : base ≤ w.heap.size) (h : HouseAt base w H D S ls lost) (hs : S.small) (hls : ls.length ≤ 1000000000)
    (hsz : s.size ≤ 9223372036854775807) (hrun : RunOK F S s) : Calls Tryz.prog 6 #[.pointer (some ⟨H.h, 0, none⟩), .string s] w (HDoPost base w H (hdoF F D S ls lost s)) := by
  obtain ⟨hb', hd, v, V, vl⟩ := H
  obtain ⟨lo, lc, hvl, _⟩ := ownsRow_shape h.own
  simp only at hvl
  subst hvl
  have c0 := h.blk.cell 0
  have c1 := h.blk.cell 1
  have c2 := h.blk.cell 2
  have c3 := h.blk.cell 3
  simp at c0 c1 c2 c3
  have H := Lib.hid h; clear h
  have HG := Lib.hid hG; clear hG
  have HS := Lib.hid hs; clear hs
  have HRUN := Lib.hid hrun; clear hrun
  cases lost with
  | true =>
    have HF := Lib.hid (show hdoF F D S ls true s = ⟨7, bs [], D, S, ls, true⟩ by unfold hdoF; rw [if_pos rfl])
    go_enter Tryz.func6, Tryz.ntmps6
    go_wp2_with (first
      | (go_at_call 21; refine (hnone_any H.out).mono ?_; rintro e w' ⟨rfl, rfl⟩))
    go_ret2
    rw [HF.out]
    exact ⟨_, rfl, H.out, HChg.refl _ _⟩
  | false =>
    obtain ⟨R, hR⟩ : ∃ R, doF F S s = R := ⟨_, rfl⟩
    have hF0 : hdoF F D S ls false s = if R.err = 0 then
      if (appendF D (s.data.toList ++ [10])).1 = 0 then
        if (syncF (appendF D (s.data.toList ++ [10])).2).1 = 0 then ⟨0, R.out, (syncF (appendF D (s.data.toList ++ [10])).2).2, R.st, ls ++ [s], false⟩
        else ⟨(syncF (appendF D (s.data.toList ++ [10])).2).1, bs [], (syncF (appendF D (s.data.toList ++ [10])).2).2, S, ls, true⟩
      else ⟨(appendF D (s.data.toList ++ [10])).1, bs [], (appendF D (s.data.toList ++ [10])).2, S, ls, (appendF D (s.data.toList ++ [10])).1 == 10⟩
      else ⟨R.err, bs [], D, S, ls, false⟩ := by unfold hdoF; rw [if_neg (by simp), hR]
    have hsz2 : R.err = 0 → s.size ≤ 200 := fun e => doF_size (F := F) (S := S) (by rw [hR]; exact e)
    have HRR := Lib.hid hR; clear hR
    obtain ⟨re, rs, ro⟩ := R
    by_cases hz : re = 0
    · subst hz
      have hs200 : s.size ≤ 200 := hsz2 rfl
      clear hsz2
      rw [if_pos rfl] at hF0
      have hsum : (9223372036854775807 < s.size + 1) = False := eq_false (by omega)
      have hcv := fun W => Lib.run_convert_string_bytes (P := Tryz.prog) W 9 65 5 (s ++ ⟨#[10]⟩) Tryz.underlying9 Tryz.underlying65 Tryz.underlying5
      have hts : (s ++ (⟨#[10]⟩ : ByteArray)).size = s.size + 1 := by rw [ByteArray.size_append]; rfl
      have HCC : Hid (∀ w3, Rd (Lib.bytesWorld w3 5 (s ++ ⟨#[10]⟩)) 1 (.slice (some ⟨w3.heap.size, 0, none⟩) (s.size + 1) (grownCap w3 (s.size + 1) 0 5)) (s.data.toList ++ [10]).length (bcells (s.data.toList ++ [10]))) := Lib.hid fun w3 => by
        have := convCell w3 (s ++ ⟨#[10]⟩) (by rw [hts]; omega)
        rw [hts, show (s ++ (⟨#[10]⟩ : ByteArray)).data.toList = s.data.toList ++ [10] by simp] at this
        exact this
      have HKC : Hid (∀ w3, Keep (fun _ => False) w3 (Lib.bytesWorld w3 5 (s ++ (⟨#[10]⟩ : ByteArray)))) := Lib.hid fun w3 => convKeep w3 5 _
      clear hts
      obtain ⟨A, hA⟩ : ∃ A, appendF D (s.data.toList ++ [10]) = A := ⟨_, rfl⟩
      rw [hA] at hF0
      have HAP := Lib.hid hA; clear hA
      obtain ⟨ae, D1⟩ := A
      by_cases ha : ae = 0
      · subst ha
        rw [if_pos rfl] at hF0
        dsimp only at hF0
        obtain ⟨Y, hY⟩ : ∃ Y, syncF D1 = Y := ⟨_, rfl⟩
        rw [hY] at hF0
        have HY := Lib.hid hY; clear hY
        obtain ⟨ye, D2⟩ := Y
        by_cases hy : ye = 0
        · subst hy
          rw [if_pos rfl] at hF0
          have HF := Lib.hid hF0; clear hF0
          go_enter Tryz.func6, Tryz.ntmps6
          go_wp2_with (first
            | (go_at_call 21; refine (hnone_any H.out).mono ?_; rintro e w' ⟨rfl, rfl⟩)
            | (go_at_call 22; have hh := do_any (F := F) HG.out H.out.st HS.out (by omega) HRUN.out; rw [HRR.out] at hh; refine Calls.mono hh ?_; clear hh; rintro e w3 ⟨V', rfl, hst3, hvb3, hVV, hfp3, hk3⟩; have c0 := (H.out.blk.keep hk3 (fun h => h)).cell 0; have c1 := (H.out.blk.keep hk3 (fun h => h)).cell 1; have c2 := (H.out.blk.keep hk3 (fun h => h)).cell 2; simp at c0 c1 c2; have HST3 := Lib.hid hst3; have HFP := Lib.hid hfp3; have HK3 := Lib.hid hk3; clear hst3 hvb3 hVV hfp3 hk3)
            | (go_at_call 23; have hX := (H.out.idle HK3.out).idle (HKC.out w3); have hh := append_any hX.disk (HCC.out w3) (fun e => by have e2 : w3.heap.size = hd := Option.some.inj e; have := H.out.disk.blk.lt; have := HK3.out.size; simp only at *; omega) (by have h5 := (HKC.out w3).size; have := HK3.out.size; omega); unfold AppendPost at hh; rw [HAP.out] at hh; dsimp only at hh; refine Calls.mono hh ?_; clear hh; rintro e w5 ⟨rfl, ⟨v1, hd1, hf1⟩, hk5⟩; obtain ⟨h5, hc5⟩ := hX.onDisk hk5 hd1 hf1; have c0 := h5.blk.cell 0; have c1 := h5.blk.cell 1; have c2 := h5.blk.cell 2; have c3 := h5.blk.cell 3; have f1 := h5.blk.free 1; have f2 := h5.blk.free 2; have f3 := h5.blk.free 3; simp at c0 c1 c2 c3; have H5 := Lib.hid h5; have HC5 := Lib.hid hc5; clear hX hd1 hf1 hk5 h5 hc5)
            | (go_at_call 24; have hh := sync_any H5.out.disk; rw [HY.out] at hh; dsimp only at hh; refine Calls.mono hh ?_; clear hh; rintro e w6 ⟨rfl, ⟨v2, hd2, hf2⟩, hk6⟩; obtain ⟨h6, hc6⟩ := H5.out.onDisk hk6 hd2 hf2; have c0 := h6.blk.cell 0; have c1 := h6.blk.cell 1; have c2 := h6.blk.cell 2; have c3 := h6.blk.cell 3; have f1 := h6.blk.free 1; have f2 := h6.blk.free 2; have f3 := h6.blk.free 3; simp at c0 c1 c2 c3; have H6 := Lib.hid h6; have HC6 := Lib.hid hc6; clear hd2 hf2 hk6 h6 hc6; obtain ⟨h7, hc7⟩ := hdo_fin H.out HK3.out (HKC.out w3) HST3.out HFP.out HC5.out HC6.out H6.out; have ho8 := ownsRow_keep h7.own ((Keep.refl (fun _ => False) _).alloc (.cells #[.string s] 9)) (fun _ _ h => h); have hs8 := Rd.new (w6.setCell ⟨hb', 1, none⟩ (.pointer (some ⟨V'.b, 0, none⟩))) 1 1 [.string s] 9 rfl (by simp [Value.oneCell']) (by unfold maxLen; omega); rw [World.size_setCell] at hs8; have HS8 := Lib.hid (hs8.src (P := Tryz.prog) Tryz.underlying24); have HO8 := Lib.hid ho8; have H7 := Lib.hid h7; have HC7 := Lib.hid hc7; clear h7 hc7 ho8 hs8)
            | (at_builtin; refine wpList_app (w := (w6.setCell ⟨hb', 1, none⟩ (.pointer (some ⟨V'.b, 0, none⟩))).alloc (.cells #[.string s] 9)) rfl (.tmp 67) (.tmp 69) 24 24 rfl 9 (.string ⟨#[]⟩) 1 16 Tryz.underlying24 info9 rfl HO8.out rfl HS8.out rfl ?hb1 ?hb2 ?hb3 ?hgo))
          case hb1 => unfold maxLen; omega
          case hb2 => omega
          case hb3 => exact Nat.le_trans hb (Nat.le_trans HC7.out.keep.size (by simp))
          case hgo =>
          intro v' w9 happ
          obtain ⟨ao9, cap9, rfl, _⟩ := ownsRow_shape happ.own
          have h8 := H7.out.idle ((Keep.refl (fun _ => False) _).alloc (.cells #[.string s] 9))
          obtain ⟨h9, hc9⟩ := h8.setLines (vl' := .slice ao9 (ls.length + 1) cap9) (ls' := ls ++ [s]) happ.keep (by have := happ.own; simpa [strCells] using this) happ.fresh
          have hb9 := h8.blk.keep happ.keep h8.lh
          have c2 := hb9.cell 2
          have f2 := hb9.free 2
          simp at c2
          have H9 := Lib.hid h9
          have HC9 := Lib.hid hc9
          clear h8 h9 hc9 hb9 happ
          go_wp2
          go_ret2
          rw [HF.out]
          exact ⟨_, rfl, H9.out, (HC7.out.trans (HChg.idle _ ((Keep.refl (fun _ => False) _).alloc (.cells #[.string s] 9)))).trans HC9.out⟩
        · rw [if_neg hy] at hF0
          have HF := Lib.hid hF0; clear hF0
          have hy2 : (ye != 0) = true := by simpa using hy
          go_enter Tryz.func6, Tryz.ntmps6
          go_wp2_with (first
            | (go_at_call 21; refine (hnone_any H.out).mono ?_; rintro e w' ⟨rfl, rfl⟩)
            | (go_at_call 22; have hh := do_any (F := F) HG.out H.out.st HS.out (by omega) HRUN.out; rw [HRR.out] at hh; refine Calls.mono hh ?_; clear hh; rintro e w3 ⟨V', rfl, hst3, hvb3, hVV, hfp3, hk3⟩; have c0 := (H.out.blk.keep hk3 (fun h => h)).cell 0; have c1 := (H.out.blk.keep hk3 (fun h => h)).cell 1; have c2 := (H.out.blk.keep hk3 (fun h => h)).cell 2; simp at c0 c1 c2; have HST3 := Lib.hid hst3; have HFP := Lib.hid hfp3; have HK3 := Lib.hid hk3; clear hst3 hvb3 hVV hfp3 hk3)
            | (go_at_call 23; have hX := (H.out.idle HK3.out).idle (HKC.out w3); have hh := append_any hX.disk (HCC.out w3) (fun e => by have e2 : w3.heap.size = hd := Option.some.inj e; have := H.out.disk.blk.lt; have := HK3.out.size; simp only at *; omega) (by have h5 := (HKC.out w3).size; have := HK3.out.size; omega); unfold AppendPost at hh; rw [HAP.out] at hh; dsimp only at hh; refine Calls.mono hh ?_; clear hh; rintro e w5 ⟨rfl, ⟨v1, hd1, hf1⟩, hk5⟩; obtain ⟨h5, hc5⟩ := hX.onDisk hk5 hd1 hf1; have c0 := h5.blk.cell 0; have c1 := h5.blk.cell 1; have c2 := h5.blk.cell 2; have c3 := h5.blk.cell 3; have f1 := h5.blk.free 1; have f2 := h5.blk.free 2; have f3 := h5.blk.free 3; simp at c0 c1 c2 c3; have H5 := Lib.hid h5; have HC5 := Lib.hid hc5; clear hX hd1 hf1 hk5 h5 hc5)
            | (go_at_call 24; have hh := sync_any H5.out.disk; rw [HY.out] at hh; dsimp only at hh; refine Calls.mono hh ?_; clear hh; rintro e w6 ⟨rfl, ⟨v2, hd2, hf2⟩, hk6⟩; obtain ⟨h6, hc6⟩ := H5.out.onDisk hk6 hd2 hf2; have c0 := h6.blk.cell 0; have c1 := h6.blk.cell 1; have c2 := h6.blk.cell 2; have c3 := h6.blk.cell 3; have f1 := h6.blk.free 1; have f2 := h6.blk.free 2; have f3 := h6.blk.free 3; simp at c0 c1 c2 c3; have H6 := Lib.hid h6; have HC6 := Lib.hid hc6; clear hd2 hf2 hk6 h6 hc6))
          go_ret2
          rw [HF.out]
          exact ⟨_, rfl, (H6.out.setLost true).1, ((HChg.idle _ (HK3.out.trans (HKC.out w3) (fun _ _ h => h)) |>.trans HC5.out).trans HC6.out).trans (H6.out.setLost true).2⟩
      · rw [if_neg ha] at hF0
        have HF := Lib.hid hF0; clear hF0
        have ha2 : (ae != 0) = true := by simpa using ha
        go_enter Tryz.func6, Tryz.ntmps6
        go_wp2_with (first
          | (go_at_call 21; refine (hnone_any H.out).mono ?_; rintro e w' ⟨rfl, rfl⟩)
          | (go_at_call 22; have hh := do_any (F := F) HG.out H.out.st HS.out (by omega) HRUN.out; rw [HRR.out] at hh; refine Calls.mono hh ?_; clear hh; rintro e w3 ⟨V', rfl, hst3, hvb3, hVV, hfp3, hk3⟩; have c0 := (H.out.blk.keep hk3 (fun h => h)).cell 0; have c1 := (H.out.blk.keep hk3 (fun h => h)).cell 1; have c2 := (H.out.blk.keep hk3 (fun h => h)).cell 2; simp at c0 c1 c2; have HST3 := Lib.hid hst3; have HFP := Lib.hid hfp3; have HK3 := Lib.hid hk3; clear hst3 hvb3 hVV hfp3 hk3)
          | (go_at_call 23; have hX := (H.out.idle HK3.out).idle (HKC.out w3); have hh := append_any hX.disk (HCC.out w3) (fun e => by have e2 : w3.heap.size = hd := Option.some.inj e; have := H.out.disk.blk.lt; have := HK3.out.size; simp only at *; omega) (by have h5 := (HKC.out w3).size; have := HK3.out.size; omega); unfold AppendPost at hh; rw [HAP.out] at hh; dsimp only at hh; refine Calls.mono hh ?_; clear hh; rintro e w5 ⟨rfl, ⟨v1, hd1, hf1⟩, hk5⟩; obtain ⟨h5, hc5⟩ := hX.onDisk hk5 hd1 hf1; have c0 := h5.blk.cell 0; have c1 := h5.blk.cell 1; have c2 := h5.blk.cell 2; have c3 := h5.blk.cell 3; have f1 := h5.blk.free 1; have f2 := h5.blk.free 2; have f3 := h5.blk.free 3; simp at c0 c1 c2 c3; have H5 := Lib.hid h5; have HC5 := Lib.hid hc5; clear hX hd1 hf1 hk5 h5 hc5))
        go_ret2
        rw [HF.out]
        exact ⟨_, rfl, (H5.out.setLost (ae == 10)).1, (HChg.idle _ (HK3.out.trans (HKC.out w3) (fun _ _ h => h)) |>.trans HC5.out).trans (H5.out.setLost (ae == 10)).2⟩
    · rw [if_neg hz] at hF0
      have HF := Lib.hid hF0; clear hF0 hsz2
      have hz2 : (re != 0) = true := by simpa using hz
      go_enter Tryz.func6, Tryz.ntmps6
      go_wp2_with (first
        | (go_at_call 21; refine (hnone_any H.out).mono ?_; rintro e w' ⟨rfl, rfl⟩)
        | (go_at_call 22; have hh := do_any (F := F) HG.out H.out.st HS.out (by omega) HRUN.out; rw [HRR.out] at hh; refine Calls.mono hh ?_; clear hh; rintro e w3 ⟨V', rfl, hst3, hvb3, hVV, hfp3, hk3⟩; have c0 := (H.out.blk.keep hk3 (fun h => h)).cell 0; have c1 := (H.out.blk.keep hk3 (fun h => h)).cell 1; have c2 := (H.out.blk.keep hk3 (fun h => h)).cell 2; simp at c0 c1 c2; have HST3 := Lib.hid hst3; have HFP := Lib.hid hfp3; have HK3 := Lib.hid hk3; clear hst3 hvb3 hVV hfp3 hk3))
      go_ret2
      rw [HF.out]
      exact ⟨_, rfl, H.out.idle HK3.out, HChg.idle _ HK3.out⟩
end Go.Proofs.YtkkjonkcjlnohaaGreatDoor

/- house.Open. -/
namespace Go.Proofs.YtkkjonkcjlnohaaGreatDoor
set_option linter.unusedSimpArgs false
set_option linter.unusedVariables false
set_option linter.unnecessarySimpa false
open Go.RowKit

/-- What holds at the head of Open's loop. -/
def OpenRel (F : Nat → St → FA → Res) (I : Nat → St → Prop) (w : World) (D : Dsk) (g : List Int) (bd hb : Nat) (bv : Value) (i : Value) (wr : World) : Prop :=
  ∃ (rest : List UInt8) (S : St) (ls : List ByteArray) (at_ fuel : Nat) (V : StV) (lo : Option Addr) (lc : Nat),
    i = .int .i64 at_ ∧ at_ ≤ D.bytes.length ∧ rest = D.bytes.drop at_ ∧ rest.length < fuel ∧ openLoop F fuel rest S ls at_ = openLoop F (D.bytes.length + 1) D.bytes (S0 g) [] 0 ∧ I ls.length S ∧ ls.length ≤ at_ ∧
    Blk wr hb #[.pointer (some ⟨bd, 0, none⟩), .pointer (some ⟨V.b, 0, none⟩), .slice lo ls.length lc, .bool false] 61 ∧ StAt wr V S ∧
    (∀ k, V.fp k → w.heap.size ≤ k ∧ k ≠ hb ∧ (Value.slice lo ls.length lc).ownBlock ≠ some k) ∧
    wr.ownsRow w.heap.size 9 1 (.slice lo ls.length lc) ls.length (strCells ls) ∧ wr.ownsRow w.heap.size 5 1 bv D.bytes.length (bcells D.bytes) ∧ Keep (fun _ => False) w wr

set_option maxHeartbeats 6000000 in
set_option maxRecDepth 100000 in
theorem open_any {base bd : Nat} {w : World} {D : Dsk} {v gv : Value} {g : List Int} {F : Nat → St → FA → Res} {I : Nat → St → Prop} (hG : Glob w) (hd : DiskAt base w bd D v) (hg : Rd w 1 gv g.length (icells g)) (hgl : g.length ≤ 1000000)
    (hglt : ∀ k, gv.ownBlock = some k → k < w.heap.size) (hb : base ≤ w.heap.size) (hI : baysB g = true → I 0 (S0 g)) (hsys : Sys F I D.bytes.length D.bytes.length) :
    Calls Tryz.prog 19 #[.pointer (some ⟨bd, 0, none⟩), gv] w (OpenPost base w bd v (openF F D g)) := by
  obtain ⟨go, gc, hve, _⟩ := hg.shape
  subst hve
  have hbays := bays_any hg (by omega) hG.tab (by have := hG.size; omega)
  have HD := Lib.hid hd; clear hd
  have HG := Lib.hid hG; clear hG
  have HGV := Lib.hid hg; clear hg
  have HGL := Lib.hid hglt; clear hglt
  cases hbay : baysB g with
  | false =>
    have HF := Lib.hid (show openF F D g = ⟨2, D, S0 g, []⟩ by unfold openF; rw [hbay]; rfl)
    rw [hbay] at hbays
    have HB := Lib.hid hbays; clear hbays hbay
    go_enter Tryz.func19, Tryz.ntmps19
    go_wp2_with (first
      | (go_at_call 34; refine (none_any HD.out).mono ?_; rintro e w' ⟨rfl, rfl⟩)
      | (go_at_call 35; refine HB.out.mono ?_; rintro e w1 ⟨rfl, hk1⟩; have HK1 := Lib.hid hk1; clear hk1))
    go_ret2
    refine ⟨v, ?_, .inl rfl, HK1.out.mono (fun _ _ h => h.elim), fun _ => by rw [HF.out]; rfl, fun e => by rw [HF.out] at e; cases e⟩
    rw [HF.out]
    exact HD.out.keep HK1.out (fun h => h) (fun _ _ h => h)
  | true =>
    replace hI := hI hbay
    rw [hbay] at hbays
    have HB := Lib.hid hbays; clear hbays
    cases hoff : D.off with
    | true =>
      have HF := Lib.hid (show openF F D g = ⟨10, D, S0 g, []⟩ by unfold openF; rw [hbay, hoff]; rfl)
      have HOFF := Lib.hid hoff; clear hoff hbay
      go_enter Tryz.func19, Tryz.ntmps19
      go_wp2_with (first
        | (go_at_call 34; refine (none_any HD.out).mono ?_; rintro e w' ⟨rfl, rfl⟩)
        | (go_at_call 35; refine HB.out.mono ?_; rintro e w1 ⟨rfl, hk1⟩; have HK1 := Lib.hid hk1; clear hk1)
        | (go_at_call 36; have hh := read_any (HD.out.keep HK1.out (fun h => h) (fun _ _ h => h)); refine Calls.mono hh ?_; clear hh; rintro e w2 ⟨v', rfl, ho2, hk2⟩; rw [HOFF.out]; simp only [if_true]; have HK2 := Lib.hid hk2; clear hk2))
      go_ret2
      refine ⟨v, ?_, .inl rfl, (HK1.out.trans HK2.out (fun _ _ h => h)).mono (fun _ _ h => h.elim), fun _ => by rw [HF.out]; rfl, fun e => by rw [HF.out] at e; cases e⟩
      rw [HF.out]
      exact HD.out.keep (HK1.out.trans HK2.out (fun _ _ h => h)) (fun h => h) (fun _ _ h => h)
    | false =>
      have HF := Lib.hid (show openF F D g = openEnd D (openLoop F (D.bytes.length + 1) D.bytes (S0 g) [] 0) by unfold openF; rw [hbay, hoff]; rfl)
      have HOFF := Lib.hid hoff; clear hoff hbay
      go_enter Tryz.func19, Tryz.ntmps19
      go_wp2_with (first
        | (go_at_call 34; refine (none_any HD.out).mono ?_; rintro e w' ⟨rfl, rfl⟩)
        | (go_at_call 35; refine HB.out.mono ?_; rintro e w1 ⟨rfl, hk1⟩; have HK1 := Lib.hid hk1; clear hk1)
        | (go_at_call 36; have hh := read_any (HD.out.keep HK1.out (fun h => h) (fun _ _ h => h)); refine Calls.mono hh ?_; clear hh; rintro e w2 ⟨v', rfl, ho2, hk2⟩; rw [HOFF.out] at ho2; rw [HOFF.out]; simp only [Bool.false_eq_true, if_false] at ho2; simp only [Bool.false_eq_true, if_false]; obtain ⟨bo, bc, rfl, hbc⟩ := ownsRow_shape ho2; have HO2 := Lib.hid ho2; clear ho2; have HK2 := Lib.hid hk2; clear hk2)
        | (go_at_call 37; have hh := clone55 ((HGV.out.keep HK1.out (fun _ _ h => h)).keep HK2.out (fun _ _ h => h)) (by omega); refine Calls.mono hh ?_; clear hh; rintro e w3 ⟨gv', rfl, ho3, hk3⟩; obtain ⟨go', gc', rfl, hgc⟩ := ownsRow_shape ho3; have HO3 := Lib.hid ho3; clear ho3; have HK3 := Lib.hid hk3; clear hk3))
      have hz2 := HK1.out.size
      have hz3 := HK2.out.size
      have hz4 := HK3.out.size
      have hn3 : Blk ((w3.alloc (.cells #[.slice go' g.length gc', .slice none 0 0, .slice none 0 0, .slice none 0 0, .slice none 0 0] 90)).alloc (.cells #[.pointer (some ⟨bd, 0, none⟩), .pointer (some ⟨w3.heap.size, 0, none⟩), .slice none 0 0, .bool false] 61)) w3.heap.size (StV.cells ⟨w3.heap.size, .slice go' g.length gc', .slice none 0 0, .slice none 0 0, .slice none 0 0, .slice none 0 0⟩) 90 := (Blk.new _ _ _).alloc _
      have hn4 : Blk ((w3.alloc (.cells #[.slice go' g.length gc', .slice none 0 0, .slice none 0 0, .slice none 0 0, .slice none 0 0] 90)).alloc (.cells #[.pointer (some ⟨bd, 0, none⟩), .pointer (some ⟨w3.heap.size, 0, none⟩), .slice none 0 0, .bool false] 61)) (w3.heap.size + 1) #[.pointer (some ⟨bd, 0, none⟩), .pointer (some ⟨w3.heap.size, 0, none⟩), .slice none 0 0, .bool false] 61 := by
        have := Blk.new (w3.alloc (.cells #[.slice go' g.length gc', .slice none 0 0, .slice none 0 0, .slice none 0 0, .slice none 0 0] 90)) #[.pointer (some ⟨bd, 0, none⟩), .pointer (some ⟨w3.heap.size, 0, none⟩), .slice none 0 0, .bool false] 61
        rwa [World.size_alloc] at this
      have hk34 : Keep (fun _ => False) w3 ((w3.alloc (.cells #[.slice go' g.length gc', .slice none 0 0, .slice none 0 0, .slice none 0 0, .slice none 0 0] 90)).alloc (.cells #[.pointer (some ⟨bd, 0, none⟩), .pointer (some ⟨w3.heap.size, 0, none⟩), .slice none 0 0, .bool false] 61)) := ((Keep.refl _ _).alloc _).alloc _
      obtain ⟨w4, hw4⟩ : ∃ w4, w4 = ((w3.alloc (.cells #[.slice go' g.length gc', .slice none 0 0, .slice none 0 0, .slice none 0 0, .slice none 0 0] 90)).alloc (.cells #[.pointer (some ⟨bd, 0, none⟩), .pointer (some ⟨w3.heap.size, 0, none⟩), .slice none 0 0, .bool false] 61)) := ⟨_, rfl⟩
      rw [← hw4] at hn3 hn4 hk34
      rw [← hw4]
      clear hw4
      have hk04 : Keep (fun _ => False) w w4 := ((HK1.out.trans HK2.out (fun _ _ h => h)).trans HK3.out (fun _ _ h => h)).trans hk34 (fun _ _ h => h)
      have hst0 : StAt w4 ⟨w3.heap.size, .slice go' g.length gc', .slice none 0 0, .slice none 0 0, .slice none 0 0, .slice none 0 0⟩ (S0 g) := by
        refine ⟨hn3, ownsRow_rd (ownsRow_keep HO3.out hk34 (fun _ _ h => h)) (icells_one _), Rd.nil _ _, Rd.nil _ _, Rd.nil _ _, Rd.nil _ _, fun k hk => ?_⟩
        have h5 := hn3.lt
        rcases hk with e | e | e | e | e | e
        · rw [e]; exact h5
        · have := (ownsRow_lt HO3.out k e).2; omega
        · cases e
        · cases e
        · cases e
        · cases e
      have hfp0 : ∀ k, StV.fp ⟨w3.heap.size, .slice go' g.length gc', .slice none 0 0, .slice none 0 0, .slice none 0 0, .slice none 0 0⟩ k → w.heap.size ≤ k ∧ k ≠ w3.heap.size + 1 := fun k hk => by
        rcases hk with e | e | e | e | e | e
        · exact ⟨by rw [e]; show w.heap.size ≤ w3.heap.size; omega, by rw [e]; show w3.heap.size ≠ w3.heap.size + 1; omega⟩
        · have h6 := ownsRow_lt HO3.out k e
          exact ⟨by omega, by omega⟩
        · cases e
        · cases e
        · cases e
        · cases e
      have HREL : Hid (OpenRel F I w D g bd (w3.heap.size + 1) (.slice bo D.bytes.length bc) (.int .i64 0) w4) := Lib.hid
        ⟨D.bytes, S0 g, [], 0, D.bytes.length + 1, _, none, 0, rfl, Nat.zero_le _, rfl, by omega, rfl, hI, Nat.le_refl _, hn4, hst0, fun k hk => ⟨(hfp0 k hk).1, (hfp0 k hk).2, fun h => by cases h⟩, World.ownsRow_nil _ _ _ _, ownsRow_base (ownsRow_keep (ownsRow_keep HO2.out HK3.out (fun _ _ h => h)) hk34 (fun _ _ h => h)) hz2, hk04⟩
      clear hst0 hfp0 hn3 hn4 hk34 hk04
      have HSYS := Lib.hid hsys; clear hsys hI
      go_loopw [9] (OpenRel F I w D g bd (w3.heap.size + 1) (.slice bo D.bytes.length bc)) (fun i _ => D.bytes.length - (intOf i).toNat)
      · exact HREL.out
      case round =>
        obtain ⟨rest, S, ls, at_, fuel, V, lo, lc, rfl, hat, hrest, hfuel, hloop, hinv, hls, hblk, hst, hsep, hown, hby, hkeep⟩ := hrel
        have HLOOP := Lib.hid hloop; clear hloop
        have HINV := Lib.hid hinv; clear hinv
        have HBLK := Lib.hid hblk; clear hblk
        have HST := Lib.hid hst; clear hst
        have HSEP := Lib.hid hsep; clear hsep
        have HOWN := Lib.hid hown; clear hown
        have HBY := Lib.hid hby; clear hby
        have HKEEP := Lib.hid hkeep; clear hkeep
        subst hrest
        have hlat : (at_ : Int) ≤ (D.bytes.length : Int) := by omega
        have hdb := HD.out.ok.size1
        have hdf := HD.out.ok.fits
        obtain ⟨rest, hrest⟩ : ∃ rest, D.bytes.drop at_ = rest := ⟨_, rfl⟩
        obtain ⟨so, hso⟩ : ∃ so, (if bc = at_ then bo else bo.map (fun x => x.add at_)) = so := ⟨_, rfl⟩
        have hrl : rest.length = D.bytes.length - at_ := by rw [← hrest, List.length_drop]
        have hsl : ∀ W, (Instr.slice 65 (.slice bo D.bytes.length bc) (some (.int .i64 (at_ : Int))) none none).run Tryz.prog W = .ok (.slice so rest.length (bc - at_)) W := fun W => by
          rw [run_slice_l W 65 bo D.bytes.length bc (by kernel_rfl) .i64 (at_ : Int) (by omega) hlat]
          have h1 : (sizeOf (Tryz.prog.elem 65)).run Tryz.prog W = .ok 1 W := by kernel_rfl
          rw [h1]
          simp only [Result.andThen_ok, sliced, Int.toNat_natCast, Nat.mul_one, hso, hrl]
        have hrd : Rd wr 1 (.slice so rest.length (bc - at_)) rest.length (bcells rest) := by
          have := (ownsRow_rd HBY.out (bcells_one _)).drop1 at_ hat
          rwa [hso, hrest] at this
        rw [hrest] at hfuel HLOOP
        have HRD := Lib.hid hrd
        have hso2 : ∀ b, (Value.slice so (cutPre rest).length (bc - at_)).ownBlock = some b → (Value.slice bo D.bytes.length bc).ownBlock = some b := fun b e => by
          rw [← hso] at e
          split at e
          · cases bo <;> exact e
          · cases bo with
            | none => exact e
            | some x => obtain ⟨xb, xo, xs⟩ := x; simp only [Option.map_some, Addr.add] at e; split at e <;> exact e
        have HREST := Lib.hid hrest; clear hrest hso
        have hpl := cutPre_length rest
        have hcv : Hid (∀ W, Keep (fun k => ¬ (Value.slice bo D.bytes.length bc).ownBlock = some k) wr W → (convert 65 9 (.slice so (cutPre rest).length (bc - at_))).run Tryz.prog W = .ok (.string (bs (cutPre rest))) W) := Lib.hid fun W hk =>
          convRd ((cutPre_rd hrd).keep hk (fun b e h => h (hso2 b e)))
        clear hrd
        have HSA : Hid (∀ W, Keep (fun _ => False) wr W → W.cell? ⟨w3.heap.size + 1, 1, none⟩ = some (.pointer (some ⟨V.b, 0, none⟩)) ∧ (convert 65 9 (.slice so (cutPre rest).length (bc - at_))).run Tryz.prog W = .ok (.string (bs (cutPre rest))) W) := Lib.hid fun W hk =>
          ⟨(HBLK.out.keep hk (fun h => h)).cell 1, hcv.out W (hk.mono (fun _ _ h => h.elim))⟩
        have HKR : Hid (Keep (fun _ => False) wr wr) := Lib.hid (Keep.refl _ _)
        have hrn : rest.length ≤ D.bytes.length := by omega
        have HRL := Lib.hid hrl; clear hrl
        have hlsn : ls.length ≤ D.bytes.length := by omega
        obtain ⟨ok, hok⟩ : ∃ ok, (cutNL rest).isSome = ok := ⟨_, rfl⟩
        obtain ⟨R, hR⟩ : ∃ R, doF F S (bs (cutPre rest)) = R := ⟨_, rfl⟩
        obtain ⟨re, rs, ro⟩ := R
        have HOK := Lib.hid hok; clear hok
        have HRR := Lib.hid hR; clear hR
        cases ok with
        | false =>
          have HL := Lib.hid (show openF F D g = openEnd D (S, ls, at_) by rw [HF.out, ← HLOOP.out]; rw [openLoop_none hfuel HOK.out])
          have HF := HL
          have hbw : w.heap.size ≤ w3.heap.size + 1 := by omega
          by_cases hend : at_ < D.bytes.length
          · have hlt : ((at_ : Int) < (D.bytes.length : Int)) = True := eq_true (by omega)
            obtain ⟨C, hC⟩ : ∃ C, cutF D (at_ : Int) = C := ⟨_, rfl⟩
            obtain ⟨ce, D1⟩ := C
            have HC := Lib.hid hC
            by_cases hce : ce = 0
            · subst hce
              obtain ⟨Y, hY⟩ : ∃ Y, syncF D1 = Y := ⟨_, rfl⟩
              obtain ⟨se, D2⟩ := Y
              have HY := Lib.hid hY
              have HL2 := Lib.hid (show openEnd D (S, ls, at_) = ⟨se, D2, S, ls⟩ by unfold openEnd; rw [if_pos hend]; simp only [hC, if_true, hY])
              clear hC hY
              by_cases hse : se = 0
              · subst hse
                go_wp2_with (first
                  | (go_at_call 38; have hh := bcut_any (w := wr.alloc (.cells #[.int .u8 10] 5)) (b2 := wr.heap.size) ((HG.out.keep HKEEP.out).keep ((Keep.refl _ _).alloc _)) rfl (HRD.out.keep ((Keep.refl (fun _ => False) _).alloc _) (fun _ _ h => h)) (by rw [World.cell?_alloc_new]; rfl) (by omega); refine Calls.mono hh ?_; clear hh; rintro e w' ⟨v2, rfl, q, rfl⟩; rw [HOK.out]))
                go_region_held3 (fun W => W.cell? ⟨w3.heap.size + 1, 1, none⟩ = some (.pointer (some ⟨V.b, 0, none⟩)) ∧ (convert 65 9 (.slice so (cutPre rest).length (bc - at_))).run Tryz.prog W = .ok (.string (bs (cutPre rest))) W)
                  ((refine HSA.out _ ?_; repeat (first | exact HKR.out | apply Keep.drew | apply Keep.drewN | apply Keep.alloc)))
                  ((go_at_call 22; have kk := ((((Keep.refl (fun _ => False) wr).alloc (.cells #[.int .u8 10] 5)).drewN q).drew); have hh := do_any (F := F) (line := bs (cutPre rest)) ((HG.out.keep HKEEP.out).keep kk) (HST.out.keep kk (fun _ _ h => h)) (HSYS.out.small _ _ hlsn HINV.out) (by simp [bs, ByteArray.size]; omega) (HSYS.out.run _ _ _ hlsn HINV.out (by simp [bs, ByteArray.size]; omega)); rw [HRR.out] at hh; refine Calls.mono hh ?_; clear hh; rintro e W3 ⟨V', rfl, hst3, hvb3, hVV, hfp3, hk3⟩; have HKR := Lib.hid (kk.trans hk3 (fun _ _ h => h)); have hB3 := HBLK.out.keep HKR.out (fun h => h); have c1 := hB3.cell 1; have f1 := hB3.free 1; simp at c1; have HB3 := Lib.hid hB3; have HST3 := Lib.hid hst3; have HVV := Lib.hid hVV; have HFP := Lib.hid hfp3; clear hst3 hvb3 hVV hfp3 hk3 kk hB3; dsimp only))
                go_wp2_with (first
                  | (go_at_call 39; have hh := cut_any (at_ : Int) (HD.out.keep (HKEEP.out.trans HKR.out (fun _ _ h => h)) (fun h => h) (fun _ _ h => h)); rw [HC.out] at hh; dsimp only at hh; refine Calls.mono hh ?_; clear hh; rintro e W4 ⟨rfl, ⟨v1, hd1, hf1⟩, hk4⟩; have HD1 := Lib.hid hd1; have HF1 := Lib.hid hf1; have HK4 := Lib.hid hk4; clear hd1 hf1 hk4)
                  | (go_at_call 24; have hh := sync_any HD1.out; rw [HY.out] at hh; dsimp only at hh; refine Calls.mono hh ?_; clear hh; rintro e W5 ⟨rfl, ⟨v2, hd2, hf2⟩, hk5⟩; have HD2 := Lib.hid hd2; have HF2 := Lib.hid hf2; have HK5 := Lib.hid hk5; clear hd2 hf2 hk5))
                go_ret2
                rw [HF.out, HL2.out]
                exact open_fin HD.out hb HB3.out (HST.out.keep HKR.out (fun _ _ h => h)) HSEP.out (ownsRow_keep HOWN.out HKR.out (fun _ _ h => h)) hbw (HKEEP.out.trans HKR.out (fun _ _ h => h)) (HK4.out.trans HK5.out (fun k hk e => e.elim .inl (fun e => HF1.out.elim (fun h => .inr (h ▸ e)) (fun ⟨g, h1, h2⟩ => by have h3 : g = k := Option.some.inj (h1.symm.trans e); omega)))) HD2.out (HF2.out.elim (fun h => HF1.out.elim (fun h' => .inl (h.trans h')) (fun ⟨g, h1, h2⟩ => .inr ⟨g, h.trans h1, h2⟩)) (fun ⟨g, h1, h2⟩ => .inr ⟨g, h1, Nat.le_trans HK4.out.size h2⟩))
              · have hse2 : (se != 0) = true := by simpa using hse
                have hne := hse
                go_wp2_with (first
                  | (go_at_call 38; have hh := bcut_any (w := wr.alloc (.cells #[.int .u8 10] 5)) (b2 := wr.heap.size) ((HG.out.keep HKEEP.out).keep ((Keep.refl _ _).alloc _)) rfl (HRD.out.keep ((Keep.refl (fun _ => False) _).alloc _) (fun _ _ h => h)) (by rw [World.cell?_alloc_new]; rfl) (by omega); refine Calls.mono hh ?_; clear hh; rintro e w' ⟨v2, rfl, q, rfl⟩; rw [HOK.out]))
                go_region_held3 (fun W => W.cell? ⟨w3.heap.size + 1, 1, none⟩ = some (.pointer (some ⟨V.b, 0, none⟩)) ∧ (convert 65 9 (.slice so (cutPre rest).length (bc - at_))).run Tryz.prog W = .ok (.string (bs (cutPre rest))) W)
                  ((refine HSA.out _ ?_; repeat (first | exact HKR.out | apply Keep.drew | apply Keep.drewN | apply Keep.alloc)))
                  ((go_at_call 22; have kk := ((((Keep.refl (fun _ => False) wr).alloc (.cells #[.int .u8 10] 5)).drewN q).drew); have hh := do_any (F := F) (line := bs (cutPre rest)) ((HG.out.keep HKEEP.out).keep kk) (HST.out.keep kk (fun _ _ h => h)) (HSYS.out.small _ _ hlsn HINV.out) (by simp [bs, ByteArray.size]; omega) (HSYS.out.run _ _ _ hlsn HINV.out (by simp [bs, ByteArray.size]; omega)); rw [HRR.out] at hh; refine Calls.mono hh ?_; clear hh; rintro e W3 ⟨V', rfl, hst3, hvb3, hVV, hfp3, hk3⟩; have HKR := Lib.hid (kk.trans hk3 (fun _ _ h => h)); have hB3 := HBLK.out.keep HKR.out (fun h => h); have c1 := hB3.cell 1; have f1 := hB3.free 1; simp at c1; have HB3 := Lib.hid hB3; have HST3 := Lib.hid hst3; have HVV := Lib.hid hVV; have HFP := Lib.hid hfp3; clear hst3 hvb3 hVV hfp3 hk3 kk hB3; dsimp only))
                go_wp2_with (first
                  | (go_at_call 39; have hh := cut_any (at_ : Int) (HD.out.keep (HKEEP.out.trans HKR.out (fun _ _ h => h)) (fun h => h) (fun _ _ h => h)); rw [HC.out] at hh; dsimp only at hh; refine Calls.mono hh ?_; clear hh; rintro e W4 ⟨rfl, ⟨v1, hd1, hf1⟩, hk4⟩; have HD1 := Lib.hid hd1; have HF1 := Lib.hid hf1; have HK4 := Lib.hid hk4; clear hd1 hf1 hk4)
                  | (go_at_call 24; have hh := sync_any HD1.out; rw [HY.out] at hh; dsimp only at hh; refine Calls.mono hh ?_; clear hh; rintro e W5 ⟨rfl, ⟨v2, hd2, hf2⟩, hk5⟩; have HD2 := Lib.hid hd2; have HF2 := Lib.hid hf2; have HK5 := Lib.hid hk5; clear hd2 hf2 hk5))
                go_ret2
                rw [HF.out, HL2.out]
                exact open_err hne (HKEEP.out.trans HKR.out (fun _ _ h => h)) (HK4.out.trans HK5.out (fun k hk e => e.elim .inl (fun e => HF1.out.elim (fun h => .inr (h ▸ e)) (fun ⟨g, h1, h2⟩ => by have h3 : g = k := Option.some.inj (h1.symm.trans e); omega)))) HD2.out (HF2.out.elim (fun h => HF1.out.elim (fun h' => .inl (h.trans h')) (fun ⟨g, h1, h2⟩ => .inr ⟨g, h.trans h1, h2⟩)) (fun ⟨g, h1, h2⟩ => .inr ⟨g, h1, Nat.le_trans HK4.out.size h2⟩))
            · have hce2 : (ce != 0) = true := by simpa using hce
              have hne := hce
              have HL2 := Lib.hid (show openEnd D (S, ls, at_) = ⟨ce, D1, S, ls⟩ by unfold openEnd; rw [if_pos hend]; simp only [hC, if_neg hce])
              clear hC
              go_wp2_with (first
                | (go_at_call 38; have hh := bcut_any (w := wr.alloc (.cells #[.int .u8 10] 5)) (b2 := wr.heap.size) ((HG.out.keep HKEEP.out).keep ((Keep.refl _ _).alloc _)) rfl (HRD.out.keep ((Keep.refl (fun _ => False) _).alloc _) (fun _ _ h => h)) (by rw [World.cell?_alloc_new]; rfl) (by omega); refine Calls.mono hh ?_; clear hh; rintro e w' ⟨v2, rfl, q, rfl⟩; rw [HOK.out]))
              go_region_held3 (fun W => W.cell? ⟨w3.heap.size + 1, 1, none⟩ = some (.pointer (some ⟨V.b, 0, none⟩)) ∧ (convert 65 9 (.slice so (cutPre rest).length (bc - at_))).run Tryz.prog W = .ok (.string (bs (cutPre rest))) W)
                ((refine HSA.out _ ?_; repeat (first | exact HKR.out | apply Keep.drew | apply Keep.drewN | apply Keep.alloc)))
                ((go_at_call 22; have kk := ((((Keep.refl (fun _ => False) wr).alloc (.cells #[.int .u8 10] 5)).drewN q).drew); have hh := do_any (F := F) (line := bs (cutPre rest)) ((HG.out.keep HKEEP.out).keep kk) (HST.out.keep kk (fun _ _ h => h)) (HSYS.out.small _ _ hlsn HINV.out) (by simp [bs, ByteArray.size]; omega) (HSYS.out.run _ _ _ hlsn HINV.out (by simp [bs, ByteArray.size]; omega)); rw [HRR.out] at hh; refine Calls.mono hh ?_; clear hh; rintro e W3 ⟨V', rfl, hst3, hvb3, hVV, hfp3, hk3⟩; have HKR := Lib.hid (kk.trans hk3 (fun _ _ h => h)); have hB3 := HBLK.out.keep HKR.out (fun h => h); have c1 := hB3.cell 1; have f1 := hB3.free 1; simp at c1; have HB3 := Lib.hid hB3; have HST3 := Lib.hid hst3; have HVV := Lib.hid hVV; have HFP := Lib.hid hfp3; clear hst3 hvb3 hVV hfp3 hk3 kk hB3; dsimp only))
              go_wp2_with (first
                | (go_at_call 39; have hh := cut_any (at_ : Int) (HD.out.keep (HKEEP.out.trans HKR.out (fun _ _ h => h)) (fun h => h) (fun _ _ h => h)); rw [HC.out] at hh; dsimp only at hh; refine Calls.mono hh ?_; clear hh; rintro e W4 ⟨rfl, ⟨v1, hd1, hf1⟩, hk4⟩; have HD1 := Lib.hid hd1; have HF1 := Lib.hid hf1; have HK4 := Lib.hid hk4; clear hd1 hf1 hk4))
              go_ret2
              rw [HF.out, HL2.out]
              exact open_err hne (HKEEP.out.trans HKR.out (fun _ _ h => h)) HK4.out HD1.out HF1.out
          · have hlt : ((at_ : Int) < (D.bytes.length : Int)) = False := eq_false (by omega)
            obtain ⟨Y, hY⟩ : ∃ Y, syncF D = Y := ⟨_, rfl⟩
            obtain ⟨se, D2⟩ := Y
            have HY := Lib.hid hY
            have HL2 := Lib.hid (show openEnd D (S, ls, at_) = ⟨se, D2, S, ls⟩ by unfold openEnd; rw [if_neg hend]; simp only [hY])
            clear hY
            by_cases hse : se = 0
            · subst hse
              go_wp2_with (first
                | (go_at_call 38; have hh := bcut_any (w := wr.alloc (.cells #[.int .u8 10] 5)) (b2 := wr.heap.size) ((HG.out.keep HKEEP.out).keep ((Keep.refl _ _).alloc _)) rfl (HRD.out.keep ((Keep.refl (fun _ => False) _).alloc _) (fun _ _ h => h)) (by rw [World.cell?_alloc_new]; rfl) (by omega); refine Calls.mono hh ?_; clear hh; rintro e w' ⟨v2, rfl, q, rfl⟩; rw [HOK.out]))
              go_region_held3 (fun W => W.cell? ⟨w3.heap.size + 1, 1, none⟩ = some (.pointer (some ⟨V.b, 0, none⟩)) ∧ (convert 65 9 (.slice so (cutPre rest).length (bc - at_))).run Tryz.prog W = .ok (.string (bs (cutPre rest))) W)
                ((refine HSA.out _ ?_; repeat (first | exact HKR.out | apply Keep.drew | apply Keep.drewN | apply Keep.alloc)))
                ((go_at_call 22; have kk := ((((Keep.refl (fun _ => False) wr).alloc (.cells #[.int .u8 10] 5)).drewN q).drew); have hh := do_any (F := F) (line := bs (cutPre rest)) ((HG.out.keep HKEEP.out).keep kk) (HST.out.keep kk (fun _ _ h => h)) (HSYS.out.small _ _ hlsn HINV.out) (by simp [bs, ByteArray.size]; omega) (HSYS.out.run _ _ _ hlsn HINV.out (by simp [bs, ByteArray.size]; omega)); rw [HRR.out] at hh; refine Calls.mono hh ?_; clear hh; rintro e W3 ⟨V', rfl, hst3, hvb3, hVV, hfp3, hk3⟩; have HKR := Lib.hid (kk.trans hk3 (fun _ _ h => h)); have hB3 := HBLK.out.keep HKR.out (fun h => h); have c1 := hB3.cell 1; have f1 := hB3.free 1; simp at c1; have HB3 := Lib.hid hB3; have HST3 := Lib.hid hst3; have HVV := Lib.hid hVV; have HFP := Lib.hid hfp3; clear hst3 hvb3 hVV hfp3 hk3 kk hB3; dsimp only))
              go_wp2_with (first
                | (go_at_call 24; have hh := sync_any (HD.out.keep (HKEEP.out.trans HKR.out (fun _ _ h => h)) (fun h => h) (fun _ _ h => h)); rw [HY.out] at hh; dsimp only at hh; refine Calls.mono hh ?_; clear hh; rintro e W5 ⟨rfl, ⟨v2, hd2, hf2⟩, hk5⟩; have HD2 := Lib.hid hd2; have HF2 := Lib.hid hf2; have HK5 := Lib.hid hk5; clear hd2 hf2 hk5))
              go_ret2
              rw [HF.out, HL2.out]
              exact open_fin HD.out hb HB3.out (HST.out.keep HKR.out (fun _ _ h => h)) HSEP.out (ownsRow_keep HOWN.out HKR.out (fun _ _ h => h)) hbw (HKEEP.out.trans HKR.out (fun _ _ h => h)) HK5.out HD2.out HF2.out
            · have hse2 : (se != 0) = true := by simpa using hse
              have hne := hse
              go_wp2_with (first
                | (go_at_call 38; have hh := bcut_any (w := wr.alloc (.cells #[.int .u8 10] 5)) (b2 := wr.heap.size) ((HG.out.keep HKEEP.out).keep ((Keep.refl _ _).alloc _)) rfl (HRD.out.keep ((Keep.refl (fun _ => False) _).alloc _) (fun _ _ h => h)) (by rw [World.cell?_alloc_new]; rfl) (by omega); refine Calls.mono hh ?_; clear hh; rintro e w' ⟨v2, rfl, q, rfl⟩; rw [HOK.out]))
              go_region_held3 (fun W => W.cell? ⟨w3.heap.size + 1, 1, none⟩ = some (.pointer (some ⟨V.b, 0, none⟩)) ∧ (convert 65 9 (.slice so (cutPre rest).length (bc - at_))).run Tryz.prog W = .ok (.string (bs (cutPre rest))) W)
                ((refine HSA.out _ ?_; repeat (first | exact HKR.out | apply Keep.drew | apply Keep.drewN | apply Keep.alloc)))
                ((go_at_call 22; have kk := ((((Keep.refl (fun _ => False) wr).alloc (.cells #[.int .u8 10] 5)).drewN q).drew); have hh := do_any (F := F) (line := bs (cutPre rest)) ((HG.out.keep HKEEP.out).keep kk) (HST.out.keep kk (fun _ _ h => h)) (HSYS.out.small _ _ hlsn HINV.out) (by simp [bs, ByteArray.size]; omega) (HSYS.out.run _ _ _ hlsn HINV.out (by simp [bs, ByteArray.size]; omega)); rw [HRR.out] at hh; refine Calls.mono hh ?_; clear hh; rintro e W3 ⟨V', rfl, hst3, hvb3, hVV, hfp3, hk3⟩; have HKR := Lib.hid (kk.trans hk3 (fun _ _ h => h)); have hB3 := HBLK.out.keep HKR.out (fun h => h); have c1 := hB3.cell 1; have f1 := hB3.free 1; simp at c1; have HB3 := Lib.hid hB3; have HST3 := Lib.hid hst3; have HVV := Lib.hid hVV; have HFP := Lib.hid hfp3; clear hst3 hvb3 hVV hfp3 hk3 kk hB3; dsimp only))
              go_wp2_with (first
                | (go_at_call 24; have hh := sync_any (HD.out.keep (HKEEP.out.trans HKR.out (fun _ _ h => h)) (fun h => h) (fun _ _ h => h)); rw [HY.out] at hh; dsimp only at hh; refine Calls.mono hh ?_; clear hh; rintro e W5 ⟨rfl, ⟨v2, hd2, hf2⟩, hk5⟩; have HD2 := Lib.hid hd2; have HF2 := Lib.hid hf2; have HK5 := Lib.hid hk5; clear hd2 hf2 hk5))
              go_ret2
              rw [HF.out, HL2.out]
              exact open_err hne (HKEEP.out.trans HKR.out (fun _ _ h => h)) HK5.out HD2.out HF2.out
        | true =>
          by_cases hz : re = 0
          · subst hz
            go_wp2_with (first
              | (go_at_call 38; have hh := bcut_any (w := wr.alloc (.cells #[.int .u8 10] 5)) (b2 := wr.heap.size) ((HG.out.keep HKEEP.out).keep ((Keep.refl _ _).alloc _)) rfl (HRD.out.keep ((Keep.refl (fun _ => False) _).alloc _) (fun _ _ h => h)) (by rw [World.cell?_alloc_new]; rfl) (by omega); refine Calls.mono hh ?_; clear hh; rintro e w' ⟨v2, rfl, q, rfl⟩; rw [HOK.out]))
            go_region_held3 (fun W => W.cell? ⟨w3.heap.size + 1, 1, none⟩ = some (.pointer (some ⟨V.b, 0, none⟩)) ∧ (convert 65 9 (.slice so (cutPre rest).length (bc - at_))).run Tryz.prog W = .ok (.string (bs (cutPre rest))) W)
              ((refine HSA.out _ ?_; repeat (first | exact HKR.out | apply Keep.drew | apply Keep.drewN | apply Keep.alloc)))
              ((go_at_call 22; have kk := ((((Keep.refl (fun _ => False) wr).alloc (.cells #[.int .u8 10] 5)).drewN q).drew); have hh := do_any (F := F) (line := bs (cutPre rest)) ((HG.out.keep HKEEP.out).keep kk) (HST.out.keep kk (fun _ _ h => h)) (HSYS.out.small _ _ hlsn HINV.out) (by simp [bs, ByteArray.size]; omega) (HSYS.out.run _ _ _ hlsn HINV.out (by simp [bs, ByteArray.size]; omega)); rw [HRR.out] at hh; refine Calls.mono hh ?_; clear hh; rintro e W3 ⟨V', rfl, hst3, hvb3, hVV, hfp3, hk3⟩; have HKR := Lib.hid (kk.trans hk3 (fun _ _ h => h)); have hB3 := HBLK.out.keep HKR.out (fun h => h); have c1 := hB3.cell 1; have f1 := hB3.free 1; simp at c1; have HB3 := Lib.hid hB3; have HST3 := Lib.hid hst3; have HVV := Lib.hid hVV; have HFP := Lib.hid hfp3; clear hst3 hvb3 hVV hfp3 hk3 kk hB3; dsimp only))
            go_wp2
            have hk34 : Keep (fun k => k = w3.heap.size + 1) W3 (W3.setCell ⟨w3.heap.size + 1, 1, none⟩ (.pointer (some ⟨V'.b, 0, none⟩))) := (Keep.refl _ _).setCell _ _ (fun _ => rfl)
            have hb4 := HB3.out.set 1 (.pointer (some ⟨V'.b, 0, none⟩))
            obtain ⟨W4, hW4⟩ : ∃ W4, W4 = W3.setCell ⟨w3.heap.size + 1, 1, none⟩ (.pointer (some ⟨V'.b, 0, none⟩)) := ⟨_, rfl⟩
            rw [← hW4] at hk34 hb4
            rw [← hW4]
            clear hW4 c1 f1
            have c2 := hb4.cell 2
            have f2 := hb4.free 2
            simp at c2
            have hlt4 : w3.heap.size + 1 < W4.heap.size := hb4.lt
            have hne4 : w3.heap.size + 1 ≠ W4.heap.size := by omega
            have hbyne := ownsRow_blk HBY.out HBLK.out (by decide)
            have hbyvl := ownsRow_types HBY.out HOWN.out (by decide)
            have HSC : Hid (∀ W, Keep (fun k => k = w3.heap.size + 1 ∨ (Value.slice lo ls.length lc).ownBlock = some k) W4 W → (convert 65 9 (.slice so (cutPre rest).length (bc - at_))).run Tryz.prog W = .ok (.string (bs (cutPre rest))) W) := Lib.hid fun W hk =>
              hcv.out W (((HKR.out.mono (fun _ _ h => h.elim)).trans hk34 (fun k _ e h => hbyne (e ▸ h))).trans hk (fun k _ e h => e.elim (fun e => hbyne (e ▸ h)) (fun e => hbyvl k h e)))
            clear hbyne hbyvl
            obtain ⟨w5, hw5⟩ : ∃ w5, w5 = W4.alloc (.cells #[.string (bs (cutPre rest))] 9) := ⟨_, rfl⟩
            have hk45 : Keep (fun _ => False) W4 w5 := by rw [hw5]; exact (Keep.refl _ _).alloc _
            have HSRC : Hid (Src Tryz.prog 1 24 (.slice (some ⟨W4.heap.size, 0, none⟩) 1 1) 1 [.string (bs (cutPre rest))] w5.drew) := Lib.hid (by
              have := Rd.new W4 1 1 [.string (bs (cutPre rest))] 9 rfl (by simp [Value.oneCell']) (by unfold maxLen; omega)
              rw [hw5]; exact this.drew.src Tryz.underlying24)
            have hol4 : W4.ownsRow w.heap.size 9 1 (.slice lo ls.length lc) ls.length (strCells ls) := ownsRow_keep (ownsRow_keep HOWN.out HKR.out (fun _ _ h => h)) hk34 (fun k e e' => ownsRow_blk HOWN.out HBLK.out (by decide) (e' ▸ e))
            have HOL : Hid (w5.drew.ownsRow w.heap.size 9 1 (.slice lo ls.length lc) ls.length (strCells ls)) := Lib.hid (ownsRow_keep hol4 hk45.drew (fun _ _ h => h))
            have HBN : Hid ((Value.slice lo ls.length lc).ownBlock ≠ some (w3.heap.size + 1)) := Lib.hid (ownsRow_blk HOWN.out HBLK.out (by decide))
            have hb5 := hb4.keep hk45.drew (fun h => h)
            have HKR4 : Hid (Keep (fun k => k = w3.heap.size + 1 ∨ (Value.slice lo ls.length lc).ownBlock = some k) W4 W4) := Lib.hid (Keep.refl _ _)
            have HB5 := Lib.hid hb5; clear hb5
            have HK45 := Lib.hid hk45; clear hk45
            have HK34 := Lib.hid hk34; clear hk34
            have hwb : w.heap.size ≤ w5.drew.heap.size := Nat.le_trans HKEEP.out.size (Nat.le_trans HKR.out.size (Nat.le_trans HK34.out.size HK45.out.size))
            have HWB := Lib.hid hwb; clear hwb
            have HW5 := Lib.hid hw5; clear hw5 hb4 hol4
            refine wp_region_noPanic ?_
            refine wp_region_held_drew (S := fun W => (convert 65 9 (.slice so (cutPre rest).length (bc - at_))).run Tryz.prog W = .ok (.string (bs (cutPre rest))) W) (by kernel_rfl) (HSC.out _ HKR4.out.drew) (fun hHeld => ?_)
            refine wpAnyH_take (i := 0) (oi := _) (v := ?_) rfl (by kernel_rfl) (by kernel_rfl) (by kernel_rfl) (fun _ _ _ h => h) (Or.inl ⟨by rfl, ?_⟩) (by assumption) ?_
            rotate_left
            · (intro w hSw; (try dsimp only at hSw); go_simp) <;> with_reducible rfl
            (try simp only [List.getElem_toArray, List.getElem_cons_zero, List.getElem_cons_succ, Act.put, List.setIfInBounds_toArray, List.set_cons_zero, List.set_cons_succ])
            refine wpAnyH_take (i := 1) (oi := _) (v := ?_) rfl (by kernel_rfl) (by kernel_rfl) (by kernel_rfl) (fun _ _ _ h => h) (Or.inl ⟨by rfl, ?_⟩) (by assumption) ?_
            rotate_left
            · (intro w hSw; (try dsimp only at hSw); go_simp) <;> with_reducible rfl
            (try simp only [List.getElem_toArray, List.getElem_cons_zero, List.getElem_cons_succ, Act.put, List.setIfInBounds_toArray, List.set_cons_zero, List.set_cons_succ])
            refine wpAnyH_take (i := 2) (oi := _) (v := ?_) rfl (by kernel_rfl) (by kernel_rfl) (by kernel_rfl) (fun _ _ _ h => h) (Or.inl ⟨by rfl, ?_⟩) (by assumption) ?_
            rotate_left
            · (intro w hSw; (try dsimp only at hSw); go_simp) <;> with_reducible rfl
            (try simp only [List.getElem_toArray, List.getElem_cons_zero, List.getElem_cons_succ, Act.put, List.setIfInBounds_toArray, List.set_cons_zero, List.set_cons_succ])
            refine wpAnyH_take (i := 3) (oi := _) (v := ?_) rfl (by kernel_rfl) (by kernel_rfl) (by kernel_rfl) (fun _ _ _ h => h) (Or.inl ⟨by rfl, ?_⟩) (by assumption) ?_
            rotate_left
            · (intro w hSw; (try dsimp only at hSw); go_simp) <;> with_reducible rfl
            (try simp only [List.getElem_toArray, List.getElem_cons_zero, List.getElem_cons_succ, Act.put, List.setIfInBounds_toArray, List.set_cons_zero, List.set_cons_succ])
            refine wpAnyH_take (i := 5) (oi := _) (v := ?_) rfl (by kernel_rfl) (by kernel_rfl) (by kernel_rfl) (fun _ _ _ h => h) (Or.inl ⟨by rfl, ?_⟩) (by assumption) ?_
            rotate_left
            · (intro w hSw; (try dsimp only at hSw); go_simp) <;> with_reducible rfl
            (try simp only [List.getElem_toArray, List.getElem_cons_zero, List.getElem_cons_succ, Act.put, List.setIfInBounds_toArray, List.set_cons_zero, List.set_cons_succ])
            refine wpAnyH_take (i := 6) (oi := _) (v := ?_) rfl (by kernel_rfl) (by kernel_rfl) (by kernel_rfl) (fun _ _ _ h => h) (Or.inl ⟨by rfl, ?_⟩) (by assumption) ?_
            rotate_left
            · (intro w hSw; (try dsimp only at hSw); go_simp) <;> with_reducible rfl
            (try simp only [List.getElem_toArray, List.getElem_cons_zero, List.getElem_cons_succ, Act.put, List.setIfInBounds_toArray, List.set_cons_zero, List.set_cons_succ])
            refine wpAnyH_ready (rs := [4, 7]) (by kernel_rfl) (by simp) ?_
            refine AllReadyH.cons (o := _) rfl (fun K hK => ?_) (AllReadyH.cons (o := _) rfl (fun K hK => ?_) AllReadyH.nil)
            · go_simp
              refine hK.out _ _ ?_ (fun hHeld => ?_)
              · ((try dsimp only); refine HSC.out _ ?_; repeat (first | exact HKR4.out | apply Keep.drew | apply Keep.alloc | refine Keep.setCell ?_ _ _ (fun _ => .inl rfl)))
              clear hK K
              (try simp only [List.getElem_toArray, List.getElem_cons_zero, List.getElem_cons_succ, Act.put, List.setIfInBounds_toArray, List.set_cons_zero, List.set_cons_succ])
              refine wpAnyH_ready (rs := [7]) (by kernel_rfl) (by simp) ?_
              refine AllReadyH.cons (o := _) rfl (fun K hK => ?_) AllReadyH.nil
              go_simp
              refine hK.out _ _ ?_ (fun hHeld => ?_)
              · ((try dsimp only); refine HSC.out _ ?_; repeat (first | exact HKR4.out | apply Keep.drew | apply Keep.alloc | refine Keep.setCell ?_ _ _ (fun _ => .inl rfl)))
              clear hK K
              (try simp only [List.getElem_toArray, List.getElem_cons_zero, List.getElem_cons_succ, Act.put, List.setIfInBounds_toArray, List.set_cons_zero, List.set_cons_succ])
              refine wpAnyH_ready (rs := [8]) (by kernel_rfl) (by simp) ?_
              refine AllReadyH.cons (o := _) rfl (fun K hK => ?_) AllReadyH.nil
              rw [if_pos (by rfl)]
              rw [← HW5.out]
              refine oper_app (w := w5.drew) (.tmp 74) (.tmp 77) 24 24 rfl 9 (.string ⟨#[]⟩) 1 16 Tryz.underlying24 info9 rfl HOL.out rfl HSRC.out rfl (by unfold maxLen; omega) (by omega) HWB.out (fun v' w7 happ => ?_)
              obtain ⟨ao7, cap7, rfl, _⟩ := ownsRow_shape happ.own
              have HKR4 := Lib.hid ((HK45.out.drew.mono (fun _ _ h => h.elim)).trans happ.keep (fun _ _ h => .inr h) : Keep (fun k => k = w3.heap.size + 1 ∨ (Value.slice lo ls.length lc).ownBlock = some k) W4 w7)
              have hb7 := HB5.out.keep happ.keep HBN.out
              have c2 := hb7.cell 2
              have f2 := hb7.free 2
              simp at c2
              have HB7 := Lib.hid hb7
              have HA := Lib.hid happ
              clear happ hb7
              refine hK.out _ _ ?_ (fun hHeld => ?_)
              · ((try dsimp only); refine HSC.out _ ?_; repeat (first | exact HKR4.out | apply Keep.drew | apply Keep.alloc | refine Keep.setCell ?_ _ _ (fun _ => .inl rfl)))
              clear hK K
              (try simp only [List.getElem_toArray, List.getElem_cons_zero, List.getElem_cons_succ, Act.put, List.setIfInBounds_toArray, List.set_cons_zero, List.set_cons_succ])
              refine wpAnyH_take (i := 9) (oi := _) (v := ?_) rfl (by kernel_rfl) (by kernel_rfl) (by kernel_rfl) (fun _ _ _ h => h) (Or.inl ⟨by rfl, ?_⟩) (by assumption) ?_
              rotate_left
              · (intro w hSw; (try dsimp only at hSw); go_simp) <;> with_reducible rfl
              (try simp only [List.getElem_toArray, List.getElem_cons_zero, List.getElem_cons_succ, Act.put, List.setIfInBounds_toArray, List.set_cons_zero, List.set_cons_succ])
              refine wpAnyH_take (i := 10) (oi := _) (v := ?_) rfl (by kernel_rfl) (by kernel_rfl) (by kernel_rfl) (fun _ _ _ h => h) (Or.inl ⟨by rfl, ?_⟩) (by assumption) ?_
              rotate_left
              · (intro w hSw; (try dsimp only at hSw); go_simp) <;> with_reducible rfl
              (try simp only [List.getElem_toArray, List.getElem_cons_zero, List.getElem_cons_succ, Act.put, List.setIfInBounds_toArray, List.set_cons_zero, List.set_cons_succ])
              refine wpAnyH_ready (rs := [11]) (by kernel_rfl) (by simp) ?_
              refine AllReadyH.cons (o := _) rfl (fun K hK => ?_) AllReadyH.nil
              go_simp
              refine hK.out _ _ ?_ (fun hHeld => ?_)
              · ((try dsimp only); refine HSC.out _ ?_; repeat (first | exact HKR4.out | apply Keep.drew | apply Keep.alloc | refine Keep.setCell ?_ _ _ (fun _ => .inl rfl)))
              clear hK K
              (try simp only [List.getElem_toArray, List.getElem_cons_zero, List.getElem_cons_succ, Act.put, List.setIfInBounds_toArray, List.set_cons_zero, List.set_cons_succ])
              refine wpAnyH_done (by kernel_rfl) ?_ _
              refine NoPanic.normal ?_
              go_wp2
              go_roundw
              case rel =>
                have hct := (cutNL_true HOK.out).2
                have hnx := HSYS.out.next _ _ _ hlsn HINV.out (show (bs (cutPre rest)).size ≤ D.bytes.length by simp [bs, ByteArray.size]; omega) (show (doF F S (bs (cutPre rest))).err = 0 by rw [HRR.out])
                rw [HRR.out] at hnx
                have hrl := HRL.out
                have hk38 : Keep (fun k => k = w3.heap.size + 1 ∨ (Value.slice lo ls.length lc).ownBlock = some k) W3 (w7.setCell ⟨w3.heap.size + 1, 2, none⟩ (.slice ao7 (ls.length + 1) cap7)) :=
                  ((HK34.out.mono (fun _ _ h => .inl h)).trans HKR4.out (fun _ _ h => h)).setCell _ _ (fun _ => .inl rfl)
                have hk08 : Keep (fun k => k = w3.heap.size + 1 ∨ (Value.slice lo ls.length lc).ownBlock = some k) wr (w7.setCell ⟨w3.heap.size + 1, 2, none⟩ (.slice ao7 (ls.length + 1) cap7)) := (HKR.out.mono (fun _ _ h => h.elim)).trans hk38 (fun _ _ h => h)
                have hvne : (Value.slice ao7 (ls.length + 1) cap7).ownBlock ≠ some (w3.heap.size + 1) := fun e => ownsRow_blk HA.out.own HB7.out (by decide) e
                have hwr := HKEEP.out.size
                have hW3 := HKR.out.size
                have hsep3 : ∀ k, V'.fp k → w.heap.size ≤ k ∧ k ≠ w3.heap.size + 1 ∧ (Value.slice lo ls.length lc).ownBlock ≠ some k := fun k hk => by
                  rcases HFP.out k hk with e | e
                  · exact HSEP.out k e
                  · have e2 : (wr.alloc (.cells #[.int .u8 10] 5)).heap.size ≤ k := e
                    rw [World.size_alloc] at e2
                    refine ⟨by omega, fun h => by have := HBLK.out.lt; omega, fun h => by have := (ownsRow_lt HOWN.out k h).2; omega⟩
                refine ⟨rest.drop ((cutPre rest).length + 1), rs, ls ++ [bs (cutPre rest)], at_ + ((cutPre rest).length + 1), fuel - 1, V', ao7, cap7, by go_num, by omega, ?_, ?_, ?_, ?_, ?_, ?_, ?_, ?_, ?_, ?_, ?_⟩
                · rw [← HREST.out, List.drop_drop]
                · rw [List.length_drop]; omega
                · rw [← HLOOP.out]; exact (openLoop_step hfuel HOK.out HRR.out).symm
                · rw [List.length_append]; exact hnx
                · rw [List.length_append]; simp; omega
                · have := HB7.out.set 2 (.slice ao7 (ls.length + 1) cap7)
                  rw [List.length_append]
                  simpa using this
                · exact HST3.out.keep hk38 (fun i hi e => e.elim (fun e => (hsep3 i hi).2.1 e) (fun e => (hsep3 i hi).2.2 e))
                · intro k hk
                  refine ⟨(hsep3 k hk).1, (hsep3 k hk).2.1, fun e => ?_⟩
                  rw [List.length_append] at e
                  rcases HA.out.fresh with h1 | ⟨q1, h1, h2⟩
                  · exact (hsep3 k hk).2.2 (h1 ▸ e)
                  · have h3 : q1 = k := Option.some.inj (h1.symm.trans e)
                    have h4 := HST3.out.lt k hk
                    have h5 := HK34.out.size
                    have h6 := HK45.out.size
                    have h7 : w5.heap.size ≤ q1 := h2
                    omega
                · have := ownsRow_setCell HA.out.own ⟨w3.heap.size + 1, 2, none⟩ (.slice ao7 (ls.length + 1) cap7) hvne
                  simpa [strCells] using this
                · exact ownsRow_keep HBY.out hk08 (fun k e e' => e'.elim (fun e' => ownsRow_blk HBY.out HBLK.out (by decide) (e' ▸ e)) (fun e' => ownsRow_types HBY.out HOWN.out (by decide) k e e'))
                · exact HKEEP.out.trans hk08 (fun k hk e => e.elim (fun e => by have := HB.out; omega) (fun e => by have := (ownsRow_lt HOWN.out k e).1; omega))
              case measure =>
                have hct := (cutNL_true HOK.out).2
                have hrl := HRL.out
                simp [intOf]; omega
            · go_simp
              refine hK.out _ _ ?_ (fun hHeld => ?_)
              · ((try dsimp only); refine HSC.out _ ?_; repeat (first | exact HKR4.out | apply Keep.drew | apply Keep.alloc | refine Keep.setCell ?_ _ _ (fun _ => .inl rfl)))
              clear hK K
              (try simp only [List.getElem_toArray, List.getElem_cons_zero, List.getElem_cons_succ, Act.put, List.setIfInBounds_toArray, List.set_cons_zero, List.set_cons_succ])
              refine wpAnyH_ready (rs := [4]) (by kernel_rfl) (by simp) ?_
              refine AllReadyH.cons (o := _) rfl (fun K hK => ?_) AllReadyH.nil
              go_simp
              refine hK.out _ _ ?_ (fun hHeld => ?_)
              · ((try dsimp only); refine HSC.out _ ?_; repeat (first | exact HKR4.out | apply Keep.drew | apply Keep.alloc | refine Keep.setCell ?_ _ _ (fun _ => .inl rfl)))
              clear hK K
              (try simp only [List.getElem_toArray, List.getElem_cons_zero, List.getElem_cons_succ, Act.put, List.setIfInBounds_toArray, List.set_cons_zero, List.set_cons_succ])
              refine wpAnyH_ready (rs := [8]) (by kernel_rfl) (by simp) ?_
              refine AllReadyH.cons (o := _) rfl (fun K hK => ?_) AllReadyH.nil
              rw [if_pos (by rfl)]
              rw [← HW5.out]
              refine oper_app (w := w5.drew) (.tmp 74) (.tmp 77) 24 24 rfl 9 (.string ⟨#[]⟩) 1 16 Tryz.underlying24 info9 rfl HOL.out rfl HSRC.out rfl (by unfold maxLen; omega) (by omega) HWB.out (fun v' w7 happ => ?_)
              obtain ⟨ao7, cap7, rfl, _⟩ := ownsRow_shape happ.own
              have HKR4 := Lib.hid ((HK45.out.drew.mono (fun _ _ h => h.elim)).trans happ.keep (fun _ _ h => .inr h) : Keep (fun k => k = w3.heap.size + 1 ∨ (Value.slice lo ls.length lc).ownBlock = some k) W4 w7)
              have hb7 := HB5.out.keep happ.keep HBN.out
              have c2 := hb7.cell 2
              have f2 := hb7.free 2
              simp at c2
              have HB7 := Lib.hid hb7
              have HA := Lib.hid happ
              clear happ hb7
              refine hK.out _ _ ?_ (fun hHeld => ?_)
              · ((try dsimp only); refine HSC.out _ ?_; repeat (first | exact HKR4.out | apply Keep.drew | apply Keep.alloc | refine Keep.setCell ?_ _ _ (fun _ => .inl rfl)))
              clear hK K
              (try simp only [List.getElem_toArray, List.getElem_cons_zero, List.getElem_cons_succ, Act.put, List.setIfInBounds_toArray, List.set_cons_zero, List.set_cons_succ])
              refine wpAnyH_take (i := 9) (oi := _) (v := ?_) rfl (by kernel_rfl) (by kernel_rfl) (by kernel_rfl) (fun _ _ _ h => h) (Or.inl ⟨by rfl, ?_⟩) (by assumption) ?_
              rotate_left
              · (intro w hSw; (try dsimp only at hSw); go_simp) <;> with_reducible rfl
              (try simp only [List.getElem_toArray, List.getElem_cons_zero, List.getElem_cons_succ, Act.put, List.setIfInBounds_toArray, List.set_cons_zero, List.set_cons_succ])
              refine wpAnyH_take (i := 10) (oi := _) (v := ?_) rfl (by kernel_rfl) (by kernel_rfl) (by kernel_rfl) (fun _ _ _ h => h) (Or.inl ⟨by rfl, ?_⟩) (by assumption) ?_
              rotate_left
              · (intro w hSw; (try dsimp only at hSw); go_simp) <;> with_reducible rfl
              (try simp only [List.getElem_toArray, List.getElem_cons_zero, List.getElem_cons_succ, Act.put, List.setIfInBounds_toArray, List.set_cons_zero, List.set_cons_succ])
              refine wpAnyH_ready (rs := [11]) (by kernel_rfl) (by simp) ?_
              refine AllReadyH.cons (o := _) rfl (fun K hK => ?_) AllReadyH.nil
              go_simp
              refine hK.out _ _ ?_ (fun hHeld => ?_)
              · ((try dsimp only); refine HSC.out _ ?_; repeat (first | exact HKR4.out | apply Keep.drew | apply Keep.alloc | refine Keep.setCell ?_ _ _ (fun _ => .inl rfl)))
              clear hK K
              (try simp only [List.getElem_toArray, List.getElem_cons_zero, List.getElem_cons_succ, Act.put, List.setIfInBounds_toArray, List.set_cons_zero, List.set_cons_succ])
              refine wpAnyH_done (by kernel_rfl) ?_ _
              refine NoPanic.normal ?_
              go_wp2
              go_roundw
              case rel =>
                have hct := (cutNL_true HOK.out).2
                have hnx := HSYS.out.next _ _ _ hlsn HINV.out (show (bs (cutPre rest)).size ≤ D.bytes.length by simp [bs, ByteArray.size]; omega) (show (doF F S (bs (cutPre rest))).err = 0 by rw [HRR.out])
                rw [HRR.out] at hnx
                have hrl := HRL.out
                have hk38 : Keep (fun k => k = w3.heap.size + 1 ∨ (Value.slice lo ls.length lc).ownBlock = some k) W3 (w7.setCell ⟨w3.heap.size + 1, 2, none⟩ (.slice ao7 (ls.length + 1) cap7)) :=
                  ((HK34.out.mono (fun _ _ h => .inl h)).trans HKR4.out (fun _ _ h => h)).setCell _ _ (fun _ => .inl rfl)
                have hk08 : Keep (fun k => k = w3.heap.size + 1 ∨ (Value.slice lo ls.length lc).ownBlock = some k) wr (w7.setCell ⟨w3.heap.size + 1, 2, none⟩ (.slice ao7 (ls.length + 1) cap7)) := (HKR.out.mono (fun _ _ h => h.elim)).trans hk38 (fun _ _ h => h)
                have hvne : (Value.slice ao7 (ls.length + 1) cap7).ownBlock ≠ some (w3.heap.size + 1) := fun e => ownsRow_blk HA.out.own HB7.out (by decide) e
                have hwr := HKEEP.out.size
                have hW3 := HKR.out.size
                have hsep3 : ∀ k, V'.fp k → w.heap.size ≤ k ∧ k ≠ w3.heap.size + 1 ∧ (Value.slice lo ls.length lc).ownBlock ≠ some k := fun k hk => by
                  rcases HFP.out k hk with e | e
                  · exact HSEP.out k e
                  · have e2 : (wr.alloc (.cells #[.int .u8 10] 5)).heap.size ≤ k := e
                    rw [World.size_alloc] at e2
                    refine ⟨by omega, fun h => by have := HBLK.out.lt; omega, fun h => by have := (ownsRow_lt HOWN.out k h).2; omega⟩
                refine ⟨rest.drop ((cutPre rest).length + 1), rs, ls ++ [bs (cutPre rest)], at_ + ((cutPre rest).length + 1), fuel - 1, V', ao7, cap7, by go_num, by omega, ?_, ?_, ?_, ?_, ?_, ?_, ?_, ?_, ?_, ?_, ?_⟩
                · rw [← HREST.out, List.drop_drop]
                · rw [List.length_drop]; omega
                · rw [← HLOOP.out]; exact (openLoop_step hfuel HOK.out HRR.out).symm
                · rw [List.length_append]; exact hnx
                · rw [List.length_append]; simp; omega
                · have := HB7.out.set 2 (.slice ao7 (ls.length + 1) cap7)
                  rw [List.length_append]
                  simpa using this
                · exact HST3.out.keep hk38 (fun i hi e => e.elim (fun e => (hsep3 i hi).2.1 e) (fun e => (hsep3 i hi).2.2 e))
                · intro k hk
                  refine ⟨(hsep3 k hk).1, (hsep3 k hk).2.1, fun e => ?_⟩
                  rw [List.length_append] at e
                  rcases HA.out.fresh with h1 | ⟨q1, h1, h2⟩
                  · exact (hsep3 k hk).2.2 (h1 ▸ e)
                  · have h3 : q1 = k := Option.some.inj (h1.symm.trans e)
                    have h4 := HST3.out.lt k hk
                    have h5 := HK34.out.size
                    have h6 := HK45.out.size
                    have h7 : w5.heap.size ≤ q1 := h2
                    omega
                · have := ownsRow_setCell HA.out.own ⟨w3.heap.size + 1, 2, none⟩ (.slice ao7 (ls.length + 1) cap7) hvne
                  simpa [strCells] using this
                · exact ownsRow_keep HBY.out hk08 (fun k e e' => e'.elim (fun e' => ownsRow_blk HBY.out HBLK.out (by decide) (e' ▸ e)) (fun e' => ownsRow_types HBY.out HOWN.out (by decide) k e e'))
                · exact HKEEP.out.trans hk08 (fun k hk e => e.elim (fun e => by have := HB.out; omega) (fun e => by have := (ownsRow_lt HOWN.out k e).1; omega))
              case measure =>
                have hct := (cutNL_true HOK.out).2
                have hrl := HRL.out
                simp [intOf]; omega
          · have hre : (re != 0) = true := by simpa using hz
            have HL := Lib.hid (show openF F D g = openEnd D (S, ls, at_) by rw [HF.out, ← HLOOP.out]; rw [openLoop_err hfuel HOK.out HRR.out hz])
            have HF := HL
            have hbw : w.heap.size ≤ w3.heap.size + 1 := by omega
            by_cases hend : at_ < D.bytes.length
            · have hlt : ((at_ : Int) < (D.bytes.length : Int)) = True := eq_true (by omega)
              obtain ⟨C, hC⟩ : ∃ C, cutF D (at_ : Int) = C := ⟨_, rfl⟩
              obtain ⟨ce, D1⟩ := C
              have HC := Lib.hid hC
              by_cases hce : ce = 0
              · subst hce
                obtain ⟨Y, hY⟩ : ∃ Y, syncF D1 = Y := ⟨_, rfl⟩
                obtain ⟨se, D2⟩ := Y
                have HY := Lib.hid hY
                have HL2 := Lib.hid (show openEnd D (S, ls, at_) = ⟨se, D2, S, ls⟩ by unfold openEnd; rw [if_pos hend]; simp only [hC, if_true, hY])
                clear hC hY
                by_cases hse : se = 0
                · subst hse
                  go_wp2_with (first
                    | (go_at_call 38; have hh := bcut_any (w := wr.alloc (.cells #[.int .u8 10] 5)) (b2 := wr.heap.size) ((HG.out.keep HKEEP.out).keep ((Keep.refl _ _).alloc _)) rfl (HRD.out.keep ((Keep.refl (fun _ => False) _).alloc _) (fun _ _ h => h)) (by rw [World.cell?_alloc_new]; rfl) (by omega); refine Calls.mono hh ?_; clear hh; rintro e w' ⟨v2, rfl, q, rfl⟩; rw [HOK.out]))
                  go_region_held3 (fun W => W.cell? ⟨w3.heap.size + 1, 1, none⟩ = some (.pointer (some ⟨V.b, 0, none⟩)) ∧ (convert 65 9 (.slice so (cutPre rest).length (bc - at_))).run Tryz.prog W = .ok (.string (bs (cutPre rest))) W)
                    ((refine HSA.out _ ?_; repeat (first | exact HKR.out | apply Keep.drew | apply Keep.drewN | apply Keep.alloc)))
                    ((go_at_call 22; have kk := ((((Keep.refl (fun _ => False) wr).alloc (.cells #[.int .u8 10] 5)).drewN q).drew); have hh := do_any (F := F) (line := bs (cutPre rest)) ((HG.out.keep HKEEP.out).keep kk) (HST.out.keep kk (fun _ _ h => h)) (HSYS.out.small _ _ hlsn HINV.out) (by simp [bs, ByteArray.size]; omega) (HSYS.out.run _ _ _ hlsn HINV.out (by simp [bs, ByteArray.size]; omega)); rw [HRR.out] at hh; refine Calls.mono hh ?_; clear hh; rintro e W3 ⟨V', rfl, hst3, hvb3, hVV, hfp3, hk3⟩; have HKR := Lib.hid (kk.trans hk3 (fun _ _ h => h)); have hB3 := HBLK.out.keep HKR.out (fun h => h); have c1 := hB3.cell 1; have f1 := hB3.free 1; simp at c1; have HB3 := Lib.hid hB3; have HST3 := Lib.hid hst3; have HVV := Lib.hid hVV; have HFP := Lib.hid hfp3; clear hst3 hvb3 hVV hfp3 hk3 kk hB3; dsimp only))
                  go_wp2_with (first
                    | (go_at_call 39; have hh := cut_any (at_ : Int) (HD.out.keep (HKEEP.out.trans HKR.out (fun _ _ h => h)) (fun h => h) (fun _ _ h => h)); rw [HC.out] at hh; dsimp only at hh; refine Calls.mono hh ?_; clear hh; rintro e W4 ⟨rfl, ⟨v1, hd1, hf1⟩, hk4⟩; have HD1 := Lib.hid hd1; have HF1 := Lib.hid hf1; have HK4 := Lib.hid hk4; clear hd1 hf1 hk4)
                    | (go_at_call 24; have hh := sync_any HD1.out; rw [HY.out] at hh; dsimp only at hh; refine Calls.mono hh ?_; clear hh; rintro e W5 ⟨rfl, ⟨v2, hd2, hf2⟩, hk5⟩; have HD2 := Lib.hid hd2; have HF2 := Lib.hid hf2; have HK5 := Lib.hid hk5; clear hd2 hf2 hk5))
                  go_ret2
                  rw [HF.out, HL2.out]
                  exact open_fin HD.out hb HB3.out (HST.out.keep HKR.out (fun _ _ h => h)) HSEP.out (ownsRow_keep HOWN.out HKR.out (fun _ _ h => h)) hbw (HKEEP.out.trans HKR.out (fun _ _ h => h)) (HK4.out.trans HK5.out (fun k hk e => e.elim .inl (fun e => HF1.out.elim (fun h => .inr (h ▸ e)) (fun ⟨g, h1, h2⟩ => by have h3 : g = k := Option.some.inj (h1.symm.trans e); omega)))) HD2.out (HF2.out.elim (fun h => HF1.out.elim (fun h' => .inl (h.trans h')) (fun ⟨g, h1, h2⟩ => .inr ⟨g, h.trans h1, h2⟩)) (fun ⟨g, h1, h2⟩ => .inr ⟨g, h1, Nat.le_trans HK4.out.size h2⟩))
                · have hse2 : (se != 0) = true := by simpa using hse
                  have hne := hse
                  go_wp2_with (first
                    | (go_at_call 38; have hh := bcut_any (w := wr.alloc (.cells #[.int .u8 10] 5)) (b2 := wr.heap.size) ((HG.out.keep HKEEP.out).keep ((Keep.refl _ _).alloc _)) rfl (HRD.out.keep ((Keep.refl (fun _ => False) _).alloc _) (fun _ _ h => h)) (by rw [World.cell?_alloc_new]; rfl) (by omega); refine Calls.mono hh ?_; clear hh; rintro e w' ⟨v2, rfl, q, rfl⟩; rw [HOK.out]))
                  go_region_held3 (fun W => W.cell? ⟨w3.heap.size + 1, 1, none⟩ = some (.pointer (some ⟨V.b, 0, none⟩)) ∧ (convert 65 9 (.slice so (cutPre rest).length (bc - at_))).run Tryz.prog W = .ok (.string (bs (cutPre rest))) W)
                    ((refine HSA.out _ ?_; repeat (first | exact HKR.out | apply Keep.drew | apply Keep.drewN | apply Keep.alloc)))
                    ((go_at_call 22; have kk := ((((Keep.refl (fun _ => False) wr).alloc (.cells #[.int .u8 10] 5)).drewN q).drew); have hh := do_any (F := F) (line := bs (cutPre rest)) ((HG.out.keep HKEEP.out).keep kk) (HST.out.keep kk (fun _ _ h => h)) (HSYS.out.small _ _ hlsn HINV.out) (by simp [bs, ByteArray.size]; omega) (HSYS.out.run _ _ _ hlsn HINV.out (by simp [bs, ByteArray.size]; omega)); rw [HRR.out] at hh; refine Calls.mono hh ?_; clear hh; rintro e W3 ⟨V', rfl, hst3, hvb3, hVV, hfp3, hk3⟩; have HKR := Lib.hid (kk.trans hk3 (fun _ _ h => h)); have hB3 := HBLK.out.keep HKR.out (fun h => h); have c1 := hB3.cell 1; have f1 := hB3.free 1; simp at c1; have HB3 := Lib.hid hB3; have HST3 := Lib.hid hst3; have HVV := Lib.hid hVV; have HFP := Lib.hid hfp3; clear hst3 hvb3 hVV hfp3 hk3 kk hB3; dsimp only))
                  go_wp2_with (first
                    | (go_at_call 39; have hh := cut_any (at_ : Int) (HD.out.keep (HKEEP.out.trans HKR.out (fun _ _ h => h)) (fun h => h) (fun _ _ h => h)); rw [HC.out] at hh; dsimp only at hh; refine Calls.mono hh ?_; clear hh; rintro e W4 ⟨rfl, ⟨v1, hd1, hf1⟩, hk4⟩; have HD1 := Lib.hid hd1; have HF1 := Lib.hid hf1; have HK4 := Lib.hid hk4; clear hd1 hf1 hk4)
                    | (go_at_call 24; have hh := sync_any HD1.out; rw [HY.out] at hh; dsimp only at hh; refine Calls.mono hh ?_; clear hh; rintro e W5 ⟨rfl, ⟨v2, hd2, hf2⟩, hk5⟩; have HD2 := Lib.hid hd2; have HF2 := Lib.hid hf2; have HK5 := Lib.hid hk5; clear hd2 hf2 hk5))
                  go_ret2
                  rw [HF.out, HL2.out]
                  exact open_err hne (HKEEP.out.trans HKR.out (fun _ _ h => h)) (HK4.out.trans HK5.out (fun k hk e => e.elim .inl (fun e => HF1.out.elim (fun h => .inr (h ▸ e)) (fun ⟨g, h1, h2⟩ => by have h3 : g = k := Option.some.inj (h1.symm.trans e); omega)))) HD2.out (HF2.out.elim (fun h => HF1.out.elim (fun h' => .inl (h.trans h')) (fun ⟨g, h1, h2⟩ => .inr ⟨g, h.trans h1, h2⟩)) (fun ⟨g, h1, h2⟩ => .inr ⟨g, h1, Nat.le_trans HK4.out.size h2⟩))
              · have hce2 : (ce != 0) = true := by simpa using hce
                have hne := hce
                have HL2 := Lib.hid (show openEnd D (S, ls, at_) = ⟨ce, D1, S, ls⟩ by unfold openEnd; rw [if_pos hend]; simp only [hC, if_neg hce])
                clear hC
                go_wp2_with (first
                  | (go_at_call 38; have hh := bcut_any (w := wr.alloc (.cells #[.int .u8 10] 5)) (b2 := wr.heap.size) ((HG.out.keep HKEEP.out).keep ((Keep.refl _ _).alloc _)) rfl (HRD.out.keep ((Keep.refl (fun _ => False) _).alloc _) (fun _ _ h => h)) (by rw [World.cell?_alloc_new]; rfl) (by omega); refine Calls.mono hh ?_; clear hh; rintro e w' ⟨v2, rfl, q, rfl⟩; rw [HOK.out]))
                go_region_held3 (fun W => W.cell? ⟨w3.heap.size + 1, 1, none⟩ = some (.pointer (some ⟨V.b, 0, none⟩)) ∧ (convert 65 9 (.slice so (cutPre rest).length (bc - at_))).run Tryz.prog W = .ok (.string (bs (cutPre rest))) W)
                  ((refine HSA.out _ ?_; repeat (first | exact HKR.out | apply Keep.drew | apply Keep.drewN | apply Keep.alloc)))
                  ((go_at_call 22; have kk := ((((Keep.refl (fun _ => False) wr).alloc (.cells #[.int .u8 10] 5)).drewN q).drew); have hh := do_any (F := F) (line := bs (cutPre rest)) ((HG.out.keep HKEEP.out).keep kk) (HST.out.keep kk (fun _ _ h => h)) (HSYS.out.small _ _ hlsn HINV.out) (by simp [bs, ByteArray.size]; omega) (HSYS.out.run _ _ _ hlsn HINV.out (by simp [bs, ByteArray.size]; omega)); rw [HRR.out] at hh; refine Calls.mono hh ?_; clear hh; rintro e W3 ⟨V', rfl, hst3, hvb3, hVV, hfp3, hk3⟩; have HKR := Lib.hid (kk.trans hk3 (fun _ _ h => h)); have hB3 := HBLK.out.keep HKR.out (fun h => h); have c1 := hB3.cell 1; have f1 := hB3.free 1; simp at c1; have HB3 := Lib.hid hB3; have HST3 := Lib.hid hst3; have HVV := Lib.hid hVV; have HFP := Lib.hid hfp3; clear hst3 hvb3 hVV hfp3 hk3 kk hB3; dsimp only))
                go_wp2_with (first
                  | (go_at_call 39; have hh := cut_any (at_ : Int) (HD.out.keep (HKEEP.out.trans HKR.out (fun _ _ h => h)) (fun h => h) (fun _ _ h => h)); rw [HC.out] at hh; dsimp only at hh; refine Calls.mono hh ?_; clear hh; rintro e W4 ⟨rfl, ⟨v1, hd1, hf1⟩, hk4⟩; have HD1 := Lib.hid hd1; have HF1 := Lib.hid hf1; have HK4 := Lib.hid hk4; clear hd1 hf1 hk4))
                go_ret2
                rw [HF.out, HL2.out]
                exact open_err hne (HKEEP.out.trans HKR.out (fun _ _ h => h)) HK4.out HD1.out HF1.out
            · have hlt : ((at_ : Int) < (D.bytes.length : Int)) = False := eq_false (by omega)
              obtain ⟨Y, hY⟩ : ∃ Y, syncF D = Y := ⟨_, rfl⟩
              obtain ⟨se, D2⟩ := Y
              have HY := Lib.hid hY
              have HL2 := Lib.hid (show openEnd D (S, ls, at_) = ⟨se, D2, S, ls⟩ by unfold openEnd; rw [if_neg hend]; simp only [hY])
              clear hY
              by_cases hse : se = 0
              · subst hse
                go_wp2_with (first
                  | (go_at_call 38; have hh := bcut_any (w := wr.alloc (.cells #[.int .u8 10] 5)) (b2 := wr.heap.size) ((HG.out.keep HKEEP.out).keep ((Keep.refl _ _).alloc _)) rfl (HRD.out.keep ((Keep.refl (fun _ => False) _).alloc _) (fun _ _ h => h)) (by rw [World.cell?_alloc_new]; rfl) (by omega); refine Calls.mono hh ?_; clear hh; rintro e w' ⟨v2, rfl, q, rfl⟩; rw [HOK.out]))
                go_region_held3 (fun W => W.cell? ⟨w3.heap.size + 1, 1, none⟩ = some (.pointer (some ⟨V.b, 0, none⟩)) ∧ (convert 65 9 (.slice so (cutPre rest).length (bc - at_))).run Tryz.prog W = .ok (.string (bs (cutPre rest))) W)
                  ((refine HSA.out _ ?_; repeat (first | exact HKR.out | apply Keep.drew | apply Keep.drewN | apply Keep.alloc)))
                  ((go_at_call 22; have kk := ((((Keep.refl (fun _ => False) wr).alloc (.cells #[.int .u8 10] 5)).drewN q).drew); have hh := do_any (F := F) (line := bs (cutPre rest)) ((HG.out.keep HKEEP.out).keep kk) (HST.out.keep kk (fun _ _ h => h)) (HSYS.out.small _ _ hlsn HINV.out) (by simp [bs, ByteArray.size]; omega) (HSYS.out.run _ _ _ hlsn HINV.out (by simp [bs, ByteArray.size]; omega)); rw [HRR.out] at hh; refine Calls.mono hh ?_; clear hh; rintro e W3 ⟨V', rfl, hst3, hvb3, hVV, hfp3, hk3⟩; have HKR := Lib.hid (kk.trans hk3 (fun _ _ h => h)); have hB3 := HBLK.out.keep HKR.out (fun h => h); have c1 := hB3.cell 1; have f1 := hB3.free 1; simp at c1; have HB3 := Lib.hid hB3; have HST3 := Lib.hid hst3; have HVV := Lib.hid hVV; have HFP := Lib.hid hfp3; clear hst3 hvb3 hVV hfp3 hk3 kk hB3; dsimp only))
                go_wp2_with (first
                  | (go_at_call 24; have hh := sync_any (HD.out.keep (HKEEP.out.trans HKR.out (fun _ _ h => h)) (fun h => h) (fun _ _ h => h)); rw [HY.out] at hh; dsimp only at hh; refine Calls.mono hh ?_; clear hh; rintro e W5 ⟨rfl, ⟨v2, hd2, hf2⟩, hk5⟩; have HD2 := Lib.hid hd2; have HF2 := Lib.hid hf2; have HK5 := Lib.hid hk5; clear hd2 hf2 hk5))
                go_ret2
                rw [HF.out, HL2.out]
                exact open_fin HD.out hb HB3.out (HST.out.keep HKR.out (fun _ _ h => h)) HSEP.out (ownsRow_keep HOWN.out HKR.out (fun _ _ h => h)) hbw (HKEEP.out.trans HKR.out (fun _ _ h => h)) HK5.out HD2.out HF2.out
              · have hse2 : (se != 0) = true := by simpa using hse
                have hne := hse
                go_wp2_with (first
                  | (go_at_call 38; have hh := bcut_any (w := wr.alloc (.cells #[.int .u8 10] 5)) (b2 := wr.heap.size) ((HG.out.keep HKEEP.out).keep ((Keep.refl _ _).alloc _)) rfl (HRD.out.keep ((Keep.refl (fun _ => False) _).alloc _) (fun _ _ h => h)) (by rw [World.cell?_alloc_new]; rfl) (by omega); refine Calls.mono hh ?_; clear hh; rintro e w' ⟨v2, rfl, q, rfl⟩; rw [HOK.out]))
                go_region_held3 (fun W => W.cell? ⟨w3.heap.size + 1, 1, none⟩ = some (.pointer (some ⟨V.b, 0, none⟩)) ∧ (convert 65 9 (.slice so (cutPre rest).length (bc - at_))).run Tryz.prog W = .ok (.string (bs (cutPre rest))) W)
                  ((refine HSA.out _ ?_; repeat (first | exact HKR.out | apply Keep.drew | apply Keep.drewN | apply Keep.alloc)))
                  ((go_at_call 22; have kk := ((((Keep.refl (fun _ => False) wr).alloc (.cells #[.int .u8 10] 5)).drewN q).drew); have hh := do_any (F := F) (line := bs (cutPre rest)) ((HG.out.keep HKEEP.out).keep kk) (HST.out.keep kk (fun _ _ h => h)) (HSYS.out.small _ _ hlsn HINV.out) (by simp [bs, ByteArray.size]; omega) (HSYS.out.run _ _ _ hlsn HINV.out (by simp [bs, ByteArray.size]; omega)); rw [HRR.out] at hh; refine Calls.mono hh ?_; clear hh; rintro e W3 ⟨V', rfl, hst3, hvb3, hVV, hfp3, hk3⟩; have HKR := Lib.hid (kk.trans hk3 (fun _ _ h => h)); have hB3 := HBLK.out.keep HKR.out (fun h => h); have c1 := hB3.cell 1; have f1 := hB3.free 1; simp at c1; have HB3 := Lib.hid hB3; have HST3 := Lib.hid hst3; have HVV := Lib.hid hVV; have HFP := Lib.hid hfp3; clear hst3 hvb3 hVV hfp3 hk3 kk hB3; dsimp only))
                go_wp2_with (first
                  | (go_at_call 24; have hh := sync_any (HD.out.keep (HKEEP.out.trans HKR.out (fun _ _ h => h)) (fun h => h) (fun _ _ h => h)); rw [HY.out] at hh; dsimp only at hh; refine Calls.mono hh ?_; clear hh; rintro e W5 ⟨rfl, ⟨v2, hd2, hf2⟩, hk5⟩; have HD2 := Lib.hid hd2; have HF2 := Lib.hid hf2; have HK5 := Lib.hid hk5; clear hd2 hf2 hk5))
                go_ret2
                rw [HF.out, HL2.out]
                exact open_err hne (HKEEP.out.trans HKR.out (fun _ _ h => h)) HK5.out HD2.out HF2.out
end Go.Proofs.YtkkjonkcjlnohaaGreatDoor

/- The laws' own disks, path, graph, and awake: a new house takes a lot. -/
namespace Go.Proofs.YtkkjonkcjlnohaaGreatDoor
set_option linter.unusedSimpArgs false
set_option linter.unusedVariables false
set_option linter.unnecessarySimpa false
open Go.RowKit

theorem Rd.takeN {w : World} {ao : Option Addr} {n c : Nat} {xs : List Value} (h : Rd w 1 (.slice ao n c) n xs) (k : Nat) (hk : k ≤ n) : Rd w 1 (.slice ao k c) k (xs.take k) := by
  refine ⟨by have := h.1; rw [List.length_take]; omega, fun u hu => h.2.1 u (List.mem_of_mem_take hu), ?_⟩
  rcases h.2.2 with ⟨e, h0⟩ | ⟨b, o, c', e, h1, h2, hx⟩
  · injection e with e1 e2 e3
    subst e1 e3
    have : k = 0 := by omega
    subst this
    exact .inl ⟨rfl, rfl⟩
  · injection e with e1 e2 e3
    subst e1 e3
    refine .inr ⟨b, o, c, rfl, by omega, h2, fun j u hu => hx j u ?_⟩
    rw [List.getElem?_take] at hu
    split at hu
    · exact hu
    · cases hu
theorem enters399 : Enters 399 := enters_of Tryz.func399 (by kernel_rfl) rfl
end Go.Proofs.YtkkjonkcjlnohaaGreatDoor

/- All six commands as one function, and what they keep. -/
namespace Go.Proofs.YtkkjonkcjlnohaaGreatDoor
set_option linter.unusedSimpArgs false
set_option linter.unusedVariables false
set_option linter.unnecessarySimpa false
open Go.RowKit

def runF (f : Nat) (S : St) (a : FA) : Res :=
  if f = 399 then takeF S a else if f = 400 then blendF S a else if f = 401 then putF S a else if f = 402 then touchF S a else if f = 403 then testF S a else shutF S a

def numB (n : Int) : Prop := 0 ≤ n ∧ n ≤ 9223372036854775807
/-- What a line that is a change says. -/
inductive Said (f : Nat) (a : FA) : Prop where
  | take (h : f = 399) (n : Int) (w : ByteArray) (e : a = ⟨[n], w, true⟩) (hn : numB n) (hw : w.size ≤ 8)
  | blend (h : f = 400) (i j q : Int) (e : a = ⟨[i, j, q], bs [], true⟩) (hi : numB i) (hj : numB j) (hq : numB q)
  | put (h : f = 401) (i b : Int) (e : a = ⟨[i, b], bs [], true⟩) (hi : numB i) (hb : numB b)
  | touch (h : f = 402) (i j : Int) (e : a = ⟨[i, j], bs [], true⟩) (hi : numB i) (hj : numB j)
  | test (h : f = 403) (i : Int) (w : ByteArray) (e : a = ⟨[i], w, true⟩) (hi : numB i) (hw : w = goodB ∨ w = badBs)
  | close (h : f = 404) (i : Int) (e : a = ⟨[i], bs [], true⟩) (hi : numB i)

theorem step_d (a : FA) (w : ByteArray) : (stepF a (100, w)).n = a.n ++ [atoiN w] ∧ (stepF a (100, w)).word = a.word ∧ ((stepF a (100, w)).ok = true → a.ok = true ∧ numB (atoiN w)) := by
  refine ⟨rfl, rfl, fun h => ?_⟩
  have h' : (a.ok && atoiOk w && decide (w.size ≤ 6) && decide (0 ≤ atoiN w) && decide (itoaB (atoiN w) = w)) = true := h
  simp only [Bool.and_eq_true, decide_eq_true_eq] at h'
  exact ⟨h'.1.1.1.1, h'.1.2, (atoiN_bounds w).2⟩
theorem step_s (a : FA) (w : ByteArray) : (stepF a (115, w)).n = a.n ∧ (stepF a (115, w)).word = w ∧ ((stepF a (115, w)).ok = true → a.ok = true ∧ w.size ≤ 8) := by
  refine ⟨rfl, rfl, fun h => ?_⟩
  have h' : (a.ok && isSpiceB w) = true := h
  unfold isSpiceB at h'
  simp only [Bool.and_eq_true, decide_eq_true_eq] at h'
  exact ⟨h'.1, h'.2.1⟩
theorem step_t (a : FA) (w : ByteArray) : (stepF a (116, w)).n = a.n ∧ (stepF a (116, w)).word = w ∧ ((stepF a (116, w)).ok = true → a.ok = true ∧ (w = goodB ∨ w = badBs)) := by
  refine ⟨rfl, rfl, fun h => ?_⟩
  have h' : (a.ok && (decide (w = goodB) || decide (w = badBs))) = true := h
  simp only [Bool.and_eq_true, Bool.or_eq_true, decide_eq_true_eq] at h'
  exact h'
theorem FA.mk3 {a : FA} {n : List Int} {w : ByteArray} (h1 : a.n = n) (h2 : a.word = w) (h3 : a.ok = true) : a = ⟨n, w, true⟩ := by
  obtain ⟨x, y, z⟩ := a
  simp only at h1 h2 h3
  subst h1 h2 h3
  rfl
theorem fold_1 {c : UInt8} {ws : List ByteArray} (h : ws.length = 1) : ∃ w, foldF [c] ws = stepF ⟨[], bs [], true⟩ (c, w) := by
  match ws, h with
  | [w], _ => exact ⟨w, rfl⟩
theorem fold_2 {c d : UInt8} {ws : List ByteArray} (h : ws.length = 2) : ∃ w x, foldF [c, d] ws = stepF (stepF ⟨[], bs [], true⟩ (c, w)) (d, x) := by
  match ws, h with
  | [w, x], _ => exact ⟨w, x, rfl⟩
theorem fold_3 {c d e : UInt8} {ws : List ByteArray} (h : ws.length = 3) : ∃ w x y, foldF [c, d, e] ws = stepF (stepF (stepF ⟨[], bs [], true⟩ (c, w)) (d, x)) (e, y) := by
  match ws, h with
  | [w, x, y], _ => exact ⟨w, x, y, rfl⟩
theorem said_of {line : ByteArray} {so : List UInt8} {f : Nat} {a : FA} (h : formF line = some (so, f, a)) (hok : a.ok = true) : Said f a := by
  unfold formF at h
  split at h
  · split at h
    · rename_i so' f' hch
      split at h
      · rename_i hlen
        simp only [Option.some.injEq, Prod.mk.injEq] at h
        obtain ⟨rfl, rfl, rfl⟩ := h
        have htl : (words line).tail.length = so'.length := by rw [List.length_tail]; exact hlen
        unfold chF at hch
        repeat' split at hch
        all_goals first | (cases hch; done) | (simp only [Option.some.injEq, Prod.mk.injEq] at hch; obtain ⟨rfl, rfl⟩ := hch)
        · obtain ⟨w, x, e⟩ := fold_2 (c := 115) (d := 100) htl
          rw [e] at hok ⊢
          obtain ⟨a1, a2, a3⟩ := step_s ⟨[], bs [], true⟩ w
          obtain ⟨b1, b2, b3⟩ := step_d (stepF ⟨[], bs [], true⟩ (115, w)) x
          exact .take rfl _ _ (FA.mk3 (b1.trans (by rw [a1]; rfl)) (b2.trans a2) hok) (b3 hok).2 (a3 (b3 hok).1).2
        · obtain ⟨w, x, y, e⟩ := fold_3 (c := 100) (d := 100) (e := 100) htl
          rw [e] at hok ⊢
          obtain ⟨a1, a2, a3⟩ := step_d ⟨[], bs [], true⟩ w
          obtain ⟨b1, b2, b3⟩ := step_d (stepF ⟨[], bs [], true⟩ (100, w)) x
          obtain ⟨c1, c2, c3⟩ := step_d (stepF (stepF ⟨[], bs [], true⟩ (100, w)) (100, x)) y
          exact .blend rfl _ _ _ (FA.mk3 (c1.trans (by rw [b1, a1]; rfl)) (c2.trans (b2.trans a2)) hok) (a3 (b3 (c3 hok).1).1).2 (b3 (c3 hok).1).2 (c3 hok).2
        · obtain ⟨w, x, e⟩ := fold_2 (c := 100) (d := 100) htl
          rw [e] at hok ⊢
          obtain ⟨a1, a2, a3⟩ := step_d ⟨[], bs [], true⟩ w
          obtain ⟨b1, b2, b3⟩ := step_d (stepF ⟨[], bs [], true⟩ (100, w)) x
          exact .put rfl _ _ (FA.mk3 (b1.trans (by rw [a1]; rfl)) (b2.trans a2) hok) (a3 (b3 hok).1).2 (b3 hok).2
        · obtain ⟨w, x, e⟩ := fold_2 (c := 100) (d := 100) htl
          rw [e] at hok ⊢
          obtain ⟨a1, a2, a3⟩ := step_d ⟨[], bs [], true⟩ w
          obtain ⟨b1, b2, b3⟩ := step_d (stepF ⟨[], bs [], true⟩ (100, w)) x
          exact .touch rfl _ _ (FA.mk3 (b1.trans (by rw [a1]; rfl)) (b2.trans a2) hok) (a3 (b3 hok).1).2 (b3 hok).2
        · obtain ⟨w, x, e⟩ := fold_2 (c := 100) (d := 116) htl
          rw [e] at hok ⊢
          obtain ⟨a1, a2, a3⟩ := step_d ⟨[], bs [], true⟩ w
          obtain ⟨b1, b2, b3⟩ := step_t (stepF ⟨[], bs [], true⟩ (100, w)) x
          exact .test rfl _ _ (FA.mk3 (b1.trans a1) b2 hok) (a3 (b3 hok).1).2 (b3 hok).2
        · obtain ⟨w, e⟩ := fold_1 (c := 100) htl
          rw [e] at hok ⊢
          obtain ⟨a1, a2, a3⟩ := step_d ⟨[], bs [], true⟩ w
          exact .close rfl _ (FA.mk3 (a1.trans rfl) a2 hok) (a3 hok).2
      · cases h
    · cases h
  · cases h

theorem enters400 : Enters 400 := enters_of Tryz.func400 (by kernel_rfl) rfl
theorem enters401 : Enters 401 := enters_of Tryz.func401 (by kernel_rfl) rfl
theorem enters402 : Enters 402 := enters_of Tryz.func402 (by kernel_rfl) rfl
theorem enters403 : Enters 403 := enters_of Tryz.func403 (by kernel_rfl) rfl
theorem enters404 : Enters 404 := enters_of Tryz.func404 (by kernel_rfl) rfl

structure Lot.ok (x : Lot) : Prop where
  s : x.spice.size ≤ 8
  g : i64b x.grams
  b : -1 ≤ x.bay ∧ x.bay ≤ 7
structure Inv (k : Nat) (S : St) : Prop where
  b : S.bays.length = 8
  l : S.lots.length ≤ 20
  c : S.contacts.length ≤ 2 * k
  t : S.tests.length ≤ k
  n : S.notes.length ≤ 2 * k
  lo : ∀ x ∈ S.lots, x.ok
  no : ∀ x ∈ S.notes, x.size ≤ 100
theorem Inv.small {k : Nat} {S : St} (h : Inv k S) (hk : k ≤ 100000000) : S.small := ⟨by have := h.l; omega, by have := h.c; omega, by have := h.t; omega, by have := h.n; omega⟩
theorem Inv.mono {k k' : Nat} {S : St} (h : Inv k S) (hk : k ≤ k') : Inv k' S := ⟨h.b, h.l, by have := h.c; omega, by have := h.t; omega, by have := h.n; omega, h.lo, h.no⟩

theorem run_ok {k : Nat} {S : St} (h : Inv k S) (hk : k ≤ 100000000) (line : ByteArray) : RunOK runF S line := by
  intro so f a hf hok
  have hs := h.small hk
  have hl := h.l
  have hc := h.c
  have hn := h.n
  cases said_of hf hok with
  | take e n w ha hn hw => subst e ha; exact ⟨enters399, fun base w V vn hG ho hA => take_any hG ho hl hA rfl⟩
  | blend e i j q ha hi hj hq => subst e ha; exact ⟨enters400, fun base w V vn hG ho hA => blend_any hG ho hs (by omega) (by omega) hl hA rfl (by simp; exact ⟨⟨by have := hi.1; omega, hi.2⟩, ⟨by have := hj.1; omega, hj.2⟩, ⟨by have := hq.1; omega, hq.2⟩⟩)⟩
  | put e i b ha hi hb => subst e ha; exact ⟨enters401, fun base w V vn hG ho hA => put_any hG ho hs h.b hA rfl (by simp; exact ⟨hi, hb⟩)⟩
  | touch e i j ha hi hj => subst e ha; exact ⟨enters402, fun base w V vn hG ho hA => touch_any hG ho hs hA rfl (by simp; exact ⟨⟨by have := hi.1; omega, hi.2⟩, ⟨by have := hj.1; omega, hj.2⟩⟩)⟩
  | test e i w ha hi hw => subst e ha; exact ⟨enters403, fun base w' V vn hG ho hA => test_any hG ho hs hA rfl (by simp; exact ⟨by have := hi.1; omega, hi.2⟩) (by rcases hw with e | e <;> subst e <;> simp [goodB, badBs, bs, ByteArray.size])⟩
  | close e i ha hi => subst e ha; exact ⟨enters404, fun base w V vn hG ho hA => shut_any hG ho hs hA rfl⟩
end Go.Proofs.YtkkjonkcjlnohaaGreatDoor

/- What Open makes of the lines of a journal, with a beginning of one more line behind them: plain Lean. -/
namespace Go.Proofs.YtkkjonkcjlnohaaGreatDoor
set_option linter.unusedSimpArgs false
set_option linter.unusedVariables false
set_option linter.unnecessarySimpa false
open Go.RowKit

theorem index_nl : ∀ (a r : List UInt8), (10 : UInt8) ∉ a → Lib.index (a ++ 10 :: r) [10] = a.length := by
  intro a
  induction a with
  | nil => intro r _; simp [Lib.index]
  | cons x a ih =>
    intro r h
    simp only [List.mem_cons, not_or] at h
    show (if [10].isPrefixOf (x :: (a ++ 10 :: r)) then (0 : Int) else if Lib.index (a ++ 10 :: r) [10] == -1 then -1 else Lib.index (a ++ 10 :: r) [10] + 1) = _
    rw [ih r h.2]
    have h1 : ([10] : List UInt8).isPrefixOf (x :: (a ++ 10 :: r)) = false := by show ((10 : UInt8) == x && _) = false; rw [beq_eq_false_iff_ne.2 h.1]; rfl
    rw [h1]
    have h2 : ((a.length : Int) == -1) = false := beq_eq_false_iff_ne.2 (by omega)
    rw [h2]
    simp
theorem index_nonl : ∀ (a : List UInt8), (10 : UInt8) ∉ a → Lib.index a [10] = -1 := by
  intro a
  induction a with
  | nil => intro _; simp [Lib.index]
  | cons x a ih =>
    intro h
    simp only [List.mem_cons, not_or] at h
    show (if [10].isPrefixOf (x :: a) then (0 : Int) else if Lib.index a [10] == -1 then -1 else Lib.index a [10] + 1) = _
    rw [ih h.2]
    have h1 : ([10] : List UInt8).isPrefixOf (x :: a) = false := by show ((10 : UInt8) == x && _) = false; rw [beq_eq_false_iff_ne.2 h.1]; rfl
    rw [h1]
    simp
theorem cutNL_at (a r : List UInt8) (h : (10 : UInt8) ∉ a) : cutNL (a ++ 10 :: r) = some (a, r) := by
  unfold cutNL
  rw [index_nl a r h, if_pos (by omega)]
  simp
theorem cutNL_no (a : List UInt8) (h : (10 : UInt8) ∉ a) : cutNL a = none := by
  unfold cutNL
  rw [index_nonl a h, if_neg (by omega)]

theorem line_no10 {s : ByteArray} (h : isLineB s = true) : (10 : UInt8) ∉ s.data.toList := by
  unfold isLineB at h
  simp only [Bool.and_eq_true, Bool.not_eq_true', decide_eq_true_eq] at h
  intro hm
  have := List.any_eq_false.1 h.2.2 10 hm
  exact this (by decide)
theorem doF_line {F : Nat → St → FA → Res} {S : St} {s : ByteArray} (h : (doF F S s).err = 0) : isLineB s = true := by
  unfold doF formF at h
  by_cases hl : isLineB s = true
  · exact hl
  · simp [hl] at h
theorem doF_no10 {F : Nat → St → FA → Res} {S : St} {s : ByteArray} (h : (doF F S s).err = 0) : (10 : UInt8) ∉ s.data.toList := line_no10 (doF_line h)

/-- The bytes of lines. -/
def cat (ls : List ByteArray) : List UInt8 := ls.flatMap (fun l => l.data.toList ++ [10])
theorem cat_snoc (ls : List ByteArray) (s : ByteArray) : cat (ls ++ [s]) = cat ls ++ (s.data.toList ++ [10]) := by simp [cat]
/-- Lines that are done one after another, each without error. -/
inductive Rep (F : Nat → St → FA → Res) : St → List ByteArray → St → Prop
  | nil (S : St) : Rep F S [] S
  | cons {S S' : St} {s : ByteArray} {ls : List ByteArray} (h : (doF F S s).err = 0) (t : Rep F (doF F S s).st ls S') : Rep F S (s :: ls) S'
theorem Rep.snoc {F : Nat → St → FA → Res} {S S' : St} {ls : List ByteArray} (h : Rep F S ls S') {s : ByteArray} (hs : (doF F S' s).err = 0) : Rep F S (ls ++ [s]) (doF F S' s).st := by
  induction h with
  | nil S => exact .cons hs (.nil _)
  | cons h t ih => exact .cons h (ih hs)
theorem cat_length_ge {F : Nat → St → FA → Res} {S S' : St} {ls : List ByteArray} (h : Rep F S ls S') : ls.length ≤ (cat ls).length := by
  induction h with
  | nil S => simp
  | cons h t ih => simp only [cat, List.flatMap_cons, List.length_append, List.length_cons, List.length_nil] at ih ⊢; omega
theorem cat_length_le {F : Nat → St → FA → Res} {S S' : St} {ls : List ByteArray} (h : Rep F S ls S') : (cat ls).length ≤ 201 * ls.length := by
  induction h with
  | nil S => simp [cat]
  | @cons S S' s ls h t ih =>
    have h1 := doF_size h
    have h2 : s.data.toList.length = s.size := by simp
    simp only [cat, List.flatMap_cons, List.length_append, List.length_cons, List.length_nil] at ih ⊢
    omega
theorem bs_list (s : ByteArray) : bs s.data.toList = s := ByteArray.ext (by simp [bs])
/-- The loop of Open over lines of which each can be done. -/
theorem openLoop_cat {F : Nat → St → FA → Res} {S S' : St} {ls : List ByteArray} (h : Rep F S ls S') : ∀ (p : List UInt8) (acc : List ByteArray) (at_ fuel : Nat), ls.length ≤ fuel →
    openLoop F fuel (cat ls ++ p) S acc at_ = openLoop F (fuel - ls.length) p S' (acc ++ ls) (at_ + (cat ls).length) := by
  induction h with
  | nil S => intro p acc at_ fuel hf; simp [cat]
  | @cons S S' s ls h t ih =>
    intro p acc at_ fuel hf
    simp only [List.length_cons] at hf
    obtain ⟨k, rfl⟩ : ∃ k, fuel = k + 1 := ⟨fuel - 1, by omega⟩
    have e : cat (s :: ls) ++ p = s.data.toList ++ 10 :: (cat ls ++ p) := by simp [cat]
    rw [e]
    show (match cutNL (s.data.toList ++ 10 :: (cat ls ++ p)) with | none => (S, acc, at_) | some (a, b) => if (doF F S (bs a)).err = 0 then openLoop F k b (doF F S (bs a)).st (acc ++ [bs a]) (at_ + (a.length + 1)) else (S, acc, at_)) = _
    rw [cutNL_at _ _ (doF_no10 h)]
    simp only [bs_list, h, if_true]
    rw [ih p _ _ k (by omega)]
    simp only [List.length_cons, List.append_assoc, List.cons_append, List.nil_append]
    congr 1
    · omega
    · simp only [cat, List.flatMap_cons, List.length_append, List.length_cons, List.length_nil]
      omega
theorem openLoop_end {F : Nat → St → FA → Res} {S : St} {acc : List ByteArray} {at_ fuel : Nat} {p : List UInt8} (hp : (10 : UInt8) ∉ p) : openLoop F fuel p S acc at_ = (S, acc, at_) := by
  cases fuel with
  | zero => rfl
  | succ k =>
    show (match cutNL p with | none => (S, acc, at_) | some (a, b) => _) = _
    rw [cutNL_no _ hp]
/-- All lines, and nothing behind them. -/
theorem openLoop_all {F : Nat → St → FA → Res} {S S' : St} {ls : List ByteArray} (h : Rep F S ls S') {fuel : Nat} (hf : ls.length ≤ fuel) : openLoop F fuel (cat ls) S [] 0 = (S', ls, (cat ls).length) := by
  have := openLoop_cat h [] [] 0 fuel hf
  rw [List.append_nil] at this
  rw [this, openLoop_end (by simp)]
  simp
/-- A disk that has power, and the bytes of lines, all of them safe. -/
structure Good (g : List Int) (D : Dsk) (S : St) (ls : List ByteArray) : Prop where
  rep : Rep runF (S0 g) ls S
  off : D.off = false
  size : D.size = 200000
  bytes : D.bytes = cat ls
  safe : D.safe = (cat ls).length
end Go.Proofs.YtkkjonkcjlnohaaGreatDoor

/- What the commands keep of a state; the system of commands. -/
namespace Go.Proofs.YtkkjonkcjlnohaaGreatDoor
set_option linter.unusedSimpArgs false
set_option linter.unusedVariables false
set_option linter.unnecessarySimpa false
open Go.RowKit

theorem size_bs (l : List UInt8) : (bs l).size = l.length := by simp [bs, ByteArray.size]
theorem touchNote_size {i j : Int} (hi : i64b i) (hj : i64b j) : (touchNote i j).size ≤ 100 := by
  have h1 := itoaB_size i hi.1 hi.2
  have h2 := itoaB_size j hj.1 hj.2
  unfold touchNote
  simp only [ByteArray.size_append, size_bs, List.length_cons, List.length_nil]
  omega
theorem testNote_size {i : Int} {w : ByteArray} (hi : i64b i) (hw : w.size ≤ 10) : (testNote i w).size ≤ 100 := by
  have h1 := itoaB_size i hi.1 hi.2
  unfold testNote
  simp only [ByteArray.size_append, size_bs, List.length_cons, List.length_nil]
  omega
theorem Inv.touch {k : Nat} {S : St} {i j : Int} (h : Inv k S) (hi : i64b i) (hj : i64b j) {c n : Nat} (hc : S.contacts.length ≤ c) (hn : S.notes.length ≤ n) :
    (touchS S i j).contacts.length ≤ c + 1 ∧ (touchS S i j).notes.length ≤ n + 1 ∧ ∀ x ∈ (touchS S i j).notes, x.size ≤ 100 := by
  refine ⟨by simp [touchS]; omega, by simp [touchS]; omega, fun x hx => ?_⟩
  simp only [touchS, List.mem_append, List.mem_singleton] at hx
  rcases hx with e | e
  · exact h.no x e
  · rw [e]; exact touchNote_size hi hj
theorem wrap_i64b (x : Int) : i64b (wrap64 x) := by unfold i64b wrap64; omega
theorem Lot.ok_set {l : List Lot} (h : ∀ x ∈ l, x.ok) {i : Nat} {y : Lot} (hy : y.ok) : ∀ x ∈ l.set i y, x.ok := fun x hx => (List.mem_or_eq_of_mem_set hx).elim (h x) (fun e => e ▸ hy)
theorem numB.b {n : Int} (h : numB n) : i64b n := ⟨by have := h.1; omega, h.2⟩

theorem inv_next {k : Nat} {S : St} (h : Inv k S) {line : ByteArray} (he : (doF runF S line).err = 0) : Inv (k + 1) (doF runF S line).st := by
  unfold doF at he ⊢
  cases hf : formF line with
  | none => rw [hf] at he; cases he
  | some x =>
    obtain ⟨so, f, a⟩ := x
    rw [hf] at he
    simp only at he ⊢
    cases hok : a.ok with
    | false => rw [hok] at he; cases he
    | true =>
      rw [hok] at he
      simp only [if_true] at he ⊢
      have hs := said_of hf hok
      by_cases hz : (runF f S a).err = 0
      · rw [if_pos hz]
        clear he
        cases hs with
        | take e n w ha hn hw =>
          subst e ha
          change (takeF S ⟨[n], w, true⟩).err = 0 at hz
          change Inv (k + 1) (takeF S ⟨[n], w, true⟩).st
          unfold takeF at hz ⊢
          by_cases h1 : S.lots.length = 20
          · rw [if_pos h1] at hz; cases hz
          rw [if_neg h1] at hz ⊢
          by_cases h2 : (FA.mk [n] w true).n.headD 0 = 0
          · rw [if_pos h2] at hz; cases hz
          rw [if_neg h2]
          refine ⟨h.b, by have := h.l; simp [addS]; omega, by have := h.c; simp only [addS]; omega, by have := h.t; simp only [addS]; omega, by have := h.n; simp only [addS]; omega, fun x hx => ?_, h.no⟩
          simp only [addS, List.mem_append, List.mem_singleton] at hx
          rcases hx with e | e
          · exact h.lo x e
          · rw [e]; exact ⟨hw, hn.b, by simp⟩
        | blend e i j q ha hi hj hq =>
          subst e ha
          change (blendF S ⟨[i, j, q], bs [], true⟩).err = 0 at hz
          change Inv (k + 1) (blendF S ⟨[i, j, q], bs [], true⟩).st
          unfold blendF at hz ⊢
          simp only [List.getD_cons_zero, List.getD_cons_succ] at hz ⊢
          by_cases h1 : S.lots.length = 20
          · rw [if_pos h1] at hz; cases hz
          rw [if_neg h1] at hz ⊢
          by_cases h2 : allLots S [i, j] = true
          · rw [if_pos h2] at hz ⊢
            by_cases h3 : i = j ∨ q = 0
            · rw [if_pos h3] at hz; cases hz
            rw [if_neg h3] at hz ⊢
            cases hx : S.lots[(i - 1).toNat]? with
            | none => rw [hx] at hz; cases hz
            | some x =>
              cases hy : S.lots[(j - 1).toNat]? with
              | none => rw [hx, hy] at hz; cases hz
              | some y =>
                rw [hx, hy] at hz
                simp only at hz ⊢
                by_cases h4 : (x.closed || (y.closed || decide (min x.grams y.grams < q))) = true
                · rw [if_pos h4] at hz; cases hz
                rw [if_neg h4]
                have hxo := h.lo x (List.mem_of_getElem? hx)
                have hyo := h.lo y (List.mem_of_getElem? hy)
                have hL : i64b ((S.lots.length : Int) + 1) := by have := h.l; unfold i64b; omega
                have hc := h.c
                have hn := h.n
                refine ⟨h.b, ?_, ?_, by have := h.t; show S.tests.length ≤ k + 1; omega, ?_, ?_, ?_⟩
                · have := h.l
                  simp [blendT, touchS, addS, blendS]; omega
                · simp [blendT, touchS, addS, blendS]; omega
                · simp [blendT, touchS, addS, blendS]; omega
                · intro z hz'
                  simp only [blendT, touchS, addS, List.mem_append, List.mem_singleton] at hz'
                  rcases hz' with e | e
                  · exact Lot.ok_set (y := { y with grams := wrap64 (y.grams - q) }) (Lot.ok_set (y := { x with grams := wrap64 (x.grams - q) }) h.lo ⟨hxo.s, wrap_i64b _, hxo.b⟩) ⟨hyo.s, wrap_i64b _, hyo.b⟩ z e
                  · rw [e]; exact ⟨by simp only [size_bs]; decide, wrap_i64b _, by simp⟩
                · intro z hz'
                  simp only [blendT, touchS, addS, blendS, List.mem_append, List.mem_singleton] at hz'
                  rcases hz' with (e | e) | e
                  · exact h.no z e
                  · rw [e]; exact touchNote_size hL hi.b
                  · rw [e]; exact touchNote_size hL hj.b
          · rw [if_neg h2] at hz; cases hz
        | put e i b ha hi hb =>
          subst e ha
          change (putF S ⟨[i, b], bs [], true⟩).err = 0 at hz
          change Inv (k + 1) (putF S ⟨[i, b], bs [], true⟩).st
          unfold putF at hz ⊢
          simp only [List.getD_cons_zero, List.getD_cons_succ] at hz ⊢
          by_cases h1 : hasLot S i = true
          · rw [if_pos h1] at hz ⊢
            by_cases h2 : 7 < b
            · rw [if_pos h2] at hz; cases hz
            rw [if_neg h2] at hz ⊢
            cases hx : S.lots[(i - 1).toNat]? with
            | none => rw [hx] at hz; cases hz
            | some x =>
              rw [hx] at hz
              simp only at hz ⊢
              by_cases h3 : x.closed = true
              · rw [if_pos h3] at hz; cases hz
              rw [if_neg h3] at hz ⊢
              by_cases h4 : (List.range S.lots.length).any (clashAt S i b x) = true
              · rw [if_pos h4] at hz; cases hz
              rw [if_neg h4]
              have hxo := h.lo x (List.mem_of_getElem? hx)
              exact ⟨h.b, by have := h.l; simp; omega, by have := h.c; simp only; omega, by have := h.t; simp only; omega, by have := h.n; simp only; omega, Lot.ok_set h.lo ⟨hxo.s, hxo.g, by have := hb.1; simp only; omega⟩, h.no⟩
          · rw [if_neg h1] at hz; cases hz
        | touch e i j ha hi hj =>
          subst e ha
          change (touchF S ⟨[i, j], bs [], true⟩).err = 0 at hz
          change Inv (k + 1) (touchF S ⟨[i, j], bs [], true⟩).st
          unfold touchF at hz ⊢
          simp only [List.getD_cons_zero, List.getD_cons_succ] at hz ⊢
          by_cases h1 : allLots S [i, j] = true
          · rw [if_pos h1] at hz ⊢
            by_cases h2 : i = j
            · rw [if_pos h2] at hz; cases hz
            rw [if_neg h2]
            obtain ⟨t1, t2, t3⟩ := h.touch hi.b hj.b h.c h.n
            exact ⟨h.b, h.l, by simp only; omega, by have := h.t; show S.tests.length ≤ k + 1; omega, by simp only; omega, h.lo, t3⟩
          · rw [if_neg h1] at hz; cases hz
        | test e i w ha hi hw =>
          subst e ha
          change (testF S ⟨[i], w, true⟩).err = 0 at hz
          change Inv (k + 1) (testF S ⟨[i], w, true⟩).st
          unfold testF at hz ⊢
          simp only [List.getD_cons_zero, List.getD_cons_succ] at hz ⊢
          have hwz : w.size ≤ 10 := by rcases hw with e | e <;> rw [e] <;> simp [goodB, badBs, bs, ByteArray.size]
          have hT : ∀ g, Inv (k + 1) (testS S i g w) := fun g => ⟨h.b, h.l, by have := h.c; show S.contacts.length ≤ _; omega, by have := h.t; simp [testS]; omega, by have := h.n; simp [testS]; omega, h.lo, fun x hx => by
            simp only [testS, List.mem_append, List.mem_singleton] at hx
            rcases hx with e | e
            · exact h.no x e
            · rw [e]; exact testNote_size hi.b hwz⟩
          by_cases h1 : hasLot S i = true
          · rw [if_pos h1]
            split
            · exact hT 1
            · exact hT 0
          · rw [if_neg h1] at hz; cases hz
        | close e i ha hi =>
          subst e ha
          change (shutF S ⟨[i], bs [], true⟩).err = 0 at hz
          change Inv (k + 1) (shutF S ⟨[i], bs [], true⟩).st
          unfold shutF at hz ⊢
          simp only [List.getD_cons_zero, List.getD_cons_succ] at hz ⊢
          by_cases h1 : hasLot S i = true
          · rw [if_pos h1] at hz ⊢
            cases hx : S.lots[(i - 1).toNat]? with
            | none => rw [hx] at hz; cases hz
            | some x =>
              rw [hx] at hz
              simp only at hz ⊢
              by_cases h3 : x.closed = true
              · rw [if_pos h3] at hz; cases hz
              rw [if_neg h3]
              have hxo := h.lo x (List.mem_of_getElem? hx)
              exact ⟨h.b, by have := h.l; simp; omega, by have := h.c; simp only; omega, by have := h.t; simp only; omega, by have := h.n; simp only; omega, Lot.ok_set h.lo ⟨hxo.s, hxo.g, by simp⟩, h.no⟩
          · rw [if_neg h1] at hz; cases hz
      · rw [if_neg hz] at he; exact absurd he hz
theorem sys_all {n K : Nat} (hK : K ≤ 1000000) : Sys runF Inv n K :=
  ⟨fun k S line hk h _ => run_ok h (by omega) line, fun k S hk h => h.small (by omega), fun k S line hk h _ he => inv_next h he⟩
theorem inv_S0 {g : List Int} (h : g.length = 8) : Inv 0 (S0 g) := ⟨h, by simp [S0], by simp [S0], by simp [S0], by simp [S0], by simp [S0], by simp [S0]⟩
theorem baysB_8 {g : List Int} (h : baysB g = true) : g.length = 8 := by
  unfold baysB at h
  simp only [Bool.and_eq_true, decide_eq_true_eq, beq_iff_eq] at h
  first | exact h.2 | exact h.1 | omega
theorem rep_inv {g : List Int} (hg : g.length = 8) {S : St} {ls : List ByteArray} (h : Rep runF (S0 g) ls S) : Inv ls.length S := by
  suffices ∀ S0 k, Inv k S0 → Rep runF S0 ls S → Inv (k + ls.length) S by have := this _ 0 (inv_S0 hg) h; rwa [Nat.zero_add] at this
  clear h
  induction ls with
  | nil => intro S0 k hI h; cases h; exact hI
  | cons s ls ih =>
    intro S0 k hI h
    cases h with
    | cons he t =>
      have := ih _ _ (inv_next hI he) t
      rwa [show k + (s :: ls).length = k + 1 + ls.length by simp; omega]
end Go.Proofs.YtkkjonkcjlnohaaGreatDoor

/- slices.Equal at []string. -/
namespace Go.Proofs.YtkkjonkcjlnohaaGreatDoor
set_option linter.unusedSimpArgs false
set_option linter.unusedVariables false
set_option linter.unnecessarySimpa false
open Go.RowKit

theorem strCells_get (l : List ByteArray) (j : Nat) (h : j < l.length) : (strCells l)[j]? = some (.string (l.getD j ByteArray.empty)) := by
  simp [strCells, List.getD, h]
end Go.Proofs.YtkkjonkcjlnohaaGreatDoor

/- House.Journal; the laws' own opened: a house on a new disk. -/
namespace Go.Proofs.YtkkjonkcjlnohaaGreatDoor
set_option linter.unusedSimpArgs false
set_option linter.unusedVariables false
set_option linter.unnecessarySimpa false
open Go.RowKit

/-- A house whose disk has power and the bytes of its lines. -/
structure KHouse (base : Nat) (w : World) (g : List Int) (H : HV) (D : Dsk) (S : St) (ls : List ByteArray) : Prop where
  at_ : HouseAt base w H D S ls false
  good : Good g D S ls
  fp : ∀ k, H.V.fp k → base ≤ k
theorem HouseAt.tp_ge {base : Nat} {w : World} {H : HV} {D : Dsk} {S : St} {ls : List ByteArray} {lost : Bool} (h : HouseAt base w H D S ls lost) : ∀ k, H.tp k → base ≤ k := fun k hk => by
  rcases hk with e | e | e | e
  · rw [e]; exact h.ge
  · rw [e]; exact h.disk.ge
  · exact (ownsRow_lt h.disk.own k e).1
  · exact (ownsRow_lt h.own k e).1
theorem KHouse.keep {base : Nat} {w w' : World} {g : List Int} {H : HV} {D : Dsk} {S : St} {ls : List ByteArray} (h : KHouse base w g H D S ls) (k : Keep (fun _ => False) w w') : KHouse base w' g H D S ls := ⟨h.at_.idle k, h.good, h.fp⟩

theorem open_badBays {g : List Int} (hg : baysB g = false) (D : Dsk) : openF runF D g = ⟨2, D, S0 g, []⟩ := by unfold openF; rw [hg]; rfl
end Go.Proofs.YtkkjonkcjlnohaaGreatDoor

/- Houses whose disks no fuse is set on: what Do and Open do of them; two houses in one world. -/
namespace Go.Proofs.YtkkjonkcjlnohaaGreatDoor
set_option linter.unusedSimpArgs false
set_option linter.unusedVariables false
set_option linter.unnecessarySimpa false
open Go.RowKit

def gD (ls : List ByteArray) : Dsk := ⟨false, -1, 200000, (cat ls).length, cat ls⟩
theorem calm_open {g : List Int} (hg : baysB g = true) {S : St} {ls : List ByteArray} (h : Rep runF (S0 g) ls S) : openF runF (gD ls) g = ⟨0, gD ls, S, ls⟩ := by
  have hl : openLoop runF ((gD ls).bytes.length + 1) (gD ls).bytes (S0 g) [] 0 = (S, ls, (cat ls).length) := openLoop_all h (by have := cat_length_ge h; show ls.length ≤ (cat ls).length + 1; omega)
  unfold openF
  rw [hg, if_pos rfl, if_neg (by simp [gD]), hl]
  unfold openEnd
  rw [if_neg (by simp [gD])]
  simp [syncF, onF, gD]
theorem calm_step {S : St} {ls : List ByteArray} (hl : (cat ls).length ≤ 199799) (s : ByteArray) :
    hdoF runF (gD ls) S ls false s = if (doF runF S s).err = 0 then ⟨0, (doF runF S s).out, gD (ls ++ [s]), (doF runF S s).st, ls ++ [s], false⟩ else ⟨(doF runF S s).err, bs [], gD ls, S, ls, false⟩ := by
  unfold hdoF
  rw [if_neg (by simp)]
  by_cases he : (doF runF S s).err = 0
  · rw [if_pos he, if_pos he]
    have hsz := doF_size he
    have hzz : s.data.toList.length = s.size := by simp
    have ea : appendF (gD ls) (s.data.toList ++ [10]) = (0, { gD ls with bytes := cat ls ++ (s.data.toList ++ [10]) }) := by
      unfold appendF
      rw [if_neg (by simp only [gD, List.length_append, List.length_cons, List.length_nil]; omega)]
      simp [onF, gD]
    rw [ea]
    dsimp only
    rw [if_pos rfl]
    have es : syncF { gD ls with bytes := cat ls ++ (s.data.toList ++ [10]) } = (0, gD (ls ++ [s])) := by
      simp [syncF, onF, gD, cat_snoc]
    rw [es]
    simp
  · rw [if_neg he, if_neg he]
def OpenedPost2 (w : World) (g : List Int) (e : Ending) (w' : World) : Prop :=
  Keep (fun _ => False) w w' ∧
  (baysB g = true → ∃ H, e = .returned (.tuple #[.pointer (some ⟨H.h, 0, none⟩), .pointer (some ⟨H.d, 0, none⟩), .bool true]) ∧ HouseAt w.heap.size w' H (gD []) (S0 g) [] false ∧ ∀ k, H.V.fp k → w.heap.size ≤ k) ∧
  (baysB g = false → ∃ d, e = .returned (.tuple #[.pointer none, .pointer (some ⟨d, 0, none⟩), .bool false]))
theorem HouseAt.lower {base b' : Nat} {w : World} {H : HV} {D : Dsk} {S : St} {ls : List ByteArray} {lost : Bool} (h : HouseAt base w H D S ls lost) (hb : b' ≤ base) : HouseAt b' w H D S ls lost :=
  ⟨h.blk, ⟨h.disk.blk, ownsRow_base h.disk.own hb, Nat.le_trans hb h.disk.ge, h.disk.ne, h.disk.ok⟩, h.st, ownsRow_base h.own hb, Nat.le_trans hb h.ge, h.sep⟩
/-- Two houses that share nothing. -/
structure Two (w : World) (H1 H2 : HV) (D1 D2 : Dsk) (S1 S2 : St) (l1 l2 : List ByteArray) (wx : World) : Prop where
  h1 : HouseAt w.heap.size wx H1 D1 S1 l1 false
  h2 : HouseAt w.heap.size wx H2 D2 S2 l2 false
  f1 : ∀ k, H1.V.fp k → w.heap.size ≤ k
  f2 : ∀ k, H2.V.fp k → w.heap.size ≤ k
  ap : ∀ k, H1.tp k → ¬ H2.tp k ∧ ¬ H2.V.fp k
  pa : ∀ k, H2.tp k → ¬ H1.V.fp k
  keep : Keep (fun _ => False) w wx
theorem Two.symm {w : World} {H1 H2 : HV} {D1 D2 : Dsk} {S1 S2 : St} {l1 l2 : List ByteArray} {wx : World} (h : Two w H1 H2 D1 D2 S1 S2 l1 l2 wx) : Two w H2 H1 D2 D1 S2 S1 l2 l1 wx :=
  ⟨h.h2, h.h1, h.f2, h.f1, fun k hk => ⟨fun e => (h.ap k e).1 hk, h.pa k hk⟩, fun k hk => (h.ap k hk).2, h.keep⟩
theorem Two.idle {w : World} {H1 H2 : HV} {D1 D2 : Dsk} {S1 S2 : St} {l1 l2 : List ByteArray} {wx wy : World} (h : Two w H1 H2 D1 D2 S1 S2 l1 l2 wx) (k : Keep (fun _ => False) wx wy) : Two w H1 H2 D1 D2 S1 S2 l1 l2 wy :=
  ⟨h.h1.idle k, h.h2.idle k, h.f1, h.f2, h.ap, h.pa, h.keep.trans k (fun _ _ e => e)⟩
theorem Two.step {w : World} {H1 H1' H2 : HV} {D1 D1' D2 : Dsk} {S1 S1' S2 : St} {l1 l1' l2 : List ByteArray} {wx wy : World} (h : Two w H1 H2 D1 D2 S1 S2 l1 l2 wx) (h' : HouseAt w.heap.size wy H1' D1' S1' l1' false) (c : HChg wx H1 H1' wy) : Two w H1' H2 D1' D2 S1' S2 l1' l2 wy := by
  have hz := c.keep.size
  refine ⟨h', h.h2.keep c.keep (fun i hi e => (h.ap i e).1 hi) (fun i hi e => (h.ap i e).2 hi), fun k hk => (c.fp k hk).elim (h.f1 k) (fun e => Nat.le_trans h.keep.size e), h.f2, fun k hk => ?_, fun k hk e => ?_, h.keep.trans c.keep (fun k hk e => by have := h.h1.tp_ge k e; omega)⟩
  · rcases c.tp k hk with e | e
    · exact h.ap k e
    · exact ⟨fun t => by have := h.h2.tp_lt k t; omega, fun t => by have := h.h2.fp_lt k t; omega⟩
  · rcases c.fp k e with e' | e'
    · exact h.pa k hk e'
    · have := h.h2.tp_lt k hk; omega
theorem Two.start {w w1 w2 : World} {H1 H2 : HV} {D1 D2 : Dsk} {S1 S2 : St} {l1 l2 : List ByteArray} (h1 : HouseAt w.heap.size w1 H1 D1 S1 l1 false) (f1 : ∀ k, H1.V.fp k → w.heap.size ≤ k) (k1 : Keep (fun _ => False) w w1)
    (h2 : HouseAt w1.heap.size w2 H2 D2 S2 l2 false) (f2 : ∀ k, H2.V.fp k → w1.heap.size ≤ k) (k2 : Keep (fun _ => False) w1 w2) : Two w H1 H2 D1 D2 S1 S2 l1 l2 w2 := by
  have hz := k1.size
  exact ⟨h1.idle k2, h2.lower hz, f1, fun k hk => Nat.le_trans hz (f2 k hk), fun k hk => ⟨fun e => by have := h1.tp_lt k hk; have := h2.tp_ge k e; omega, fun e => by have := h1.tp_lt k hk; have := f2 k e; omega⟩,
    fun k hk e => by have := h1.fp_lt k e; have := h2.tp_ge k hk; omega, k1.trans k2 (fun _ _ e => e)⟩
end Go.Proofs.YtkkjonkcjlnohaaGreatDoor

/- One calm house in a world. -/
namespace Go.Proofs.YtkkjonkcjlnohaaGreatDoor
set_option linter.unusedSimpArgs false
set_option linter.unusedVariables false
set_option linter.unnecessarySimpa false
open Go.RowKit

structure One (w : World) (H : HV) (S : St) (ls : List ByteArray) (wx : World) : Prop where
  h : HouseAt w.heap.size wx H (gD ls) S ls false
  f : ∀ k, H.V.fp k → w.heap.size ≤ k
  keep : Keep (fun _ => False) w wx
theorem One.idle {w : World} {H : HV} {S : St} {ls : List ByteArray} {wx wy : World} (h : One w H S ls wx) (k : Keep (fun _ => False) wx wy) : One w H S ls wy :=
  ⟨h.h.idle k, h.f, h.keep.trans k (fun _ _ e => e)⟩
theorem One.step {w : World} {H H' : HV} {S S' : St} {ls ls' : List ByteArray} {wx wy : World} (h : One w H S ls wx) (h' : HouseAt w.heap.size wy H' (gD ls') S' ls' false) (c : HChg wx H H' wy) : One w H' S' ls' wy :=
  ⟨h', fun k hk => (c.fp k hk).elim (h.f k) (fun e => Nat.le_trans h.keep.size e), h.keep.trans c.keep (fun k hk e => by have := h.h.tp_ge k e; omega)⟩
end Go.Proofs.YtkkjonkcjlnohaaGreatDoor

/- What State says of a state: plain Lean; strings.Join over a slice of lines. -/
namespace Go.Proofs.YtkkjonkcjlnohaaGreatDoor
set_option linter.unusedSimpArgs false
set_option linter.unusedVariables false
set_option linter.unnecessarySimpa false
open Go.RowKit

def jbs (xs : List ByteArray) (sep : ByteArray) : ByteArray := ⟨(Lib.join (xs.map (·.data.toList)) sep.data.toList).toArray⟩
theorem jbs_size (x : ByteArray) (xs : List ByteArray) (c : UInt8) (n : Nat) (hn : ∀ y ∈ xs, y.size ≤ n) : (jbs (x :: xs) (bs [c])).size ≤ x.size + xs.length * (n + 1) := by
  have h : (jbs (x :: xs) (bs [c])).size = x.size + (xs.length + Lib.lens (xs.map (·.data.toList))) := by
    have e1 : (jbs (x :: xs) (bs [c])).size = (Lib.join ((x :: xs).map (·.data.toList)) (bs [c]).data.toList).length := by simp [jbs, ByteArray.size]
    have e2 : x.data.toList.length = x.size := by simp
    rw [e1, List.map_cons, Lib.join_cons, List.length_append, Lib.joinTail_length, e2]
    simp [bs]
  rw [h]
  have : Lib.lens (xs.map (·.data.toList)) ≤ xs.length * n := by
    clear h
    induction xs with
    | nil => simp [Lib.lens]
    | cons y ys ih =>
      have h1 := ih (fun z hz => hn z (List.mem_cons_of_mem _ hz))
      have h2 := hn y (List.mem_cons_self ..)
      have e2 : y.data.toList.length = y.size := by simp
      simp only [Lib.lens, List.map_cons, List.sum_cons, List.length_cons, Nat.add_mul] at h1 ⊢
      omega
  rw [Nat.mul_add]
  omega
theorem jbs_len (xs : List ByteArray) (sep : ByteArray) : (jbs xs sep).size = (Lib.join (xs.map (·.data.toList)) sep.data.toList).length := by simp [jbs, ByteArray.size]

def bayS (x : Lot) : ByteArray := if 0 ≤ x.bay then itoaB x.bay else bs [45]
def isS (x : Lot) : ByteArray := if x.closed then bs [99, 108, 111, 115, 101, 100] else bs [111, 112, 101, 110]
def lotS (i : Nat) (x : Lot) : ByteArray := jbs [itoaB ((i : Int) + 1), x.spice, itoaB x.grams, bayS x, isS x] (bs [58])
def listN (l : List Lot) : Nat → ByteArray
  | 0 => bs [108, 111, 116, 115]
  | k + 1 => listN l k ++ (bs [32] ++ lotS k (l.getD k ⟨bs [], 0, 0, false⟩))
def listF (l : List Lot) : ByteArray := listN l l.length
def textF (S : St) : ByteArray := jbs (listF S.lots :: S.notes) (bs [10]) ++ bs [10]

theorem bayS_size {x : Lot} (h : x.ok) : (bayS x).size ≤ 21 := by
  unfold bayS
  split
  · exact itoaB_size _ (by omega) (by have := h.b; omega)
  · simp [bs, ByteArray.size]
theorem isS_size (x : Lot) : (isS x).size ≤ 6 := by unfold isS; split <;> simp [bs, ByteArray.size]
theorem lotS_size {x : Lot} (h : x.ok) {i : Nat} (hi : i ≤ 1000000) : (lotS i x).size ≤ 120 := by
  have h1 := itoaB_size ((i : Int) + 1) (by omega) (by omega)
  have h2 := itoaB_size x.grams h.g.1 h.g.2
  have h3 := bayS_size h
  have h4 := isS_size x
  have h5 := h.s
  have := jbs_size (itoaB ((i : Int) + 1)) [x.spice, itoaB x.grams, bayS x, isS x] 58 21 (fun y hy => by
    simp only [List.mem_cons, List.not_mem_nil, or_false] at hy
    rcases hy with rfl | rfl | rfl | rfl <;> omega)
  unfold lotS
  simp only [List.length_cons, List.length_nil] at this
  omega
theorem listN_size {l : List Lot} (h : ∀ x ∈ l, x.ok) : ∀ k, k ≤ l.length → k ≤ 1000000 → (listN l k).size ≤ 4 + 121 * k := by
  intro k
  induction k with
  | zero => intro _ _; simp [listN, bs, ByteArray.size]
  | succ k ih =>
    intro hk hk2
    have h1 := ih (by omega) (by omega)
    have h2 : (l.getD k ⟨bs [], 0, 0, false⟩).ok := by
      have e : l.getD k ⟨bs [], 0, 0, false⟩ = l[k]'(by omega) := by simp [List.getD, List.getElem?_eq_getElem (show k < l.length by omega)]
      rw [e]
      exact h _ (by simp)
    have h3 := lotS_size h2 (i := k) (by omega)
    simp only [listN, ByteArray.size_append, show (bs [32]).size = 1 from rfl]
    omega
theorem textF_size {k : Nat} {S : St} (h : Inv k S) (hk : k ≤ 100000000) : (jbs (listF S.lots :: S.notes) (bs [10])).size ≤ 2424 + S.notes.length * 101 := by
  have h1 := listN_size h.lo S.lots.length (Nat.le_refl _) (by have := h.l; omega)
  have h2 := jbs_size (listF S.lots) S.notes 10 100 h.no
  have h3 := h.l
  unfold listF at h2 ⊢
  omega

theorem join_row {W : World} {base n : Nat} {v : Value} {xs : List ByteArray} {sep : ByteArray} (ho : W.ownsRow base 9 1 v n (strCells xs)) (hn : xs.length ≤ 140737488355328) (hl : (jbs xs sep).size ≤ 140737488355328) :
    Calls Tryz.prog 68 #[v, .string sep] W (IdxPost W (.string (jbs xs sep))) := by
  have hlen : n = xs.length := by have := ho.1; simp [strCells] at this; omega
  subst hlen
  have hrd := ownsRow_rd ho (strCells_one xs)
  rcases ho.2 with ⟨rfl, h0⟩ | ⟨g, cap, cur, rfl, hb, hg, hc1, hc2, hc3, hc4⟩
  · obtain rfl : xs = [] := List.eq_nil_of_length_eq_zero h0
    exact (Tryz.strings_Join_none none 0 sep W).mono fun e w' ⟨he, hw⟩ => ⟨he, hw ▸ Keep.refl _ _⟩
  · rw [jbs_len] at hl
    refine (Tryz.strings_Join g 0 cap xs sep W (fun j x hx => ?_) (Array.getElem?_eq_some_iff.1 hg).1 hn hc1 hl).mono fun e w' ⟨he, hw⟩ => ⟨he, Keep.ofBelow hw _⟩
    rcases hrd.2.2 with ⟨h, _⟩ | ⟨b, o, c, h, _, _, hx'⟩
    · cases h
    · cases h
      exact hx' j _ (by simp [strCells, hx])
theorem ownsRow_one {w : World} {base b : Nat} {e : TypeId} {u : Array Value} {n : Nat} (h : Blk w b u e) (hb : base ≤ b) (hn : u.size = n) (hm : n ≤ maxLen) : w.ownsRow base e 1 (.slice (some ⟨b, 0, none⟩) n n) n u.toList := by
  refine ⟨by simp [hn], .inr ⟨b, n, u, rfl, hb, h, Nat.le_refl _, hm, by omega, List.take_of_length_le (by rw [Array.length_toList]; omega)⟩⟩
end Go.Proofs.YtkkjonkcjlnohaaGreatDoor

/- Splitting what was joined at a byte that stands in no part: plain Lean. -/
namespace Go.Proofs.YtkkjonkcjlnohaaGreatDoor
set_option linter.unusedSimpArgs false
set_option linter.unusedVariables false
set_option linter.unnecessarySimpa false
open Go.RowKit

theorem index_at (c : UInt8) : ∀ (x t : List UInt8), c ∉ x → Lib.index (x ++ c :: t) [c] = (x.length : Int) := by
  intro x
  induction x with
  | nil =>
    intro t _
    show Lib.index (c :: t) [c] = 0
    unfold Lib.index
    rw [if_pos (by simp)]
  | cons b x ih =>
    intro t h
    have hb : (c == b) = false := by
      rw [beq_eq_false_iff_ne]
      exact fun e => h (e ▸ List.mem_cons_self ..)
    have := ih t (fun e => h (List.mem_cons_of_mem _ e))
    show Lib.index (b :: (x ++ c :: t)) [c] = _
    unfold Lib.index
    rw [if_neg (by simp [List.isPrefixOf, hb]), this]
    have h2 : (((x.length : Nat) : Int) == -1) = false := by rw [beq_eq_false_iff_ne]; omega
    rw [h2]
    simp
theorem index_off (c : UInt8) : ∀ (x : List UInt8), c ∉ x → Lib.index x [c] = -1 := by
  intro x
  induction x with
  | nil => intro _; simp [Lib.index]
  | cons b x ih =>
    intro h
    have hb : (c == b) = false := by
      rw [beq_eq_false_iff_ne]
      exact fun e => h (e ▸ List.mem_cons_self ..)
    have := ih (fun e => h (List.mem_cons_of_mem _ e))
    unfold Lib.index
    rw [if_neg (by simp [List.isPrefixOf, hb]), this]
    rfl
theorem join_two' (x y : List UInt8) (r : List (List UInt8)) (sep : List UInt8) : Lib.join (x :: y :: r) sep = x ++ (sep ++ Lib.join (y :: r) sep) := by
  rw [Lib.join_cons, Lib.join_cons]
  show x ++ ((sep ++ y) ++ Lib.joinTail sep r) = _
  simp [List.append_assoc]
/-- strings.Split at one byte. -/
def splC (c : UInt8) (s : ByteArray) : List ByteArray := Lib.splitB ⟨#[c]⟩ 0 (Lib.countB s ⟨#[c]⟩) s
theorem splC_join (c : UInt8) : ∀ (x : ByteArray) (xs : List ByteArray), (∀ y ∈ x :: xs, c ∉ y.data.toList) → splC c (jbs (x :: xs) (bs [c])) = x :: xs := by
  intro x xs
  induction xs generalizing x with
  | nil =>
    intro h
    have e : jbs [x] (bs [c]) = x := ByteArray.ext (Array.toList_inj.1 (by simp [jbs, Lib.join_one]))
    rw [e]
    have hm : Lib.indexB x ⟨#[c]⟩ = -1 := index_off c _ (h x (List.mem_cons_self ..))
    unfold splC
    rw [Lib.splitB_miss _ _ _ _ hm]
  | cons y r ih =>
    intro h
    have hx := h x (List.mem_cons_self ..)
    have hr := ih y (fun z hz => h z (List.mem_cons_of_mem _ hz))
    have hl : (jbs (x :: y :: r) (bs [c])).data.toList = x.data.toList ++ c :: (jbs (y :: r) (bs [c])).data.toList := by
      simp [jbs, bs, join_two']
    have hz : x.data.toList.length = x.size := by simp
    have hi : Lib.indexB (jbs (x :: y :: r) (bs [c])) ⟨#[c]⟩ = (x.size : Int) := by
      show Lib.index (jbs (x :: y :: r) (bs [c])).data.toList [c] = _
      rw [hl, index_at c _ _ hx, hz]
    have h1 : (1 : Nat) ≤ (⟨#[c]⟩ : ByteArray).size := Nat.le_refl 1
    have hs1 : (⟨#[c]⟩ : ByteArray).size = 1 := rfl
    have hsz : (jbs (x :: y :: r) (bs [c])).size = x.size + 1 + (jbs (y :: r) (bs [c])).size := by
      have e : ∀ b : ByteArray, b.size = b.data.toList.length := fun b => by simp
      rw [e (jbs (x :: y :: r) (bs [c])), hl, e x, e (jbs (y :: r) (bs [c]))]
      simp
      omega
    have he : (jbs (x :: y :: r) (bs [c])).extract (x.size + (⟨#[c]⟩ : ByteArray).size) (jbs (x :: y :: r) (bs [c])).size = jbs (y :: r) (bs [c]) := by
      apply ByteArray.ext; apply Array.toList_inj.1
      rw [hs1, hsz]
      simp only [ByteArray.data_extract, Array.toList_extract, List.extract_eq_take_drop, hl]
      rw [show x.data.toList ++ c :: (jbs (y :: r) (bs [c])).data.toList = (x.data.toList ++ [c]) ++ (jbs (y :: r) (bs [c])).data.toList by simp]
      have hl1 : (x.data.toList ++ [c]).length = x.size + 1 := by rw [List.length_append, hz]; rfl
      rw [List.drop_append_of_le_length (by rw [hl1]; exact Nat.le_refl _), List.drop_of_length_le (by rw [hl1]; exact Nat.le_refl _), List.nil_append]
      all_goals exact List.take_of_length_le (by have e : (jbs (y :: r) (bs [c])).data.toList.length = (jbs (y :: r) (bs [c])).size := by simp
                                                 omega)
    have h0 : (jbs (x :: y :: r) (bs [c])).extract 0 (x.size + 0) = x := by
      apply ByteArray.ext; apply Array.toList_inj.1
      simp only [ByteArray.data_extract, Array.toList_extract, List.extract_eq_take_drop, hl, List.drop_zero, Nat.sub_zero, Nat.add_zero]
      rw [← hz, List.take_left]
    unfold splC at hr ⊢
    rw [Lib.countB_hit _ _ _ h1 hi, he, Nat.add_comm 1, Lib.splitB_hit _ _ _ _ _ hi, he, h0, hr]
end Go.Proofs.YtkkjonkcjlnohaaGreatDoor

/- What a change does to the grams of all lots: plain Lean. -/
namespace Go.Proofs.YtkkjonkcjlnohaaGreatDoor
set_option linter.unusedSimpArgs false
set_option linter.unusedVariables false
set_option linter.unnecessarySimpa false
open Go.RowKit

def tot : List Lot → Int
  | [] => 0
  | x :: l => x.grams + tot l
theorem tot_append (l m : List Lot) : tot (l ++ m) = tot l + tot m := by
  induction l with
  | nil => simp [tot]
  | cons x l ih => simp only [List.cons_append, tot, ih]; omega
theorem tot_set {y : Lot} : ∀ {l : List Lot} {i : Nat} {x : Lot}, l[i]? = some x → tot (l.set i y) = tot l - x.grams + y.grams := by
  intro l
  induction l with
  | nil => intro i x h; simp at h
  | cons a l ih =>
    intro i x h
    cases i with
    | zero => simp at h; subst h; simp only [List.set_cons_zero, tot]; omega
    | succ i => simp only [List.getElem?_cons_succ] at h; simp only [List.set_cons_succ, tot, ih h]; omega
theorem tot_ge {l : List Lot} (h : ∀ x ∈ l, 0 ≤ x.grams) : 0 ≤ tot l ∧ ∀ x ∈ l, x.grams ≤ tot l := by
  induction l with
  | nil => exact ⟨Int.le_refl _, fun x hx => by cases hx⟩
  | cons a l ih =>
    have h1 := ih (fun x hx => h x (List.mem_cons_of_mem _ hx))
    have h2 := h a (List.mem_cons_self ..)
    refine ⟨by simp only [tot]; omega, fun x hx => ?_⟩
    simp only [tot]
    rcases List.mem_cons.1 hx with rfl | hx
    · omega
    · have := h1.2 x hx; omega
/-- What holds of every lot. -/
def LotK (x : Lot) : Prop := x.spice.data.toList.any badS = false ∧ 0 ≤ x.grams ∧ -1 ≤ x.bay ∧ x.bay ≤ 7
structure KI (c : Nat) (S : St) : Prop where
  l : ∀ x ∈ S.lots, LotK x
  t : tot S.lots ≤ 999999 * (c : Int)
theorem KI.mono {c : Nat} {S S' : St} (h : KI c S) (e : S'.lots = S.lots) : KI (c + 1) S' := ⟨by rw [e]; exact h.l, by rw [e]; have := h.t; omega⟩
theorem mem_set {l : List Lot} {i : Nat} {y z : Lot} (h : z ∈ l.set i y) : z = y ∨ z ∈ l := (List.mem_or_eq_of_mem_set h).symm
theorem mem_at {l : List Lot} {i : Nat} {x : Lot} (h : l[i]? = some x) : x ∈ l := List.mem_of_getElem? h

/-- A line that is done: its words' sort, its command, its arguments. -/
theorem do_kind {s : ByteArray} {S : St} (h : (doF runF S s).err = 0) : ∃ so f a, formF s = some (so, f, a) ∧ a.ok = true ∧ (runF f S a).err = 0 ∧ doF runF S s = runF f S a := by
  unfold doF at h ⊢
  cases hf : formF s with
  | none => rw [hf] at h; simp at h
  | some x =>
    obtain ⟨so, f, a⟩ := x
    rw [hf] at h
    simp only at h ⊢
    by_cases hok : a.ok = true
    · rw [if_pos hok] at h ⊢
      by_cases he : (runF f S a).err = 0
      · rw [if_pos he]; exact ⟨so, f, a, rfl, hok, he, rfl⟩
      · rw [if_neg he] at h; exact absurd h he
    · rw [if_neg hok] at h; simp at h
def takeB : List UInt8 := [116, 97, 107, 101]
theorem form_head {s : ByteArray} {so : List UInt8} {f : Nat} {a : FA} (h : formF s = some (so, f, a)) : chF ((words s).headD (bs [])).data.toList = some (so, f) ∧ (words s).length - 1 = so.length ∧ a = foldF so (words s).tail := by
  unfold formF at h
  split at h
  · split at h
    · rename_i so' f' hch
      split at h
      · rename_i hlen
        simp only [Option.some.injEq, Prod.mk.injEq] at h
        obtain ⟨rfl, rfl, rfl⟩ := h
        exact ⟨hch, hlen, rfl⟩
      · cases h
    · cases h
  · cases h
theorem ch_take {l so : List UInt8} {f : Nat} (h : chF l = some (so, f)) : (l = takeB ↔ f = 399) ∧ (f = 399 → so = [115, 100]) := by
  unfold chF at h
  unfold takeB
  repeat' split at h
  all_goals first | (cases h; done) | (simp only [Option.some.injEq, Prod.mk.injEq] at h; obtain ⟨rfl, rfl⟩ := h)
  all_goals (rename_i hl; subst hl; first | exact ⟨⟨fun _ => rfl, fun _ => rfl⟩, fun _ => rfl⟩ | exact ⟨⟨fun e => absurd e (by decide), fun e => absurd e (by decide)⟩, fun e => absurd e (by decide)⟩)
theorem dec_num {w : ByteArray} (h : decOk w.data.toList = true) : numR w = (atoiN w, true) ∧ 0 ≤ atoiN w ∧ atoiN w ≤ 999999 := by
  have hz : w.data.toList.length = w.size := by simp
  have h' := h
  unfold decOk at h
  simp only [Bool.and_eq_true, decide_eq_true_eq] at h
  have hn : w.data.toList ≠ [] := fun e => by rw [e] at h; simp at h
  have ha := atoi_digits hn h.1.2 h.1.1.2
  rw [dec_same] at h'
  simp only [Bool.and_eq_true, decide_eq_true_eq] at h'
  refine ⟨numR_atoi h.1.2 hn (by omega), h'.1.2, ?_⟩
  unfold atoiN
  rw [ha]
  simp only
  have hlt : ∀ (l : List UInt8) (acc k : Nat), l.all digB = true → acc < 10 ^ k → numV acc l < 10 ^ (k + l.length) := by
    intro l
    induction l with
    | nil => intro acc k _ ha; exact ha
    | cons c l ih =>
      intro acc k hd ha
      simp only [List.all_cons, Bool.and_eq_true] at hd
      have hc := digB_iff.1 hd.1
      have hp2 : 10 ^ (k + 1) = 10 ^ k * 10 := Nat.pow_succ 10 k
      have := ih (acc * 10 + (c.toNat - 48)) (k + 1) hd.2 (by omega)
      rw [List.length_cons, show k + (l.length + 1) = k + 1 + l.length by omega]
      exact this
  have h1 := hlt w.data.toList 0 0 h.1.2 (by decide)
  have h2 : 10 ^ (0 + w.data.toList.length) ≤ 10 ^ 6 := Nat.pow_le_pow_right (by decide) (by have := h.1.1.2; omega)
  have h6 : (10 : Nat) ^ 6 = 1000000 := by decide
  omega
/-- The words of a line that takes. -/
theorem take_words {s : ByteArray} {so : List UInt8} {a : FA} (h : formF s = some (so, 399, a)) (hok : a.ok = true) :
    ∃ h0 w x, words s = [h0, w, x] ∧ a = ⟨[atoiN x], w, true⟩ ∧ w.data.toList.any badS = false ∧ numR x = (atoiN x, true) ∧ 0 ≤ atoiN x ∧ atoiN x ≤ 999999 := by
  obtain ⟨hch, hlen, ha⟩ := form_head h
  have hso := (ch_take hch).2 rfl
  subst hso
  have hwl := words_length s
  match hw : words s, hwl with
  | [], hwl => rw [hw] at hlen; simp at hlen
  | [_], _ => rw [hw] at hlen; simp at hlen
  | [_, _], _ => rw [hw] at hlen; simp at hlen
  | [h0, w, x], _ =>
    rw [hw] at ha
    have e : foldF [115, 100] [h0, w, x].tail = stepF (stepF ⟨[], bs [], true⟩ (115, w)) (100, x) := rfl
    rw [e] at ha
    have hok2 := hok
    rw [ha] at hok2
    have h1 : ((true && isSpiceB w) && atoiOk x && decide (x.size ≤ 6) && decide (0 ≤ atoiN x) && decide (itoaB (atoiN x) = x)) = true := hok2
    simp only [Bool.and_eq_true, decide_eq_true_eq, Bool.true_and] at h1
    have hd : decOk x.data.toList = true := by
      rw [dec_same]
      simp only [Bool.and_eq_true, decide_eq_true_eq]
      exact ⟨⟨⟨h1.1.1.1.2, h1.1.1.2⟩, h1.1.2⟩, h1.2⟩
    have hsp : w.data.toList.any badS = false := by
      have := h1.1.1.1.1
      unfold isSpiceB at this
      simp only [Bool.and_eq_true, Bool.not_eq_true'] at this
      exact this.2
    obtain ⟨n1, n2, n3⟩ := dec_num hd
    refine ⟨h0, w, x, rfl, ?_, hsp, n1, n2, n3⟩
    rw [ha] at hok ⊢
    exact FA.mk3 rfl rfl hok
  | _ :: _ :: _ :: _ :: _, _ => rw [hw] at hlen; simp at hlen

theorem take_law {c : Nat} {S : St} {n : Int} {w : ByteArray} (hK : KI c S) (hw : w.data.toList.any badS = false) (h0 : 0 ≤ n) (h1 : n ≤ 999999) (he : (takeF S ⟨[n], w, true⟩).err = 0) :
    KI (c + 1) (takeF S ⟨[n], w, true⟩).st ∧ tot (takeF S ⟨[n], w, true⟩).st.lots = tot S.lots + n := by
  unfold takeF at he ⊢
  split at he
  · simp at he
  · rename_i hl
    rw [if_neg hl]
    split at he
    · simp at he
    · rename_i hz
      rw [if_neg hz]
      have e : tot (addS S ⟨w, n, -1, false⟩).lots = tot S.lots + n := by
        show tot (S.lots ++ [_]) = _
        rw [tot_append]; simp [tot]
      refine ⟨⟨fun x hx => ?_, ?_⟩, e⟩
      · have hx' : x ∈ S.lots ++ [⟨w, n, -1, false⟩] := hx
        rcases List.mem_append.1 hx' with h | h
        · exact hK.l x h
        · rw [List.mem_singleton.1 h]
          exact ⟨hw, h0, Int.le_refl _, by show (-1 : Int) ≤ 7; omega⟩
      · show tot (addS S ⟨w, n, -1, false⟩).lots ≤ _
        rw [e]; have := hK.t; omega
theorem blend_spice : (bs [98, 108, 101, 110, 100]).data.toList.any badS = false := by decide
theorem wrap_in {n : Int} (h : -9223372036854775808 ≤ n ∧ n ≤ 9223372036854775807) : wrap64 n = n := by unfold wrap64; omega
theorem blend_law {c : Nat} {S : St} {i j q : Int} (hK : KI c S) (hc : c ≤ 1000) (hq : 0 ≤ q) (he : (blendF S ⟨[i, j, q], bs [], true⟩).err = 0) :
    KI (c + 1) (blendF S ⟨[i, j, q], bs [], true⟩).st ∧ tot (blendF S ⟨[i, j, q], bs [], true⟩).st.lots = tot S.lots := by
  have hge := tot_ge (l := S.lots) (fun x hx => (hK.l x hx).2.1)
  have ht := hK.t
  unfold blendF at he ⊢
  simp only [List.getD_cons_zero, List.getD_cons_succ] at he ⊢
  by_cases h20 : S.lots.length = 20
  · rw [if_pos h20] at he; simp at he
  rw [if_neg h20] at he ⊢
  by_cases hal : allLots S [i, j] = true
  · rw [if_pos hal] at he ⊢
    by_cases hij : i = j ∨ q = 0
    · rw [if_pos hij] at he; simp at he
    rw [if_neg hij] at he ⊢
    unfold allLots at hal
    simp only [List.all_cons, List.all_nil, Bool.and_true, Bool.and_eq_true, hasLot, decide_eq_true_eq] at hal
    cases hx : S.lots[(i - 1).toNat]? with
    | none => rw [hx] at he; simp at he
    | some x =>
      cases hy : S.lots[(j - 1).toNat]? with
      | none => rw [hx, hy] at he; simp at he
      | some y =>
        rw [hx, hy] at he
        simp only at he ⊢
        by_cases hb : (x.closed || (y.closed || decide (min x.grams y.grams < q))) = true
        · rw [if_pos hb] at he; simp at he
        rw [if_neg hb] at he ⊢
        simp only [Bool.or_eq_true, decide_eq_true_eq, not_or] at hb
        have hqx : q ≤ x.grams ∧ q ≤ y.grams := by omega
        have kx := hK.l x (mem_at hx); have ky := hK.l y (mem_at hy)
        have gx := hge.2 x (mem_at hx); have gy := hge.2 y (mem_at hy)
        have w1 : wrap64 (x.grams - q) = x.grams - q := wrap_in ⟨by omega, by omega⟩
        have w2 : wrap64 (y.grams - q) = y.grams - q := wrap_in ⟨by omega, by omega⟩
        have w3 : wrap64 (2 * q) = 2 * q := wrap_in ⟨by omega, by omega⟩
        have hne : (j - 1).toNat ≠ (i - 1).toNat := by omega
        have hy2 : (S.lots.set (i - 1).toNat { x with grams := x.grams - q })[(j - 1).toNat]? = some y := by
          rw [List.getElem?_set_ne (fun e => hne e.symm)]; exact hy
        have elots : (blendT S i j q x y).lots = ((S.lots.set (i - 1).toNat { x with grams := x.grams - q }).set (j - 1).toNat { y with grams := y.grams - q }) ++ [⟨bs [98, 108, 101, 110, 100], 2 * q, -1, false⟩] := by
          show ((S.lots.set (i - 1).toNat { x with grams := wrap64 (x.grams - q) }).set (j - 1).toNat { y with grams := wrap64 (y.grams - q) }) ++ [(⟨bs [98, 108, 101, 110, 100], wrap64 (2 * q), -1, false⟩ : Lot)] = _
          rw [w1, w2, w3]
        have et : tot (blendT S i j q x y).lots = tot S.lots := by
          rw [elots, tot_append, tot_set hy2, tot_set hx]; simp only [tot]; omega
        refine ⟨⟨fun z hz => ?_, ?_⟩, et⟩
        · have hz' : z ∈ (blendT S i j q x y).lots := hz
          rw [elots] at hz'
          rcases List.mem_append.1 hz' with h | h
          · rcases mem_set h with rfl | h
            · exact ⟨ky.1, by show 0 ≤ y.grams - q; omega, ky.2.2⟩
            · rcases mem_set h with rfl | h
              · exact ⟨kx.1, by show 0 ≤ x.grams - q; omega, kx.2.2⟩
              · exact hK.l z h
          · rw [List.mem_singleton.1 h]
            exact ⟨blend_spice, by show 0 ≤ 2 * q; omega, by show (-1 : Int) ≤ -1; omega, by show (-1 : Int) ≤ 7; omega⟩
        · show tot (blendT S i j q x y).lots ≤ _
          rw [et]; omega
  · rw [if_neg hal] at he; simp at he
theorem set_same {S : St} {i : Nat} {x y : Lot} {c : Nat} (hK : KI c S) (hx : S.lots[i]? = some x) (hg : y.grams = x.grams) (hy : LotK y) : KI (c + 1) { S with lots := S.lots.set i y } ∧ tot (S.lots.set i y) = tot S.lots := by
  have e : tot (S.lots.set i y) = tot S.lots := by rw [tot_set hx]; omega
  refine ⟨⟨fun z hz => ?_, ?_⟩, e⟩
  · rcases mem_set (show z ∈ S.lots.set i y from hz) with rfl | h
    · exact hy
    · exact hK.l z h
  · show tot (S.lots.set i y) ≤ _
    rw [e]; have := hK.t; omega
theorem put_law {c : Nat} {S : St} {i b : Int} (hK : KI c S) (hb : 0 ≤ b) (he : (putF S ⟨[i, b], bs [], true⟩).err = 0) :
    KI (c + 1) (putF S ⟨[i, b], bs [], true⟩).st ∧ tot (putF S ⟨[i, b], bs [], true⟩).st.lots = tot S.lots := by
  unfold putF at he ⊢
  simp only [List.getD_cons_zero, List.getD_cons_succ] at he ⊢
  by_cases hal : hasLot S i = true
  · rw [if_pos hal] at he ⊢
    by_cases h7 : 7 < b
    · rw [if_pos h7] at he; simp at he
    rw [if_neg h7] at he ⊢
    cases hx : S.lots[(i - 1).toNat]? with
    | none => rw [hx] at he; simp at he
    | some x =>
      rw [hx] at he
      simp only at he ⊢
      by_cases hc : x.closed = true
      · rw [if_pos hc] at he; simp at he
      rw [if_neg hc] at he ⊢
      by_cases ha : (List.range S.lots.length).any (clashAt S i b x) = true
      · rw [if_pos ha] at he; simp at he
      rw [if_neg ha]
      have kx := hK.l x (mem_at hx)
      exact set_same hK hx rfl ⟨kx.1, kx.2.1, by show -1 ≤ b; omega, by show b ≤ 7; omega⟩
  · rw [if_neg hal] at he; simp at he
theorem shut_law {c : Nat} {S : St} {a : FA} (hK : KI c S) (he : (shutF S a).err = 0) :
    KI (c + 1) (shutF S a).st ∧ tot (shutF S a).st.lots = tot S.lots := by
  unfold shutF at he ⊢
  by_cases hal : hasLot S (a.n.getD 0 0) = true
  · rw [if_pos hal] at he ⊢
    cases hx : S.lots[(a.n.getD 0 0 - 1).toNat]? with
    | none => rw [hx] at he; simp at he
    | some x =>
      rw [hx] at he
      simp only at he ⊢
      by_cases hc : x.closed = true
      · rw [if_pos hc] at he; simp at he
      rw [if_neg hc]
      have kx := hK.l x (mem_at hx)
      exact set_same hK hx rfl ⟨kx.1, kx.2.1, by show (-1 : Int) ≤ -1; omega, by show (-1 : Int) ≤ 7; omega⟩
  · rw [if_neg hal] at he; simp at he
/-- The grams change by take alone. -/
theorem step_law {c : Nat} {S : St} {s : ByteArray} (hK : KI c S) (hc : c ≤ 1000) (he : (doF runF S s).err = 0) :
    KI (c + 1) (doF runF S s).st ∧
    (((words s).headD (bs [])).data.toList = takeB → ∃ n, numR ((words s).getD ((words s).length - 1) ByteArray.empty) = (n, true) ∧ 0 ≤ n ∧ n ≤ 999999 ∧ tot (doF runF S s).st.lots = tot S.lots + n) ∧
    (((words s).headD (bs [])).data.toList ≠ takeB → tot (doF runF S s).st.lots = tot S.lots) := by
  obtain ⟨so, f, a, hf, hok, hr, hd⟩ := do_kind he
  rw [hd]
  obtain ⟨hch, _, _⟩ := form_head hf
  have hct := (ch_take hch).1
  by_cases h396 : f = 399
  · subst h396
    obtain ⟨h0, w, x, hw, ha, h1, h2, h3, h4⟩ := take_words hf hok
    subst ha
    have e : runF 399 S ⟨[atoiN x], w, true⟩ = takeF S ⟨[atoiN x], w, true⟩ := rfl
    rw [e] at hr ⊢
    obtain ⟨k1, k2⟩ := take_law hK h1 h3 h4 hr
    refine ⟨k1, fun _ => ⟨atoiN x, ?_, h3, h4, k2⟩, fun h => absurd (hct.2 rfl) h⟩
    rw [hw]
    exact h2
  · have hne : ((words s).headD (bs [])).data.toList ≠ takeB := fun e => h396 (hct.1 e)
    suffices h : KI (c + 1) (runF f S a).st ∧ tot (runF f S a).st.lots = tot S.lots from ⟨h.1, fun e => absurd e hne, fun _ => h.2⟩
    cases said_of hf hok with
    | take e n w ha hn hw => exact absurd e h396
    | blend e i j q ha hi hj hq => subst e ha; exact blend_law hK hc hq.1 hr
    | put e i b ha hi hb => subst e ha; exact put_law hK hb.1 hr
    | touch e i j ha hi hj =>
      subst e ha
      have e2 : (runF 402 S ⟨[i, j], bs [], true⟩).st.lots = S.lots := by
        show (touchF S _).st.lots = _
        unfold touchF; split
        · split <;> rfl
        · rfl
      exact ⟨hK.mono e2, by rw [e2]⟩
    | test e i w ha hi hw =>
      subst e ha
      have e2 : (runF 403 S ⟨[i], w, true⟩).st.lots = S.lots := by
        show (testF S _).st.lots = _
        unfold testF; split
        · split <;> rfl
        · rfl
      exact ⟨hK.mono e2, by rw [e2]⟩
    | close e i ha hi => subst e ha; exact shut_law hK hr
theorem KI.start (g : List Int) : KI 0 (S0 g) := ⟨fun x hx => absurd hx List.not_mem_nil, by show tot [] ≤ _; simp [tot]⟩
end Go.Proofs.YtkkjonkcjlnohaaGreatDoor

/- slices.Equal at []int. -/
namespace Go.Proofs.YtkkjonkcjlnohaaGreatDoor
set_option linter.unusedSimpArgs false
set_option linter.unusedVariables false
set_option linter.unnecessarySimpa false
open Go.RowKit

def eqJ (l m : List Int) : Bool := decide (l = m)
theorem eqJ_of {l m : List Int} (hl : l.length = m.length) (h : ∀ i, i < l.length → l.getD i 0 = m.getD i 0) : eqJ l m = true := by
  unfold eqJ
  refine decide_eq_true (List.ext_getElem hl fun i h1 h2 => ?_)
  have := h i h1
  simpa [List.getD, h1, h2] using this
theorem eqJ_ne {l m : List Int} {i : Nat} (h : l.getD i 0 ≠ m.getD i 0) : eqJ l m = false := decide_eq_false fun e => h (by rw [e])

set_option maxHeartbeats 1000000 in
set_option maxRecDepth 100000 in
theorem eqI_any {w : World} {u v : Value} {l m : List Int} (hu : Rd w 1 u l.length (icells l)) (hv : Rd w 1 v m.length (icells m)) (hl : l.length < 9223372036854775807) :
    Calls Tryz.prog 11 #[u, v] w (DrawPost w (.bool (eqJ l m))) := by
  obtain ⟨ao, cap, hue, _⟩ := hu.shape
  obtain ⟨bo, cap2, hve, _⟩ := hv.shape
  subst hue hve
  have HU := Lib.hid hu; clear hu
  have HV := Lib.hid hv; clear hv
  by_cases hlen : l.length = m.length
  · obtain ⟨n, hn⟩ : ∃ n, n = l.length := ⟨_, rfl⟩
    have hm : m.length = n := by omega
    rw [← hn] at hl
    have HN := Lib.hid hn
    have HM := Lib.hid hm
    rw [← hn, hm]
    clear hlen hn hm
    go_enter Tryz.func11, Tryz.ntmps11
    go_wp2
    go_loopw [13] (fun i wr => ∃ k q : Nat, k ≤ n ∧ i = .int .i64 k ∧ wr = w.drewN q ∧ ∀ i, i < k → l.getD i 0 = m.getD i 0) (fun i _ => n - (intOf i).toNat)
    case atStart => exact ⟨0, 0, Nat.zero_le _, rfl, rfl, fun i h => by omega⟩
    case round =>
      obtain ⟨k, q, hk, rfl, rfl, h0⟩ := hrel
      have H0 := Lib.hid h0; clear h0
      by_cases hlt : k < n
      · obtain ⟨b, o, hao, ha⟩ : ∃ b o, ao = some ⟨b, o, none⟩ ∧ w.cell? ⟨b, o + k, none⟩ = some (.int .i64 (l.getD k 0)) := by
          rcases HU.out.2.2 with ⟨h, h'⟩ | ⟨b, o, c, h, _, _, hx⟩
          · have := HN.out; omega
          · cases h
            exact ⟨b, o, rfl, hx k _ (icells_get l k (by have := HN.out; omega))⟩
        obtain ⟨b2, o2, hbo, hb⟩ : ∃ b o, bo = some ⟨b, o, none⟩ ∧ w.cell? ⟨b, o + k, none⟩ = some (.int .i64 (m.getD k 0)) := by
          rcases HV.out.2.2 with ⟨h, h'⟩ | ⟨b, o, c, h, _, _, hx⟩
          · have := HM.out; omega
          · cases h
            exact ⟨b, o, rfl, hx k _ (icells_get m k (by have := HM.out; omega))⟩
        subst hao hbo
        obtain ⟨x, hx⟩ : ∃ x, l.getD k 0 = x := ⟨_, rfl⟩
        obtain ⟨y, hy⟩ : ∃ x, m.getD k 0 = x := ⟨_, rfl⟩
        rw [hx] at ha
        rw [hy] at hb
        have HX := Lib.hid hx
        have HY := Lib.hid hy
        clear hx hy
        have hlti : ((k : Int) < (n : Int)) = True := by simp; omega
        by_cases hne : x = y
        · have hne' : (x != y) = false := by simp [hne]
          have HNE := Lib.hid hne; clear hne
          go_wp2
          go_quiet (fail)
          go_wp2
          go_roundw
          case rel =>
            refine ⟨k + 1, _, by omega, by go_num, rfl, fun i hi => ?_⟩
            by_cases hij : i = k
            · subst hij; rw [HX.out, HY.out]; exact HNE.out
            · exact H0.out i (by omega)
          case measure => simp [intOf]; omega
        · have hne' : (x != y) = true := by simp [hne]
          have hF := Lib.hid (eqJ_ne (l := l) (m := m) (i := k) (by rw [HX.out, HY.out]; exact hne))
          clear hne
          go_wp2
          go_quiet (fail)
          go_wp2
          go_ret
          exact ⟨by rw [hF.out]; rfl, q + nq, by simp [World.drewN, Nat.add_assoc]⟩
      · have hlti : ((k : Int) < (n : Int)) = False := by simp; omega
        have hF := Lib.hid (eqJ_of (l := l) (m := m) (by rw [← HN.out, HM.out]) fun i hi => H0.out i (by have := HN.out; omega))
        go_wp2
        go_ret
        exact ⟨by rw [hF.out]; rfl, q, rfl⟩
  · have hF := Lib.hid (show eqJ l m = false from decide_eq_false fun e => hlen (by rw [e]))
    have hd : ((l.length : Int) == (m.length : Int)) = false := by simp; omega
    have hd2 : ((l.length : Int) = (m.length : Int)) = False := by simp; omega
    clear hlen
    go_enter Tryz.func11, Tryz.ntmps11
    go_wp2
    go_ret
    exact ⟨by rw [hF.out]; rfl, 0, rfl⟩
end Go.Proofs.YtkkjonkcjlnohaaGreatDoor
