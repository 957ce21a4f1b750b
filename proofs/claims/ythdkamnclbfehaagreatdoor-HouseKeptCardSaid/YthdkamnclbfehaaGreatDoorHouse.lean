/- A house in memory, and what Open answers, in plain Lean. -/
import Derived.Test.YthdkamnclbfehaaGreatDoorDo
import Derived.Test.YthdkamnclbfehaaGreatDoorCut
import Derived.Test.YthdkamnclbfehaaGreatDoorBays
import Derived.Test.YthdkamnclbfehaaGreatDoorDiskC
namespace Go.Proofs.YthdkamnclbfehaaGreatDoor
set_option linter.unusedSimpArgs false
set_option linter.unusedVariables false
set_option linter.unnecessarySimpa false
open Go.RowKit

/-- Where a house lies: its block, its disk's block and bytes, its state, its lines. -/
structure HV where
  h : Nat
  d : Nat
  v : Value
  V : StV
  vl : Value
structure HouseAt (base : Nat) (w : World) (H : HV) (D : Dsk) (S : St) (ls : List ByteArray) (lost : Bool) : Prop where
  blk : Blk w H.h #[.pointer (some ⟨H.d, 0, none⟩), .pointer (some ⟨H.V.b, 0, none⟩), H.vl, .bool lost] 106
  disk : DiskAt base w H.d D H.v
  st : StAt w H.V S
  own : w.ownsRow base 9 1 H.vl ls.length (strCells ls)
  ge : base ≤ H.h
  sep : ∀ k, H.V.fp k → k ≠ H.h ∧ k ≠ H.d ∧ H.v.ownBlock ≠ some k ∧ H.vl.ownBlock ≠ some k
/-- What a house's calls may write. -/
def HV.tp (H : HV) (k : Nat) : Prop := k = H.h ∨ k = H.d ∨ H.v.ownBlock = some k ∨ H.vl.ownBlock = some k
theorem HouseAt.keep {T : Nat → Prop} {base : Nat} {w w' : World} {H : HV} {D : Dsk} {S : St} {ls : List ByteArray} {lost : Bool} (h : HouseAt base w H D S ls lost) (k : Keep T w w') (h1 : ∀ i, H.tp i → ¬ T i) (h2 : ∀ i, H.V.fp i → ¬ T i) : HouseAt base w' H D S ls lost :=
  ⟨h.blk.keep k (h1 _ (.inl rfl)), h.disk.keep k (h1 _ (.inr (.inl rfl))) (fun g e => h1 g (.inr (.inr (.inl e)))), h.st.keep k h2, ownsRow_keep h.own k (fun g e => h1 g (.inr (.inr (.inr e)))), h.ge, h.sep⟩
theorem Blk.types {w : World} {b b' : Nat} {c c' : Array Value} {t t' : TypeId} (h : Blk w b c t) (h' : Blk w b' c' t') (ht : t ≠ t') : b ≠ b' := fun e => by
  subst e
  unfold Blk at h h'
  rw [h] at h'
  cases h'
  exact ht rfl

/-- The commands, and what holds of the states that they are run on. -/
structure Sys (F : Nat → St → FA → Res) (I : Nat → St → Prop) (n K : Nat) : Prop where
  run : ∀ k S line, k ≤ K → I k S → line.size ≤ n → RunOK F S line
  small : ∀ k S, k ≤ K → I k S → S.small
  next : ∀ k S line, k ≤ K → I k S → line.size ≤ n → (doF F S line).err = 0 → I (k + 1) (doF F S line).st

def openLoop (F : Nat → St → FA → Res) : Nat → List UInt8 → St → List ByteArray → Nat → St × List ByteArray × Nat
  | 0, _, S, ls, at_ => (S, ls, at_)
  | k + 1, rest, S, ls, at_ =>
    match cutNL rest with
    | none => (S, ls, at_)
    | some (a, b) => if (doF F S (bs a)).err = 0 then openLoop F k b (doF F S (bs a)).st (ls ++ [bs a]) (at_ + (a.length + 1)) else (S, ls, at_)
theorem cutNL_true {l : List UInt8} (h : (cutNL l).isSome = true) : cutNL l = some (cutPre l, l.drop ((cutPre l).length + 1)) ∧ (cutPre l).length + 1 ≤ l.length := by
  cases hc : cutNL l with
  | none => rw [hc] at h; cases h
  | some x =>
    obtain ⟨a, b⟩ := x
    have h1 := cutNL_some hc
    have h2 : cutPre l = a := by unfold cutPre; rw [hc]
    rw [h2]
    exact ⟨by rw [h1.2.2], h1.1⟩
theorem openLoop_step {F : Nat → St → FA → Res} {fuel : Nat} {rest : List UInt8} {S rs : St} {ls : List ByteArray} {at_ : Nat} {ro : ByteArray} (hf : rest.length < fuel) (h : (cutNL rest).isSome = true) (hR : doF F S (bs (cutPre rest)) = ⟨0, rs, ro⟩) :
    openLoop F fuel rest S ls at_ = openLoop F (fuel - 1) (rest.drop ((cutPre rest).length + 1)) rs (ls ++ [bs (cutPre rest)]) (at_ + ((cutPre rest).length + 1)) := by
  obtain ⟨k, rfl⟩ : ∃ k, fuel = k + 1 := ⟨fuel - 1, by omega⟩
  show (match cutNL rest with | none => _ | some (a, b) => _) = _
  rw [(cutNL_true h).1]
  simp only [hR, if_true, Nat.add_sub_cancel]
theorem openLoop_none {F : Nat → St → FA → Res} {fuel : Nat} {rest : List UInt8} {S : St} {ls : List ByteArray} {at_ : Nat} (hf : rest.length < fuel) (h : (cutNL rest).isSome = false) :
    openLoop F fuel rest S ls at_ = (S, ls, at_) := by
  obtain ⟨k, rfl⟩ : ∃ k, fuel = k + 1 := ⟨fuel - 1, by omega⟩
  cases hc : cutNL rest with
  | none => show (match cutNL rest with | none => _ | some (a, b) => _) = _; rw [hc]
  | some x => rw [hc] at h; cases h
theorem openLoop_err {F : Nat → St → FA → Res} {fuel : Nat} {rest : List UInt8} {S : St} {ls : List ByteArray} {at_ : Nat} {R : Res} (hf : rest.length < fuel) (h : (cutNL rest).isSome = true) (hR : doF F S (bs (cutPre rest)) = R) (he : R.err ≠ 0) :
    openLoop F fuel rest S ls at_ = (S, ls, at_) := by
  obtain ⟨k, rfl⟩ : ∃ k, fuel = k + 1 := ⟨fuel - 1, by omega⟩
  show (match cutNL rest with | none => _ | some (a, b) => _) = _
  rw [(cutNL_true h).1]
  simp only [hR, if_neg he]
structure OpenR where
  err : Int
  D : Dsk
  st : St
  ls : List ByteArray
def S0 (g : List Int) : St := ⟨g, [], [], [], []⟩
def openEnd (D : Dsk) (r : St × List ByteArray × Nat) : OpenR :=
  if r.2.2 < D.bytes.length then
    if (cutF D r.2.2).1 = 0 then ⟨(syncF (cutF D r.2.2).2).1, (syncF (cutF D r.2.2).2).2, r.1, r.2.1⟩ else ⟨(cutF D r.2.2).1, (cutF D r.2.2).2, r.1, r.2.1⟩
  else ⟨(syncF D).1, (syncF D).2, r.1, r.2.1⟩
def openF (F : Nat → St → FA → Res) (D : Dsk) (g : List Int) : OpenR :=
  if baysB g then
    if D.off then ⟨10, D, S0 g, []⟩ else openEnd D (openLoop F (D.bytes.length + 1) D.bytes (S0 g) [] 0)
  else ⟨2, D, S0 g, []⟩
def OpenPost (base : Nat) (w : World) (bd : Nat) (v : Value) (r : OpenR) (e : Ending) (w' : World) : Prop :=
  ∃ v', DiskAt base w' bd r.D v' ∧ (v'.ownBlock = v.ownBlock ∨ ∃ g, v'.ownBlock = some g ∧ w.heap.size ≤ g) ∧ Keep (fun k => k = bd ∨ v.ownBlock = some k) w w' ∧
    (r.err ≠ 0 → e = .returned (.tuple #[.pointer none, .int .i64 r.err])) ∧
    (r.err = 0 → ∃ H, e = .returned (.tuple #[.pointer (some ⟨H.h, 0, none⟩), .int .i64 0]) ∧ H.d = bd ∧ H.v = v' ∧ HouseAt base w' H r.D r.st r.ls false ∧ (∀ k, H.V.fp k → w.heap.size ≤ k) ∧ w.heap.size ≤ H.h ∧ ∀ k, H.vl.ownBlock = some k → w.heap.size ≤ k)

theorem Rd.drop1 {w : World} {ao : Option Addr} {n c : Nat} {l : List UInt8} (h : Rd w 1 (.slice ao n c) l.length (bcells l)) (i : Nat) (hi : i ≤ l.length) :
    Rd w 1 (.slice (if c = i then ao else ao.map (fun x => x.add i)) (l.drop i).length (c - i)) (l.drop i).length (bcells (l.drop i)) := by
  have hlen : (l.drop i).length = l.length - i := List.length_drop
  refine ⟨by simp [bcells_length], bcells_one _, ?_⟩
  rcases h.2.2 with ⟨e, h0⟩ | ⟨b, o, c', e, h1, h2, hx⟩
  · injection e with e1 e2 e3
    subst e1 e3
    have : i = 0 := by omega
    subst this
    exact .inl ⟨by rw [if_pos rfl, hlen, h0], by rw [hlen, h0]⟩
  · injection e with e1 e2 e3
    subst e1 e3
    by_cases hci : c = i
    · rw [if_pos hci]
      have h0 : (l.drop i).length = 0 := by omega
      refine .inr ⟨b, o, c - i, rfl, by omega, by omega, fun j u hu => ?_⟩
      have : (bcells (l.drop i))[j]? = none := List.getElem?_eq_none (by rw [bcells_length]; omega)
      rw [this] at hu; cases hu
    · rw [if_neg hci]
      refine .inr ⟨b, o + i, c - i, ?_, by omega, by omega, fun j u hu => ?_⟩
      · simp [add_lit]
      · have : (bcells (l.drop i))[j]? = (bcells l)[i + j]? := by simp [bcells, List.map_drop]
        rw [this] at hu
        rw [Nat.add_assoc]
        exact hx _ u hu
theorem open_fin {base bd hb : Nat} {w W W' : World} {D D2 : Dsk} {v v' vl : Value} {V : StV} {S : St} {ls : List ByteArray} (hd : DiskAt base w bd D v) (hbase : base ≤ w.heap.size) (hblk : Blk W hb #[.pointer (some ⟨bd, 0, none⟩), .pointer (some ⟨V.b, 0, none⟩), vl, .bool false] 106)
    (hst : StAt W V S) (hsep : ∀ k, V.fp k → w.heap.size ≤ k ∧ k ≠ hb ∧ vl.ownBlock ≠ some k) (hown : W.ownsRow w.heap.size 9 1 vl ls.length (strCells ls)) (hbw : w.heap.size ≤ hb) (hkw : Keep (fun _ => False) w W)
    (hk : Keep (fun k => k = bd ∨ v.ownBlock = some k) W W') (hd2 : DiskAt base W' bd D2 v') (hf : v'.ownBlock = v.ownBlock ∨ ∃ g, v'.ownBlock = some g ∧ W.heap.size ≤ g) :
    OpenPost base w bd v ⟨0, D2, S, ls⟩ (.returned (.tuple #[.pointer (some ⟨hb, 0, none⟩), .int .i64 0])) W' := by
  have hbd := hd.blk.lt
  have hvl : ∀ k, v.ownBlock = some k → k < w.heap.size := fun k e => (ownsRow_lt hd.own k e).2
  have hsz := hkw.size
  refine ⟨v', hd2, hf.imp id (fun ⟨g, h1, h2⟩ => ⟨g, h1, by omega⟩), (hkw.mono (fun _ _ h => h.elim)).trans hk (fun _ _ h => h), fun h => absurd rfl h, fun _ => ⟨⟨hb, bd, v', V, vl⟩, rfl, rfl, rfl, ⟨?_, hd2, ?_, ?_, by show base ≤ hb; omega, ?_⟩, fun k h => (hsep k h).1, hbw, fun k h => (ownsRow_lt hown k h).1⟩⟩
  · exact hblk.keep hk (fun e => e.elim (fun e => by omega) (fun e => by have := hvl _ e; omega))
  · exact hst.keep hk (fun i hi e => e.elim (fun e => by have := (hsep i hi).1; omega) (fun e => by have := hvl _ e; have := (hsep i hi).1; omega))
  · exact ownsRow_base (ownsRow_keep hown hk (fun g hg e => by have h5 := (ownsRow_lt hown g hg).1; exact e.elim (fun e => by omega) (fun e => by have := hvl _ e; omega))) hbase
  · intro k hk'
    have h1 := hsep k hk'
    refine ⟨h1.2.1, fun e => by have e' : k = bd := e; omega, fun e => ?_, h1.2.2⟩
    have e' : v'.ownBlock = some k := e
    rcases hf with h2 | ⟨g, h2, h3⟩
    · have := hvl k (h2 ▸ e'); omega
    · have h4 : g = k := Option.some.inj (h2.symm.trans e')
      have := hst.lt k hk'; omega
theorem open_err {base bd : Nat} {w W W' : World} {D2 : Dsk} {v v' : Value} {S : St} {ls : List ByteArray} {er : Int} (he : er ≠ 0) (hkw : Keep (fun _ => False) w W)
    (hk : Keep (fun k => k = bd ∨ v.ownBlock = some k) W W') (hd2 : DiskAt base W' bd D2 v') (hf : v'.ownBlock = v.ownBlock ∨ ∃ g, v'.ownBlock = some g ∧ W.heap.size ≤ g) :
    OpenPost base w bd v ⟨er, D2, S, ls⟩ (.returned (.tuple #[.pointer none, .int .i64 er])) W' := by
  have hsz := hkw.size
  exact ⟨v', hd2, hf.imp id (fun ⟨g, h1, h2⟩ => ⟨g, h1, by omega⟩), (hkw.mono (fun _ _ h => h.elim)).trans hk (fun _ _ h => h), fun _ => rfl, fun h => absurd h he⟩
end Go.Proofs.YthdkamnclbfehaaGreatDoor
