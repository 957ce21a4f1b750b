/- HouseKept: a turn in memory; a house in the round, and the slices of lines beside it. -/
import Derived.Test.YthdkamnclbfehaaGreatDoorKeptLaw
import Derived.Test.YthdkamnclbfehaaGreatDoorOpened
namespace Go.Proofs.YthdkamnclbfehaaGreatDoor
set_option linter.unusedSimpArgs false
set_option linter.unusedVariables false
set_option linter.unnecessarySimpa false
open Go.RowKit

/-- A turn as it lies in memory. -/
structure TurnV where
  line : ByteArray
  fuse : Int
  keep : Int
  again : Bool
def turnCell (a : TurnV) : List Value := [.string a.line, .int .i64 a.fuse, .int .i64 a.keep, .bool a.again]
def turnCells (l : List TurnV) : List Value := l.flatMap turnCell
theorem turnCells_length (l : List TurnV) : (turnCells l).length = l.length * 4 := by
  induction l with
  | nil => rfl
  | cons x l ih => simp only [turnCells, List.flatMap_cons, List.length_append, List.length_cons] at ih ⊢; rw [ih]; simp [turnCell]; omega
theorem turnCells_get (l : List TurnV) (j i : Nat) (hj : j < l.length) (hi : i < 4) : (turnCells l)[j * 4 + i]? = (turnCell l[j])[i]? := by
  induction l generalizing j with
  | nil => exact absurd hj (by simp)
  | cons x l ih =>
    simp only [turnCells, List.flatMap_cons]
    cases j with
    | zero => rw [Nat.zero_mul, Nat.zero_add, List.getElem?_append_left (by simp [turnCell]; omega)]; rfl
    | succ j =>
      rw [List.getElem?_append_right (by simp [turnCell]; omega)]
      have : (j + 1) * 4 + i - (turnCell x).length = j * 4 + i := by simp [turnCell]; omega
      rw [this]
      exact ih j (by simpa using hj)

/-- A house in a round, with the block of the round's turn. -/
structure KR (w : World) (H : HV) (D : Dsk) (S : St) (ls : List ByteArray) (lost : Bool) (b : Nat) (T : TurnV) (wx : World) : Prop where
  at_ : HouseAt w.heap.size wx H D S ls lost
  fp : ∀ k, H.V.fp k → w.heap.size ≤ k
  keep : Keep (fun _ => False) w wx
  t : Blk wx b #[.string T.line, .int .i64 T.fuse, .int .i64 T.keep, .bool T.again] 42
theorem KR.idle {w : World} {H : HV} {D : Dsk} {S : St} {ls : List ByteArray} {lost : Bool} {b : Nat} {T : TurnV} {wx wy : World} (h : KR w H D S ls lost b T wx) (k : Keep (fun _ => False) wx wy) : KR w H D S ls lost b T wy :=
  ⟨h.at_.idle k, h.fp, h.keep.trans k (fun _ _ e => e), h.t.keep k (fun e => e)⟩
theorem KR.nb {w : World} {H : HV} {D : Dsk} {S : St} {ls : List ByteArray} {lost : Bool} {b : Nat} {T : TurnV} {wx : World} (h : KR w H D S ls lost b T wx) : ¬ H.tp b := fun e => by
  rcases e with e | e | e | e
  · exact h.t.types h.at_.blk (by decide) e
  · exact h.t.types h.at_.disk.blk (by decide) e
  · exact ownsRow_blk h.at_.disk.own h.t (by decide) e
  · exact ownsRow_blk h.at_.own h.t (by decide) e
theorem KR.step {w : World} {H H' : HV} {D D' : Dsk} {S S' : St} {ls ls' : List ByteArray} {lost lost' : Bool} {b : Nat} {T : TurnV} {wx wy : World} (h : KR w H D S ls lost b T wx) (h' : HouseAt w.heap.size wy H' D' S' ls' lost') (c : HChg wx H H' wy) : KR w H' D' S' ls' lost' b T wy :=
  ⟨h', fun k hk => (c.fp k hk).elim (h.fp k) (fun e => Nat.le_trans h.keep.size e), h.keep.trans c.keep (fun k hk e => by have := h.at_.tp_ge k e; omega), h.t.keep c.keep h.nb⟩
theorem KR.opened {w : World} {H H' : HV} {D D' : Dsk} {S S' : St} {ls ls' : List ByteArray} {lost lost' : Bool} {b : Nat} {T : TurnV} {wx wy : World} (h : KR w H D S ls lost b T wx) (h' : HouseAt w.heap.size wy H' D' S' ls' lost') (hf : ∀ k, H'.V.fp k → wx.heap.size ≤ k)
    (k : Keep (fun k => k = H.d ∨ H.v.ownBlock = some k) wx wy) : KR w H' D' S' ls' lost' b T wy :=
  ⟨h', fun i hi => Nat.le_trans h.keep.size (hf i hi), h.keep.trans k (fun i hi e => by have := h.at_.tp_ge i (e.elim (fun e => .inr (.inl e)) (fun e => .inr (.inr (.inl e)))); omega), h.t.keep k (fun e => h.nb (e.elim (fun e => .inr (.inl e)) (fun e => .inr (.inr (.inl e)))))⟩
/-- A slice of lines beside a house. -/
structure Lst (wx : World) (H : HV) (v : Value) (ls : List ByteArray) : Prop where
  rd : Rd wx 1 v ls.length (strCells ls)
  ap : ∀ k, v.ownBlock = some k → ¬ H.tp k ∧ k < wx.heap.size
theorem Lst.idle {wx wy : World} {H : HV} {v : Value} {ls : List ByteArray} (h : Lst wx H v ls) (k : Keep (fun _ => False) wx wy) : Lst wy H v ls :=
  ⟨h.rd.keep k (fun _ _ e => e), fun i e => ⟨(h.ap i e).1, Nat.lt_of_lt_of_le (h.ap i e).2 k.size⟩⟩
theorem Lst.step {wx wy : World} {H H' : HV} {v : Value} {ls : List ByteArray} (h : Lst wx H v ls) (c : HChg wx H H' wy) : Lst wy H' v ls :=
  ⟨h.rd.keep c.keep (fun i e => (h.ap i e).1), fun i e => ⟨fun t => (c.tp i t).elim (h.ap i e).1 (fun x => by have := (h.ap i e).2; omega), Nat.lt_of_lt_of_le (h.ap i e).2 c.keep.size⟩⟩
theorem Lst.disk {wx wy : World} {H : HV} {v : Value} {ls : List ByteArray} (h : Lst wx H v ls) (k : Keep (fun k => k = H.d ∨ H.v.ownBlock = some k) wx wy) : Rd wy 1 v ls.length (strCells ls) :=
  h.rd.keep k (fun i e t => (h.ap i e).1 (t.elim (fun e => .inr (.inl e)) (fun e => .inr (.inr (.inl e)))))
theorem Lst.new {base : Nat} {wx wy : World} {H : HV} {D : Dsk} {S : St} {l ls : List ByteArray} {lost : Bool} {v : Value} (h : HouseAt base wx H D S l lost) (ho : wy.ownsRow wx.heap.size 9 1 v ls.length (strCells ls)) : Lst wy H v ls :=
  ⟨ownsRow_rd ho (strCells_one ls), fun i e => ⟨fun t => by have := h.tp_lt i t; have := (ownsRow_lt ho i e).1; omega, (ownsRow_lt ho i e).2⟩⟩
end Go.Proofs.YthdkamnclbfehaaGreatDoor
