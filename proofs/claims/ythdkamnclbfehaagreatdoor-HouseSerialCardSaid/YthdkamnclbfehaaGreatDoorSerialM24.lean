/- Parts of slices of strings: what the run gives, and what is read there. -/
import Derived.Test.YthdkamnclbfehaaGreatDoorSerialM23
/- Parts of slices of strings: what the run gives, and what is read there. -/
namespace Go.Proofs.YthdkamnclbfehaaGreatDoor
set_option linter.unusedSimpArgs false
set_option linter.unusedVariables false
set_option linter.unnecessarySimpa false
open Go.RowKit
theorem Rd.dropV {w : World} {ao : Option Addr} {n c : Nat} {xs : List Value} (h : Rd w 1 (.slice ao n c) n xs) (i : Nat) (hi : i ≤ n) :
    Rd w 1 (.slice (if c = i then ao else ao.map (fun x => x.add i)) (n - i) (c - i)) (n - i) (xs.drop i) := by
  have hl := h.1
  refine ⟨by rw [List.length_drop]; omega, fun u hu => h.2.1 u (List.mem_of_mem_drop hu), ?_⟩
  rcases h.2.2 with ⟨e, h0⟩ | ⟨b, o, c', e, h1, h2, hx⟩
  · injection e with e1 e2 e3
    subst e1 e3
    have : i = 0 := by omega
    subst this
    exact .inl ⟨by rw [if_pos rfl, h0], by rw [h0]⟩
  · injection e with e1 e2 e3
    subst e1 e3
    by_cases hci : c = i
    · rw [if_pos hci]
      refine .inr ⟨b, o, c - i, rfl, by omega, by omega, fun j u hu => ?_⟩
      have : (xs.drop i)[j]? = none := List.getElem?_eq_none (by rw [List.length_drop]; omega)
      rw [this] at hu; cases hu
    · rw [if_neg hci]
      refine .inr ⟨b, o + i, c - i, ?_, by omega, by omega, fun j u hu => ?_⟩
      · simp [add_lit]
      · rw [List.getElem?_drop] at hu
        rw [Nat.add_assoc]
        exact hx _ u hu
theorem Rd.takeV {w : World} {ao : Option Addr} {n c : Nat} {xs : List Value} (h : Rd w 1 (.slice ao n c) n xs) (i : Nat) (hi : i ≤ n) : Rd w 1 (.slice ao i c) i (xs.take i) := by
  have hl := h.1
  refine ⟨by rw [List.length_take]; omega, fun u hu => h.2.1 u (List.mem_of_mem_take hu), ?_⟩
  rcases h.2.2 with ⟨e, h0⟩ | ⟨b, o, c', e, h1, h2, hx⟩
  · injection e with e1 e2 e3
    subst e1 e3
    have : i = 0 := by omega
    subst this
    exact .inl ⟨rfl, rfl⟩
  · injection e with e1 e2 e3
    subst e1 e3
    refine .inr ⟨b, o, c, rfl, by omega, h2, fun j u hu => ?_⟩
    rw [List.getElem?_take] at hu
    split at hu
    · exact hx j u hu
    · cases hu
theorem str_from {w : World} {v : Value} {l : List ByteArray} (h : Rd w 1 v l.length (strCells l)) (i : Nat) (hi : i ≤ l.length) :
    ∃ ao cap, (∀ W, (Instr.slice 44 v (some (.int .i64 (i : Int))) none none).run Tryz.prog W = .ok (.slice ao (l.drop i).length cap) W) ∧ Rd w 1 (.slice ao (l.drop i).length cap) (l.drop i).length (strCells (l.drop i)) ∧ ∀ k, (Value.slice ao (l.drop i).length cap).ownBlock = some k → v.ownBlock = some k := by
  obtain ⟨bo, bc, rfl, _⟩ := h.shape
  have hd := h.dropV i hi
  have e : (strCells l).drop i = strCells (l.drop i) := by simp [strCells]
  have hl : l.length - i = (l.drop i).length := List.length_drop.symm
  rw [e, hl] at hd
  refine ⟨_, _, fun W => ?_, hd, fun k hk => ?_⟩
  · rw [run_slice_l W 44 bo l.length bc (by kernel_rfl) .i64 (i : Int) (by omega) (by omega)]
    have h1 : (sizeOf (Tryz.prog.elem 44)).run Tryz.prog W = .ok 1 W := by kernel_rfl
    rw [h1]
    simp only [Result.andThen_ok, sliced, Int.toNat_natCast, Nat.mul_one, hl]
  · rcases bo with _ | ⟨b, o, sp⟩
    · split at hk <;> cases hk
    · split at hk
      · exact hk
      · simp [Value.ownBlock, Addr.add] at hk ⊢
        split at hk <;> exact hk
end Go.Proofs.YthdkamnclbfehaaGreatDoor
/- What Do of a house, then Crash of its disk and Open again, leave of its lines: plain Lean. -/
namespace Go.Proofs.YthdkamnclbfehaaGreatDoor
set_option linter.unusedSimpArgs false
set_option linter.unusedVariables false
set_option linter.unnecessarySimpa false
open Go.RowKit
end Go.Proofs.YthdkamnclbfehaaGreatDoor
/- HouseKept: a turn in memory; a house in the round, and the slices of lines beside it. -/
namespace Go.Proofs.YthdkamnclbfehaaGreatDoor
set_option linter.unusedSimpArgs false
set_option linter.unusedVariables false
set_option linter.unnecessarySimpa false
open Go.RowKit
structure TurnV where
  line : ByteArray
  fuse : Int
  keep : Int
  again : Bool
structure KR (w : World) (H : HV) (D : Dsk) (S : St) (ls : List ByteArray) (lost : Bool) (b : Nat) (T : TurnV) (wx : World) : Prop where
  at_ : HouseAt w.heap.size wx H D S ls lost
  fp : ∀ k, H.V.fp k → w.heap.size ≤ k
  keep : Keep (fun _ => False) w wx
  t : Blk wx b #[.string T.line, .int .i64 T.fuse, .int .i64 T.keep, .bool T.again] 42
theorem KR.idle {w : World} {H : HV} {D : Dsk} {S : St} {ls : List ByteArray} {lost : Bool} {b : Nat} {T : TurnV} {wx wy : World} (h : KR w H D S ls lost b T wx) (k : Keep (fun _ => False) wx wy) : KR w H D S ls lost b T wy :=
  ⟨h.at_.idle k, h.fp, h.keep.trans k (fun _ _ e => e), h.t.keep k (fun e => e)⟩
theorem KR.nb {w : World} {H : HV} {D : Dsk} {S : St} {ls : List ByteArray} {lost : Bool} {b : Nat} {T : TurnV} {wx : World} (h : KR w H D S ls lost b T wx) : ¬ H.tp b := fun e => by
  rcases e with e | e | e | e
  · exact h.t.types h.at_.blk (by decide) e
  · exact h.t.types h.at_.disk.blk (by decide) e
  · exact ownsRow_blk h.at_.disk.own h.t (by decide) e
  · exact ownsRow_blk h.at_.own h.t (by decide) e
theorem KR.step {w : World} {H H' : HV} {D D' : Dsk} {S S' : St} {ls ls' : List ByteArray} {lost lost' : Bool} {b : Nat} {T : TurnV} {wx wy : World} (h : KR w H D S ls lost b T wx) (h' : HouseAt w.heap.size wy H' D' S' ls' lost') (c : HChg wx H H' wy) : KR w H' D' S' ls' lost' b T wy :=
  ⟨h', fun k hk => (c.fp k hk).elim (h.fp k) (fun e => Nat.le_trans h.keep.size e), h.keep.trans c.keep (fun k hk e => by have := h.at_.tp_ge k e; omega), h.t.keep c.keep h.nb⟩
structure Lst (wx : World) (H : HV) (v : Value) (ls : List ByteArray) : Prop where
  rd : Rd wx 1 v ls.length (strCells ls)
  ap : ∀ k, v.ownBlock = some k → ¬ H.tp k ∧ k < wx.heap.size
theorem Lst.idle {wx wy : World} {H : HV} {v : Value} {ls : List ByteArray} (h : Lst wx H v ls) (k : Keep (fun _ => False) wx wy) : Lst wy H v ls :=
  ⟨h.rd.keep k (fun _ _ e => e), fun i e => ⟨(h.ap i e).1, Nat.lt_of_lt_of_le (h.ap i e).2 k.size⟩⟩
theorem Lst.step {wx wy : World} {H H' : HV} {v : Value} {ls : List ByteArray} (h : Lst wx H v ls) (c : HChg wx H H' wy) : Lst wy H' v ls :=
  ⟨h.rd.keep c.keep (fun i e => (h.ap i e).1), fun i e => ⟨fun t => (c.tp i t).elim (h.ap i e).1 (fun x => by have := (h.ap i e).2; omega), Nat.lt_of_lt_of_le (h.ap i e).2 c.keep.size⟩⟩
theorem Lst.disk {wx wy : World} {H : HV} {v : Value} {ls : List ByteArray} (h : Lst wx H v ls) (k : Keep (fun k => k = H.d ∨ H.v.ownBlock = some k) wx wy) : Rd wy 1 v ls.length (strCells ls) :=
  h.rd.keep k (fun i e t => (h.ap i e).1 (t.elim (fun e => .inr (.inl e)) (fun e => .inr (.inr (.inl e)))))
theorem Lst.new {base : Nat} {wx wy : World} {H : HV} {D : Dsk} {S : St} {l ls : List ByteArray} {lost : Bool} {v : Value} (h : HouseAt base wx H D S l lost) (ho : wy.ownsRow wx.heap.size 9 1 v ls.length (strCells ls)) : Lst wy H v ls :=
  ⟨ownsRow_rd ho (strCells_one ls), fun i e => ⟨fun t => by have := h.tp_lt i t; have := (ownsRow_lt ho i e).1; omega, (ownsRow_lt ho i e).2⟩⟩
end Go.Proofs.YthdkamnclbfehaaGreatDoor
/- What State says of a state: plain Lean; strings.Join over a slice of lines. -/
namespace Go.Proofs.YthdkamnclbfehaaGreatDoor
set_option linter.unusedSimpArgs false
set_option linter.unusedVariables false
set_option linter.unnecessarySimpa false
open Go.RowKit
def jbs (xs : List ByteArray) (sep : ByteArray) : ByteArray := ⟨(Lib.join (xs.map (·.data.toList)) sep.data.toList).toArray⟩
theorem jbs_size (x : ByteArray) (xs : List ByteArray) (c : UInt8) (n : Nat) (hn : ∀ y ∈ xs, y.size ≤ n) : (jbs (x :: xs) (bs [c])).size ≤ x.size + xs.length * (n + 1) := by
  have h : (jbs (x :: xs) (bs [c])).size = x.size + (xs.length + Lib.lens (xs.map (·.data.toList))) := by
    have e1 : (jbs (x :: xs) (bs [c])).size = (Lib.join ((x :: xs).map (·.data.toList)) (bs [c]).data.toList).length := by simp [jbs, ByteArray.size]
    have e2 : x.data.toList.length = x.size := by simp
    rw [e1, List.map_cons, Lib.join_cons, List.length_append, Lib.joinTail_length, e2]
    simp [bs]
  rw [h]
  have : Lib.lens (xs.map (·.data.toList)) ≤ xs.length * n := by
    clear h
    induction xs with
    | nil => simp [Lib.lens]
    | cons y ys ih =>
      have h1 := ih (fun z hz => hn z (List.mem_cons_of_mem _ hz))
      have h2 := hn y (List.mem_cons_self ..)
      have e2 : y.data.toList.length = y.size := by simp
      simp only [Lib.lens, List.map_cons, List.sum_cons, List.length_cons, Nat.add_mul] at h1 ⊢
      omega
  rw [Nat.mul_add]
  omega
theorem jbs_len (xs : List ByteArray) (sep : ByteArray) : (jbs xs sep).size = (Lib.join (xs.map (·.data.toList)) sep.data.toList).length := by simp [jbs, ByteArray.size]
def bayS (x : Lot) : ByteArray := if 0 ≤ x.bay then itoaB x.bay else bs [45]
def isS (x : Lot) : ByteArray := if x.closed then bs [99, 108, 111, 115, 101, 100] else bs [111, 112, 101, 110]
def lotS (i : Nat) (x : Lot) : ByteArray := jbs [itoaB ((i : Int) + 1), x.spice, itoaB x.grams, bayS x, isS x] (bs [58])
def listN (l : List Lot) : Nat → ByteArray
  | 0 => bs [108, 111, 116, 115]
  | k + 1 => listN l k ++ (bs [32] ++ lotS k (l.getD k ⟨bs [], 0, 0, false⟩))
def listF (l : List Lot) : ByteArray := listN l l.length
def textF (S : St) : ByteArray := jbs (listF S.lots :: S.notes) (bs [10]) ++ bs [10]
theorem bayS_size {x : Lot} (h : x.ok) : (bayS x).size ≤ 21 := by
  unfold bayS
  split
  · exact itoaB_size _ (by omega) (by have := h.b; omega)
  · simp [bs, ByteArray.size]
theorem isS_size (x : Lot) : (isS x).size ≤ 6 := by unfold isS; split <;> simp [bs, ByteArray.size]
theorem lotS_size {x : Lot} (h : x.ok) {i : Nat} (hi : i ≤ 1000000) : (lotS i x).size ≤ 120 := by
  have h1 := itoaB_size ((i : Int) + 1) (by omega) (by omega)
  have h2 := itoaB_size x.grams h.g.1 h.g.2
  have h3 := bayS_size h
  have h4 := isS_size x
  have h5 := h.s
  have := jbs_size (itoaB ((i : Int) + 1)) [x.spice, itoaB x.grams, bayS x, isS x] 58 21 (fun y hy => by
    simp only [List.mem_cons, List.not_mem_nil, or_false] at hy
    rcases hy with rfl | rfl | rfl | rfl <;> omega)
  unfold lotS
  simp only [List.length_cons, List.length_nil] at this
  omega
theorem listN_size {l : List Lot} (h : ∀ x ∈ l, x.ok) : ∀ k, k ≤ l.length → k ≤ 1000000 → (listN l k).size ≤ 4 + 121 * k := by
  intro k
  induction k with
  | zero => intro _ _; simp [listN, bs, ByteArray.size]
  | succ k ih =>
    intro hk hk2
    have h1 := ih (by omega) (by omega)
    have h2 : (l.getD k ⟨bs [], 0, 0, false⟩).ok := by
      have e : l.getD k ⟨bs [], 0, 0, false⟩ = l[k]'(by omega) := by simp [List.getD, List.getElem?_eq_getElem (show k < l.length by omega)]
      rw [e]
      exact h _ (by simp)
    have h3 := lotS_size h2 (i := k) (by omega)
    simp only [listN, ByteArray.size_append, show (bs [32]).size = 1 from rfl]
    omega
theorem textF_size {k : Nat} {S : St} (h : Inv k S) (hk : k ≤ 100000000) : (jbs (listF S.lots :: S.notes) (bs [10])).size ≤ 2424 + S.notes.length * 101 := by
  have h1 := listN_size h.lo S.lots.length (Nat.le_refl _) (by have := h.l; omega)
  have h2 := jbs_size (listF S.lots) S.notes 10 100 h.no
  have h3 := h.l
  unfold listF at h2 ⊢
  omega
theorem join_row {W : World} {base n : Nat} {v : Value} {xs : List ByteArray} {sep : ByteArray} (ho : W.ownsRow base 9 1 v n (strCells xs)) (hn : xs.length ≤ 140737488355328) (hl : (jbs xs sep).size ≤ 140737488355328) :
    Calls Tryz.prog 92 #[v, .string sep] W (IdxPost W (.string (jbs xs sep))) := by
  have hlen : n = xs.length := by have := ho.1; simp [strCells] at this; omega
  subst hlen
  have hrd := ownsRow_rd ho (strCells_one xs)
  rcases ho.2 with ⟨rfl, h0⟩ | ⟨g, cap, cur, rfl, hb, hg, hc1, hc2, hc3, hc4⟩
  · obtain rfl : xs = [] := List.eq_nil_of_length_eq_zero h0
    exact (Tryz.strings_Join_none none 0 sep W).mono fun e w' ⟨he, hw⟩ => ⟨he, hw ▸ Keep.refl _ _⟩
  · rw [jbs_len] at hl
    refine (Tryz.strings_Join g 0 cap xs sep W (fun j x hx => ?_) (Array.getElem?_eq_some_iff.1 hg).1 hn hc1 hl).mono fun e w' ⟨he, hw⟩ => ⟨he, Keep.ofBelow hw _⟩
    rcases hrd.2.2 with ⟨h, _⟩ | ⟨b, o, c, h, _, _, hx'⟩
    · cases h
    · cases h
      exact hx' j _ (by simp [strCells, hx])
theorem ownsRow_one {w : World} {base b : Nat} {e : TypeId} {u : Array Value} {n : Nat} (h : Blk w b u e) (hb : base ≤ b) (hn : u.size = n) (hm : n ≤ maxLen) : w.ownsRow base e 1 (.slice (some ⟨b, 0, none⟩) n n) n u.toList := by
  refine ⟨by simp [hn], .inr ⟨b, n, u, rfl, hb, h, Nat.le_refl _, hm, by omega, List.take_of_length_le (by rw [Array.length_toList]; omega)⟩⟩
end Go.Proofs.YthdkamnclbfehaaGreatDoor
