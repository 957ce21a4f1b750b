/- A house in memory: what each write into it leaves. -/
import Derived.Test.YthdkamnclbfehaaGreatDoorHouse
namespace Go.Proofs.YthdkamnclbfehaaGreatDoor
set_option linter.unusedSimpArgs false
set_option linter.unusedVariables false
set_option linter.unnecessarySimpa false
open Go.RowKit

/-- What a call on a house leaves. -/
structure HChg (w : World) (H H' : HV) (w' : World) : Prop where
  h : H'.h = H.h
  d : H'.d = H.d
  tp : ∀ k, H'.tp k → H.tp k ∨ w.heap.size ≤ k
  fp : ∀ k, H'.V.fp k → H.V.fp k ∨ w.heap.size ≤ k
  keep : Keep H.tp w w'
theorem HChg.refl (w : World) (H : HV) : HChg w H H w := ⟨rfl, rfl, fun _ h => .inl h, fun _ h => .inl h, Keep.refl _ _⟩
theorem HChg.trans {w w1 w2 : World} {H H1 H2 : HV} (a : HChg w H H1 w1) (b : HChg w1 H1 H2 w2) : HChg w H H2 w2 :=
  ⟨b.h.trans a.h, b.d.trans a.d, fun k hk => (b.tp k hk).elim (a.tp k) (fun e => .inr (Nat.le_trans a.keep.size e)), fun k hk => (b.fp k hk).elim (a.fp k) (fun e => .inr (Nat.le_trans a.keep.size e)),
   a.keep.trans b.keep (fun k hk e => (a.tp k e).elim id (fun e' => absurd hk (by omega)))⟩
theorem HChg.idle {w w' : World} (H : HV) (k : Keep (fun _ => False) w w') : HChg w H H w' := ⟨rfl, rfl, fun _ h => .inl h, fun _ h => .inl h, k.mono (fun _ _ h => h.elim)⟩

theorem HouseAt.fp_lt {base : Nat} {w : World} {H : HV} {D : Dsk} {S : St} {ls : List ByteArray} {lost : Bool} (h : HouseAt base w H D S ls lost) : ∀ k, H.V.fp k → k < w.heap.size := h.st.lt
theorem HouseAt.tp_lt {base : Nat} {w : World} {H : HV} {D : Dsk} {S : St} {ls : List ByteArray} {lost : Bool} (h : HouseAt base w H D S ls lost) : ∀ k, H.tp k → k < w.heap.size := fun k hk => by
  rcases hk with e | e | e | e
  · rw [e]; exact h.blk.lt
  · rw [e]; exact h.disk.blk.lt
  · exact (ownsRow_lt h.disk.own k e).2
  · exact (ownsRow_lt h.own k e).2
theorem HouseAt.hd {base : Nat} {w : World} {H : HV} {D : Dsk} {S : St} {ls : List ByteArray} {lost : Bool} (h : HouseAt base w H D S ls lost) : H.h ≠ H.d := h.blk.types h.disk.blk (by decide)
theorem HouseAt.vh {base : Nat} {w : World} {H : HV} {D : Dsk} {S : St} {ls : List ByteArray} {lost : Bool} (h : HouseAt base w H D S ls lost) : H.v.ownBlock ≠ some H.h := ownsRow_blk h.disk.own h.blk (by decide)
theorem HouseAt.lh {base : Nat} {w : World} {H : HV} {D : Dsk} {S : St} {ls : List ByteArray} {lost : Bool} (h : HouseAt base w H D S ls lost) : H.vl.ownBlock ≠ some H.h := ownsRow_blk h.own h.blk (by decide)
theorem HouseAt.ld {base : Nat} {w : World} {H : HV} {D : Dsk} {S : St} {ls : List ByteArray} {lost : Bool} (h : HouseAt base w H D S ls lost) : H.vl.ownBlock ≠ some H.d := ownsRow_blk h.own h.disk.blk (by decide)
theorem HouseAt.lv {base : Nat} {w : World} {H : HV} {D : Dsk} {S : St} {ls : List ByteArray} {lost : Bool} (h : HouseAt base w H D S ls lost) : ∀ k, H.vl.ownBlock = some k → H.v.ownBlock ≠ some k := ownsRow_types h.own h.disk.own (by decide)

theorem HouseAt.idle {base : Nat} {w w' : World} {H : HV} {D : Dsk} {S : St} {ls : List ByteArray} {lost : Bool} (h : HouseAt base w H D S ls lost) (k : Keep (fun _ => False) w w') : HouseAt base w' H D S ls lost :=
  h.keep k (fun _ _ h => h) (fun _ _ h => h)
theorem HouseAt.onDisk {base : Nat} {w w' : World} {H : HV} {D D' : Dsk} {S : St} {ls : List ByteArray} {lost : Bool} {v' : Value} (h : HouseAt base w H D S ls lost) (k : Keep (fun k => k = H.d ∨ H.v.ownBlock = some k) w w')
    (hd : DiskAt base w' H.d D' v') (hf : v'.ownBlock = H.v.ownBlock ∨ ∃ g, v'.ownBlock = some g ∧ w.heap.size ≤ g) :
    HouseAt base w' { H with v := v' } D' S ls lost ∧ HChg w H { H with v := v' } w' := by
  refine ⟨⟨h.blk.keep k (fun e => e.elim h.hd h.vh), hd, h.st.keep k (fun i hi e => e.elim (h.sep i hi).2.1 (h.sep i hi).2.2.1), ownsRow_keep h.own k (fun g hg e => e.elim (fun e => h.ld (e ▸ hg)) (h.lv g hg)), h.ge, fun i hi => ⟨(h.sep i hi).1, (h.sep i hi).2.1, fun e => ?_, (h.sep i hi).2.2.2⟩⟩, rfl, rfl, fun i hi => ?_, fun _ h => .inl h, k.mono (fun i _ e => e.elim (fun e => .inr (.inl e)) (fun e => .inr (.inr (.inl e))))⟩
  · have e' : v'.ownBlock = some i := e
    rcases hf with h1 | ⟨g, h1, h2⟩
    · exact (h.sep i hi).2.2.1 (h1 ▸ e')
    · have h3 : g = i := Option.some.inj (h1.symm.trans e')
      have := h.fp_lt i hi; omega
  · rcases hi with e | e | e | e
    · exact .inl (.inl e)
    · exact .inl (.inr (.inl e))
    · have e' : v'.ownBlock = some i := e
      rcases hf with h1 | ⟨g, h1, h2⟩
      · exact .inl (.inr (.inr (.inl (h1 ▸ e'))))
      · have h3 : g = i := Option.some.inj (h1.symm.trans e')
        exact .inr (by omega)
    · exact .inl (.inr (.inr (.inr e)))
theorem HouseAt.setH {base : Nat} {w : World} {H : HV} {D : Dsk} {S : St} {ls : List ByteArray} {lost : Bool} (h : HouseAt base w H D S ls lost) (o : Nat) (u : Value) :
    DiskAt base (w.setCell ⟨H.h, o, none⟩ u) H.d D H.v ∧ StAt (w.setCell ⟨H.h, o, none⟩ u) H.V S ∧ (w.setCell ⟨H.h, o, none⟩ u).ownsRow base 9 1 H.vl ls.length (strCells ls) ∧ Keep (fun k => k = H.h) w (w.setCell ⟨H.h, o, none⟩ u) := by
  have hk : Keep (fun k => k = H.h) w (w.setCell ⟨H.h, o, none⟩ u) := (Keep.refl _ _).setCell _ _ (fun _ => rfl)
  exact ⟨h.disk.keep hk (fun e => h.hd e.symm) (fun g hg e => h.vh (e ▸ hg)), h.st.keep hk (fun i hi e => (h.sep i hi).1 e), ownsRow_keep h.own hk (fun g hg e => h.lh (e ▸ hg)), hk⟩
theorem HouseAt.setLost {base : Nat} {w : World} {H : HV} {D : Dsk} {S : St} {ls : List ByteArray} {lost : Bool} (h : HouseAt base w H D S ls lost) (b : Bool) :
    HouseAt base (w.setCell ⟨H.h, 3, none⟩ (.bool b)) H D S ls b ∧ HChg w H H (w.setCell ⟨H.h, 3, none⟩ (.bool b)) := by
  obtain ⟨h1, h2, h3, hk⟩ := h.setH 3 (.bool b)
  exact ⟨⟨by simpa using h.blk.set 3 (.bool b), h1, h2, h3, h.ge, h.sep⟩, rfl, rfl, fun _ h => .inl h, fun _ h => .inl h, hk.mono (fun _ _ e => .inl e)⟩
theorem HouseAt.setState {base : Nat} {w : World} {H : HV} {D : Dsk} {S S' : St} {ls : List ByteArray} {lost : Bool} {V' : StV} (h : HouseAt base w H D S ls lost) (hs : StAt w V' S')
    (hf : ∀ k, V'.fp k → k ≠ H.h ∧ k ≠ H.d ∧ H.v.ownBlock ≠ some k ∧ H.vl.ownBlock ≠ some k) :
    HouseAt base (w.setCell ⟨H.h, 1, none⟩ (.pointer (some ⟨V'.b, 0, none⟩))) { H with V := V' } D S' ls lost := by
  obtain ⟨h1, h2, h3, hk⟩ := h.setH 1 (.pointer (some ⟨V'.b, 0, none⟩))
  exact ⟨by simpa using h.blk.set 1 (.pointer (some ⟨V'.b, 0, none⟩)), h1, hs.keep hk (fun i hi e => (hf i hi).1 e), h3, h.ge, hf⟩
theorem HouseAt.setLines {base : Nat} {w w1 : World} {H : HV} {D : Dsk} {S : St} {ls : List ByteArray} {lost : Bool} {vl' : Value} {ls' : List ByteArray} (h : HouseAt base w H D S ls lost)
    (k : Keep (fun k => H.vl.ownBlock = some k) w w1) (ho : w1.ownsRow base 9 1 vl' ls'.length (strCells ls')) (hf : vl'.ownBlock = H.vl.ownBlock ∨ ∃ g, vl'.ownBlock = some g ∧ w.heap.size ≤ g) :
    HouseAt base (w1.setCell ⟨H.h, 2, none⟩ vl') { H with vl := vl' } D S ls' lost ∧ HChg w H { H with vl := vl' } (w1.setCell ⟨H.h, 2, none⟩ vl') := by
  have hk : Keep (fun k => k = H.h) w1 (w1.setCell ⟨H.h, 2, none⟩ vl') := (Keep.refl _ _).setCell _ _ (fun _ => rfl)
  have hb1 := h.blk.keep k h.lh
  have hn : ∀ i, vl'.ownBlock = some i → (H.V.fp i → False) := fun i e hi => by
    rcases hf with h1 | ⟨g, h1, h2⟩
    · exact (h.sep i hi).2.2.2 (h1 ▸ e)
    · have h3 : g = i := Option.some.inj (h1.symm.trans e)
      have := h.fp_lt i hi; omega
  refine ⟨⟨by simpa using hb1.set 2 vl', (h.disk.keep k h.ld (fun g hg e => h.lv g e hg)).keep hk (fun e => h.hd e.symm) (fun g hg e => h.vh (e ▸ hg)), (h.st.keep k (fun i hi e => (h.sep i hi).2.2.2 e)).keep hk (fun i hi e => (h.sep i hi).1 e),
    ownsRow_keep ho hk (fun g hg e => ownsRow_blk ho hb1 (by decide) (e ▸ hg)), h.ge, fun i hi => ⟨(h.sep i hi).1, (h.sep i hi).2.1, (h.sep i hi).2.2.1, fun e => hn i e hi⟩⟩, rfl, rfl, fun i hi => ?_, fun _ h => .inl h,
    (k.mono (fun i _ e => .inr (.inr (.inr e)))).trans hk (fun i _ e => .inl e)⟩
  rcases hi with e | e | e | e
  · exact .inl (.inl e)
  · exact .inl (.inr (.inl e))
  · exact .inl (.inr (.inr (.inl e)))
  · have e' : vl'.ownBlock = some i := e
    rcases hf with h1 | ⟨g, h1, h2⟩
    · exact .inl (.inr (.inr (.inr (h1 ▸ e'))))
    · have h3 : g = i := Option.some.inj (h1.symm.trans e')
      exact .inr (by omega)

theorem hdo_fin {base : Nat} {w w3 wc w5 w6 : World} {H H5 H6 : HV} {D D2 : Dsk} {S rs : St} {ls : List ByteArray} {lost : Bool} {V' : StV} (h : HouseAt base w H D S ls lost) (hk3 : Keep (fun _ => False) w w3) (hkc : Keep (fun _ => False) w3 wc) (hst : StAt w3 V' rs)
    (hfp : ∀ k, V'.fp k → H.V.fp k ∨ w.heap.size ≤ k) (hc5 : HChg wc H H5 w5) (hc6 : HChg w5 H5 H6 w6) (h6 : HouseAt base w6 H6 D2 S ls lost) :
    HouseAt base (w6.setCell ⟨H6.h, 1, none⟩ (.pointer (some ⟨V'.b, 0, none⟩))) { H6 with V := V' } D2 rs ls lost ∧ HChg w H { H6 with V := V' } (w6.setCell ⟨H6.h, 1, none⟩ (.pointer (some ⟨V'.b, 0, none⟩))) := by
  have hc56 := hc5.trans hc6
  have hz3 := hk3.size
  have hzc := hkc.size
  have hap : ∀ k, V'.fp k → ¬ H.tp k := fun k hk e => by
    rcases hfp k hk with e' | e'
    · have := h.sep k e'
      rcases e with e | e | e | e
      · exact this.1 e
      · exact this.2.1 e
      · exact this.2.2.1 e
      · exact this.2.2.2 e
    · have := h.tp_lt k e; omega
  have hlt : ∀ k, V'.fp k → k < wc.heap.size := fun k hk => by have := hst.lt k hk; omega
  have hap6 : ∀ k, V'.fp k → ¬ H6.tp k := fun k hk e => by
    rcases hc56.tp k e with e' | e'
    · exact hap k hk e'
    · have := hlt k hk; omega
  have hst6 : StAt w6 V' rs := (hst.keep hkc (fun _ _ h => h)).keep hc56.keep hap
  refine ⟨h6.setState hst6 (fun k hk => ⟨fun e => hap6 k hk (.inl e), fun e => hap6 k hk (.inr (.inl e)), fun e => hap6 k hk (.inr (.inr (.inl e))), fun e => hap6 k hk (.inr (.inr (.inr e)))⟩), hc56.h, hc56.d, fun k hk => ?_, fun k hk => hfp k hk, ?_⟩
  · rcases hc56.tp k hk with e | e
    · exact .inl e
    · exact .inr (by omega)
  · have hkw : Keep H.tp w w6 := ((hk3.trans hkc (fun _ _ h => h)).mono (fun _ _ h => h.elim)).trans hc56.keep (fun _ _ h => h)
    refine hkw.setCell _ _ (fun hl => ?_)
    rw [hc56.h]
    exact .inl rfl
structure HRes where
  err : Int
  out : ByteArray
  D : Dsk
  st : St
  ls : List ByteArray
  lost : Bool
/-- What Do of a house does. -/
def hdoF (F : Nat → St → FA → Res) (D : Dsk) (S : St) (ls : List ByteArray) (lost : Bool) (s : ByteArray) : HRes :=
  if lost then ⟨7, bs [], D, S, ls, true⟩
  else if (doF F S s).err = 0 then
    if (appendF D (s.data.toList ++ [10])).1 = 0 then
      if (syncF (appendF D (s.data.toList ++ [10])).2).1 = 0 then ⟨0, (doF F S s).out, (syncF (appendF D (s.data.toList ++ [10])).2).2, (doF F S s).st, ls ++ [s], false⟩
      else ⟨(syncF (appendF D (s.data.toList ++ [10])).2).1, bs [], (syncF (appendF D (s.data.toList ++ [10])).2).2, S, ls, true⟩
    else ⟨(appendF D (s.data.toList ++ [10])).1, bs [], (appendF D (s.data.toList ++ [10])).2, S, ls, (appendF D (s.data.toList ++ [10])).1 == 10⟩
  else ⟨(doF F S s).err, bs [], D, S, ls, false⟩
def HDoPost (base : Nat) (w : World) (H : HV) (r : HRes) (e : Ending) (w' : World) : Prop :=
  ∃ H', e = .returned (.tuple #[.string r.out, .int .i64 r.err]) ∧ HouseAt base w' H' r.D r.st r.ls r.lost ∧ HChg w H H' w'
theorem doF_size {F : Nat → St → FA → Res} {S : St} {s : ByteArray} (h : (doF F S s).err = 0) : s.size ≤ 200 := by
  unfold doF formF at h
  by_cases hl : isLineB s = true
  · unfold isLineB at hl; simp at hl; exact hl.1
  · simp [hl] at h
end Go.Proofs.YthdkamnclbfehaaGreatDoor
