/- HouseDisks: the two disks agree; each act on both. -/
import Derived.Test.YthdkamnclbfehaaGreatDoorAwake
namespace Go.Proofs.YthdkamnclbfehaaGreatDoor
set_option linter.unusedSimpArgs false
set_option linter.unusedVariables false
set_option linter.unnecessarySimpa false
open Go.RowKit

/-- The program's disk and the reference's. -/
structure Pair (base : Nat) (w : World) (d x : Nat) (D E : Dsk) (v u : Value) : Prop where
  a : DiskAt base w d D v
  b : RDiskAt base w x E u
  ne : ∀ k, v.ownBlock = some k → u.ownBlock ≠ some k
/-- What acts on both may write. -/
def PT (d x : Nat) (v u : Value) (k : Nat) : Prop := (k = d ∨ v.ownBlock = some k) ∨ (k = x ∨ u.ownBlock = some k)
theorem Pair.dx {base : Nat} {w : World} {d x : Nat} {D E : Dsk} {v u : Value} (h : Pair base w d x D E v u) : d ≠ x := h.a.blk.types h.b.blk (by decide)
theorem Pair.vx {base : Nat} {w : World} {d x : Nat} {D E : Dsk} {v u : Value} (h : Pair base w d x D E v u) : v.ownBlock ≠ some x := ownsRow_blk h.a.own h.b.blk (by decide)
theorem Pair.ud {base : Nat} {w : World} {d x : Nat} {D E : Dsk} {v u : Value} (h : Pair base w d x D E v u) : u.ownBlock ≠ some d := ownsRow_blk h.b.own h.a.blk (by decide)
theorem Pair.lt {base : Nat} {w : World} {d x : Nat} {D E : Dsk} {v u : Value} (h : Pair base w d x D E v u) : ∀ k, PT d x v u k → k < w.heap.size := fun k hk => by
  rcases hk with (e | e) | (e | e)
  · rw [e]; exact h.a.blk.lt
  · exact (ownsRow_lt h.a.own k e).2
  · rw [e]; exact h.b.blk.lt
  · exact (ownsRow_lt h.b.own k e).2
theorem Pair.keep {T : Nat → Prop} {base : Nat} {w w' : World} {d x : Nat} {D E : Dsk} {v u : Value} (h : Pair base w d x D E v u) (k : Keep T w w') (hT : ∀ i, PT d x v u i → ¬ T i) : Pair base w' d x D E v u :=
  ⟨h.a.keep k (hT _ (.inl (.inl rfl))) (fun g e => hT g (.inl (.inr e))), h.b.keep k (hT _ (.inr (.inl rfl))) (fun g e => hT g (.inr (.inr e))), h.ne⟩
/-- What acts on both leave. -/
structure PChg (w : World) (d x : Nat) (v u v' u' : Value) (w' : World) : Prop where
  keep : Keep (PT d x v u) w w'
  fp : ∀ k, PT d x v' u' k → PT d x v u k ∨ w.heap.size ≤ k
theorem PChg.refl (w : World) (d x : Nat) (v u : Value) : PChg w d x v u v u w := ⟨Keep.refl _ _, fun _ h => .inl h⟩
theorem PChg.trans {w w1 w2 : World} {d x : Nat} {v u v1 u1 v2 u2 : Value} (a : PChg w d x v u v1 u1 w1) (b : PChg w1 d x v1 u1 v2 u2 w2) : PChg w d x v u v2 u2 w2 :=
  ⟨a.keep.trans b.keep (fun k hk e => (a.fp k e).elim id (fun e' => absurd hk (by omega))), fun k hk => (b.fp k hk).elim (a.fp k) (fun e => .inr (Nat.le_trans a.keep.size e))⟩
theorem PChg.after {T : Nat → Prop} {w w1 w2 : World} {d x : Nat} {v u v1 u1 : Value} (a : PChg w d x v u v1 u1 w1) (k : Keep T w1 w2) (hT : ∀ i, i < w.heap.size → ¬ T i) : PChg w d x v u v1 u1 w2 :=
  ⟨a.keep.trans k (fun i hi e => absurd e (hT i hi)), a.fp⟩
theorem PChg.before {w w1 w2 : World} {d x : Nat} {v u v1 u1 : Value} (k : Keep (fun _ => False) w w1) (a : PChg w1 d x v u v1 u1 w2) : PChg w d x v u v1 u1 w2 :=
  ⟨(k.mono (fun _ _ h => h.elim)).trans a.keep (fun _ _ h => h), fun i hi => (a.fp i hi).imp id (fun e => Nat.le_trans k.size e)⟩
theorem Pair.stepA {base : Nat} {w w1 : World} {d x : Nat} {D E D' : Dsk} {v u v' : Value} (h : Pair base w d x D E v u)
    (k1 : Keep (fun k => k = d ∨ v.ownBlock = some k) w w1) (h1 : DiskAt base w1 d D' v') (f1 : v'.ownBlock = v.ownBlock ∨ ∃ g, v'.ownBlock = some g ∧ w.heap.size ≤ g) :
    Pair base w1 d x D' E v' u ∧ PChg w d x v u v' u w1 := by
  refine ⟨⟨h1, h.b.keep k1 (fun e => e.elim (fun e => h.dx e.symm) h.vx) (fun g e e' => e'.elim (fun e' => h.ud (e' ▸ e)) (fun e' => h.ne g e' e)), fun k e e' => ?_⟩, k1.mono (fun _ _ e => .inl e), fun k hk => ?_⟩
  · rcases f1 with e1 | ⟨g, e1, e2⟩
    · exact h.ne k (e1 ▸ e) e'
    · have h5 : g = k := Option.some.inj (e1.symm.trans e)
      have := (ownsRow_lt h.b.own k e').2; omega
  · rcases hk with (e | e) | e
    · exact .inl (.inl (.inl e))
    · rcases f1 with e1 | ⟨g, e1, e2⟩
      · exact .inl (.inl (.inr (e1 ▸ e)))
      · have h5 : g = k := Option.some.inj (e1.symm.trans e)
        exact .inr (by omega)
    · exact .inl (.inr e)
theorem Pair.stepB {base : Nat} {w w1 : World} {d x : Nat} {D E E' : Dsk} {v u u' : Value} (h : Pair base w d x D E v u)
    (k1 : Keep (fun k => k = x ∨ u.ownBlock = some k) w w1) (h1 : RDiskAt base w1 x E' u') (f1 : u'.ownBlock = u.ownBlock ∨ ∃ g, u'.ownBlock = some g ∧ w.heap.size ≤ g) :
    Pair base w1 d x D E' v u' ∧ PChg w d x v u v u' w1 := by
  refine ⟨⟨h.a.keep k1 (fun e => e.elim h.dx h.ud) (fun g e e' => e'.elim (fun e' => h.vx (e' ▸ e)) (h.ne g e)), h1, fun k e e' => ?_⟩, k1.mono (fun _ _ e => .inr e), fun k hk => ?_⟩
  · rcases f1 with e1 | ⟨g, e1, e2⟩
    · exact h.ne k e (e1 ▸ e')
    · have h5 : g = k := Option.some.inj (e1.symm.trans e')
      have := (ownsRow_lt h.a.own k e).2; omega
  · rcases hk with e | (e | e)
    · exact .inl (.inl e)
    · exact .inl (.inr (.inl e))
    · rcases f1 with e1 | ⟨g, e1, e2⟩
      · exact .inl (.inr (.inr (e1 ▸ e)))
      · have h5 : g = k := Option.some.inj (e1.symm.trans e)
        exact .inr (by omega)

set_option maxHeartbeats 1000000 in
theorem same_any {base : Nat} {w : World} {d x : Nat} {D : Dsk} {v u : Value} (h : Pair base w d x D D v u) :
    Calls Tryz.prog 15 #[.pointer (some ⟨d, 0, none⟩), .pointer (some ⟨x, 0, none⟩)] w (IdxPost w (.bool true)) := by
  have hr := read_any h.a
  have HP := Lib.hid h; clear h
  cases hoff : D.off with
  | true =>
    have HR := Lib.hid hr; clear hr
    have HO := Lib.hid hoff; clear hoff
    go_enter Tryz.func15, Tryz.ntmps15
    go_wp2_with (go_at_call 29; refine HR.out.mono ?_; rintro e w1 ⟨v', rfl, ho1, hk1⟩; rw [HO.out] at ho1; rw [HO.out]; simp only [if_true] at ho1; simp only [if_true]; obtain ⟨ao, cap, rfl, _⟩ := ownsRow_shape ho1; have HK1 := Lib.hid hk1; have c3 := ((HP.out.b.blk).keep hk1 (fun h => h)).cell 3; simp at c3; rw [HO.out] at c3; clear ho1 hk1)
    go_ret
    exact ⟨rfl, HK1.out⟩
  | false =>
    have HR := Lib.hid hr; clear hr
    have HO := Lib.hid hoff; clear hoff
    have hu := (ownsRow_rd HP.out.b.own (bcells_one _)).shape
    obtain ⟨uo, uc, hue, _⟩ := hu
    subst hue
    go_enter Tryz.func15, Tryz.ntmps15
    go_wp2_with (first
      | (go_at_call 29; refine HR.out.mono ?_; rintro e w1 ⟨v', rfl, ho1, hk1⟩; rw [HO.out] at ho1; rw [HO.out]; simp only [Bool.false_eq_true, if_false] at ho1; simp only [Bool.false_eq_true, if_false]; obtain ⟨ao, cap, rfl, _⟩ := ownsRow_shape ho1; have HK1 := Lib.hid hk1; have c3 := ((HP.out.b.blk).keep hk1 (fun h => h)).cell 3; have c1 := ((HP.out.b.blk).keep hk1 (fun h => h)).cell 1; simp at c3 c1; rw [HO.out] at c3; have HO1 := Lib.hid ho1; clear ho1 hk1)
      | (go_at_call 50; have hh := Tryz.bytes_Equal_strs (.slice ao D.bytes.length cap) (.slice uo D.bytes.length uc) (bs D.bytes) (bs D.bytes) w1 (convRd (ownsRow_rd HO1.out (bcells_one _))) (convRd ((ownsRow_rd HP.out.b.own (bcells_one _)).keep HK1.out (fun _ _ h => h))); rw [beq_self_eq_true] at hh; refine Calls.mono hh ?_; clear hh; rintro e w2 ⟨rfl, rfl⟩))
    go_ret
    exact ⟨rfl, HK1.out⟩

/-- A row of bytes that may be written. -/
def XB (cb n : Nat) (W : World) : Prop := ∃ cs : Array Value, W.heap[cb]? = some (.cells cs 5 (cs.size, cs.size + 1)) ∧ ∀ j, j < n → ∃ c : Int, cs[j]? = some (.int .u8 c)
theorem XB.cell {cb n : Nat} {W : World} (h : XB cb n W) {j : Nat} (hj : j < n) : ∃ c : Int, W.cell? ⟨cb, j, none⟩ = some (.int .u8 c) ∧ W.frozen? ⟨cb, j, none⟩ = false := by
  obtain ⟨cs, h1, h2⟩ := h
  obtain ⟨c, hc⟩ := h2 j hj
  have := (Array.getElem?_eq_some_iff.1 hc).1
  refine ⟨c, by simp [World.cell?, h1, hc], ?_⟩
  simp [World.frozen?, h1]; omega
theorem XB.set {cb n : Nat} {W : World} (h : XB cb n W) (j : Nat) (c : Int) : XB cb n (W.setCell ⟨cb, j, none⟩ (.int .u8 c)) := by
  obtain ⟨cs, h1, h2⟩ := h
  refine ⟨cs.setIfInBounds j (.int .u8 c), ?_, fun i hi => ?_⟩
  · simp [World.setCell, Array.getElem?_modify, h1]
  · obtain ⟨c', hc'⟩ := h2 i hi
    by_cases hij : j = i
    · subst hij
      have := (Array.getElem?_eq_some_iff.1 hc').1
      exact ⟨c, by simp [this]⟩
    · exact ⟨c', by simp [hij, hc']⟩
def TouchPost (base : Nat) (w : World) (d x : Nat) (v u : Value) (e : Ending) (w' : World) : Prop :=
  ∃ D' v' u', e = .returned (.bool true) ∧ Pair base w' d x D' D' v' u' ∧ PChg w d x v u v' u' w'
set_option maxHeartbeats 4000000 in
set_option maxRecDepth 100000 in
theorem touched_any {base : Nat} {w : World} {d x : Nat} {D : Dsk} {v u : Value} {k n : Int} {line : ByteArray} {co : Option Addr} {cn cc : Nat} (hb : base ≤ w.heap.size) (h : Pair base w d x D D v u) (hn : n ≤ 9223372036854775807) (hl : line.size ≤ 140737488355328) :
    Calls Tryz.prog 14 #[.pointer (some ⟨d, 0, none⟩), .pointer (some ⟨x, 0, none⟩), .agg #[.int .i64 k, .int .i64 n, .string line, .slice co cn cc]] w (TouchPost base w d x v u) := by
  obtain ⟨w0, hw0⟩ : ∃ w0, w0 = w.alloc (.cells #[.int .i64 k, .int .i64 n, .string line, .slice co cn cc] 30) := ⟨_, rfl⟩
  have hk0 : Keep (fun _ => False) w w0 := by rw [hw0]; exact (Keep.refl _ _).alloc _
  have hb0 : Blk w0 w.heap.size #[.int .i64 k, .int .i64 n, .string line, .slice co cn cc] 30 := by rw [hw0]; exact Blk.new _ _ _
  have h0 := h.keep hk0 (fun _ _ h => h)
  have hplt := h.lt
  have HBX : Hid (∀ W, Keep (PT d x v u) w0 W → W.cell? ⟨w.heap.size, 0, none⟩ = some (.int .i64 k) ∧ W.cell? ⟨w.heap.size, 1, none⟩ = some (.int .i64 n) ∧ W.cell? ⟨w.heap.size, 2, none⟩ = some (.string line)) := Lib.hid fun W hk => by
    have hB := hb0.keep hk (fun e => by have := hplt _ e; omega)
    exact ⟨hB.cell 0, hB.cell 1, hB.cell 2⟩
  obtain ⟨b0, b1, b2⟩ := HBX.out w0 (Keep.refl _ _)
  rw [hw0] at b0 b1 b2
  have HP := Lib.hid h0; clear h0
  have HPC : Hid (PChg w0 d x v u v u w0) := Lib.hid (PChg.refl _ _ _ _ _)
  have HW0 := Lib.hid hw0; clear hw0 hb0
  have HK0 := Lib.hid hk0; clear hk0
  have H := Lib.hid h; clear h hplt
  by_cases k3 : k = 3
  · have e3 : (k == 3) = true := by simpa using k3
    clear k3
    go_enter Tryz.func14, Tryz.ntmps14
    go_wp2_with (first
      | (go_at_call 18; rw [← HW0.out]; have hh := fuse_any n hn HP.out.a; refine Calls.mono hh ?_; clear hh; rintro e W1 ⟨rfl, ⟨v1, hd1, hf1⟩, hk1⟩; obtain ⟨hp1, hc1⟩ := HP.out.stepA hk1 hd1 hf1; have HPC := Lib.hid (HPC.out.trans hc1); have HP := Lib.hid hp1; have ⟨b0, b1, b2⟩ := HBX.out W1 HPC.out.keep; clear hd1 hf1 hk1 hp1 hc1)
      | (go_at_call 33; have hh := rfuse_any n hn HP.out.b; refine Calls.mono hh ?_; clear hh; rintro e W2 ⟨rfl, ⟨u1, hd2, hf2⟩, hk2⟩; obtain ⟨hp2, hc2⟩ := HP.out.stepB hk2 hd2 hf2; have HPC := Lib.hid (HPC.out.trans hc2); have HP := Lib.hid hp2; clear hd2 hf2 hk2 hp2 hc2))
    go_ret
    exact ⟨_, _, _, rfl, HP.out, PChg.before HK0.out HPC.out⟩
  have e3 : (k == 3) = false := by simpa using k3
  by_cases k4 : k = 4
  · have e4 : (k == 4) = true := by simpa using k4
    clear k4
    go_enter Tryz.func14, Tryz.ntmps14
    go_wp2_with (first
      | (go_at_call 23; rw [← HW0.out]; have hh := crash_any n hn HP.out.a; refine Calls.mono hh ?_; clear hh; rintro e W1 ⟨rfl, ⟨v1, hd1, hf1⟩, hk1⟩; obtain ⟨hp1, hc1⟩ := HP.out.stepA hk1 hd1 hf1; have HPC := Lib.hid (HPC.out.trans hc1); have HP := Lib.hid hp1; have ⟨b0, b1, b2⟩ := HBX.out W1 HPC.out.keep; clear hd1 hf1 hk1 hp1 hc1)
      | (go_at_call 45; have hh := rcrash_any n hn HP.out.b; refine Calls.mono hh ?_; clear hh; rintro e W2 ⟨rfl, ⟨u1, hd2, hf2⟩, hk2⟩; obtain ⟨hp2, hc2⟩ := HP.out.stepB hk2 hd2 hf2; have HPC := Lib.hid (HPC.out.trans hc2); have HP := Lib.hid hp2; clear hd2 hf2 hk2 hp2 hc2))
    go_ret
    exact ⟨_, _, _, rfl, HP.out, PChg.before HK0.out HPC.out⟩
  have e4 : (k == 4) = false := by simpa using k4
  by_cases k6 : k = 6
  · have e6 : (k == 6) = true := by simpa using k6
    clear k6
    have hz0 : w0.heap.size = w.heap.size + 1 := by rw [HW0.out]; simp
    have hcv := fun W => Lib.run_convert_string_bytes (P := Tryz.prog) W 9 61 5 line Tryz.underlying9 Tryz.underlying61 Tryz.underlying5
    have hcc := convCell w0 line (by omega)
    rw [hz0] at hcc
    have HCC := Lib.hid hcc; clear hcc
    have HKC := Lib.hid (convKeep w0 5 line)
    have HPC0 := Lib.hid (HP.out.keep HKC.out (fun _ _ h => h))
    have hbc : base ≤ (Lib.bytesWorld w0 5 line).heap.size := Nat.le_trans (by omega) HKC.out.size
    have hx0 := Lib.bytesWorld_at_new w0 5 line
    rw [hz0] at hx0
    have HXB : Hid (∀ W, Keep (fun k => k = d ∨ v.ownBlock = some k) (Lib.bytesWorld w0 5 line) W → XB (w.heap.size + 1) line.size W) := Lib.hid fun W hk => by
      have h1 := hk.block (w.heap.size + 1) (by have := (Array.getElem?_eq_some_iff.1 hx0).1; exact this) (fun e => e.elim (fun e => by have := H.out.a.blk.lt; omega) (fun e => by have := (ownsRow_lt H.out.a.own _ e).2; omega))
      refine ⟨_, h1.trans hx0, fun j hj => ?_⟩
      have h2 := Lib.bytesWorld_cell w0 5 line j hj
      rw [hz0] at h2
      refine ⟨((line.data.toList.getD j 0).toNat : Int), ?_⟩
      rw [← h2]
      simp [World.cell?, hx0]
    clear hx0
    have HZ0 := Lib.hid hz0; clear hz0
    have HBC := Lib.hid hbc; clear hbc
    go_enter Tryz.func14, Tryz.ntmps14
    go_wp2_with (first
      | (go_at_call 31; rw [← HW0.out]; have hh := append_any HPC0.out.a HCC.out (fun e => by have e2 : w.heap.size + 1 = d := Option.some.inj e; have := H.out.a.blk.lt; omega) HBC.out; unfold AppendPost at hh; refine Calls.mono hh ?_; clear hh; rintro e W1 ⟨rfl, ⟨v1, hd1, hf1⟩, hk1⟩; obtain ⟨hp1, hc1⟩ := HPC0.out.stepA hk1 hd1 hf1; have HPC := Lib.hid ((HPC.out.after HKC.out (fun _ _ h => h)).trans hc1); have HP := Lib.hid hp1; have ⟨b0, b1, b2⟩ := HBX.out W1 HPC.out.keep; have HFP1 := Lib.hid hc1.fp; have hx1 := HXB.out W1 hk1; have HX1 := Lib.hid hx1; clear hd1 hf1 hk1 hp1 hc1 hx1))
    have hne1 : ∀ i, PT d x v1 u i → i ≠ w.heap.size + 1 := fun i hi e => by
      rcases HFP1.out i hi with h1 | h1
      · have := H.out.lt i h1; omega
      · rw [Lib.bytesWorld_size, HZ0.out] at h1; omega
    have HNE1 := Lib.hid hne1; clear hne1
    go_loopw [42] (fun i wr => ∃ j : Nat, j ≤ line.size ∧ i = .int .i64 j ∧ XB (w.heap.size + 1) line.size wr ∧ Keep (fun k => k = w.heap.size + 1) W1 wr) (fun i _ => line.size - (intOf i).toNat)
    case atStart => exact ⟨0, Nat.zero_le _, rfl, HX1.out, Keep.refl _ _⟩
    case round =>
      obtain ⟨j, hj, rfl, hxb, hkx⟩ := hrel
      have HKX := Lib.hid hkx; clear hkx
      by_cases hlt : j < line.size
      · obtain ⟨c, hc, hf⟩ := hxb.cell hlt
        have HXB2 := Lib.hid hxb; clear hxb
        have hjl : ((j : Int) < (line.size : Int)) = True := by simp; omega
        go_wp2
        exact ⟨⟨j + 1, hlt, rfl, HXB2.out.set _ _, HKX.out.setCell _ _ (fun _ => rfl)⟩, by simp [intOf]; omega⟩
      · have hje : j = line.size := by omega
        subst hje
        clear hxb hlt
        have hll : ((line.size : Int) < (line.size : Int)) = False := by simp
        have HPr := Lib.hid (HP.out.keep HKX.out (fun i hi e => HNE1.out i hi e))
        have hpcr := HPC.out.after HKX.out (fun i hi e => by have := HZ0.out; omega)
        obtain ⟨q0, q1, q2⟩ := HBX.out wr hpcr.keep
        have HKD := Lib.hid (convKeep wr 5 line)
        have HPd := Lib.hid (HPr.out.keep HKD.out (fun _ _ h => h))
        have HPC2 := Lib.hid (hpcr.after HKD.out (fun _ _ h => h))
        have HCD := Lib.hid (convCell wr line (by omega))
        clear b0 b1 b2 hpcr
        go_wp2_with (first
          | (go_at_call 32; have hh := rappend_any HPd.out.b (HCD.out) (fun e => by have e2 : wr.heap.size = x := Option.some.inj e; have := HPr.out.b.blk.lt; omega) (fun g e => by have e2 : wr.heap.size = g := Option.some.inj e; have h5 := Lib.bytesWorld_size wr 5 line; omega) (by simp; omega) (by have h5 := Lib.bytesWorld_size wr 5 line; have := HPr.out.b.blk.lt; have := HPr.out.b.ge; omega); refine Calls.mono hh ?_; clear hh; rintro e W2 ⟨rfl, ⟨u1, hd2, hf2⟩, hk2⟩; obtain ⟨hp2, hc2⟩ := HPd.out.stepB hk2 hd2 hf2; have HPC3 := Lib.hid (HPC2.out.trans hc2); have HPe := Lib.hid hp2; clear hd2 hf2 hk2 hp2 hc2))
        go_ret
        exact ⟨_, _, _, by simp, HPe.out, PChg.before HK0.out HPC3.out⟩
  have e6 : (k == 6) = false := by simpa using k6
  by_cases k7 : k = 7
  · have e7 : (k == 7) = true := by simpa using k7
    clear k7
    have HP : Hid (Pair base w0.drew d x D D v u) := Lib.hid (HP.out.keep (Keep.refl (fun _ => False) w0).drew (fun _ _ h => h))
    have HPC : Hid (PChg w0 d x v u v u w0.drew) := Lib.hid (HPC.out.after (Keep.refl (fun _ => False) w0).drew (fun _ _ h => h))
    obtain ⟨a0, a1, a2⟩ := HBX.out w0 (Keep.refl _ _)
    go_enter Tryz.func14, Tryz.ntmps14
    go_wp2
    rw [← HW0.out]
    clear b0 b1 b2
    go_region_held3 (fun W => W.cell? ⟨w.heap.size, 1, none⟩ = some (.int .i64 n))
      (first | exact a1 | ((refine (HBX.out _ ?_).2.1; exact HPC.out.keep)))
      (first
        | (go_at_call 46; have hh := cut_any n HP.out.a; refine Calls.mono hh ?_; clear hh; rintro e W1 ⟨rfl, ⟨v1, hd1, hf1⟩, hk1⟩; obtain ⟨hp1, hc1⟩ := HP.out.stepA hk1 hd1 hf1; have HPC := Lib.hid (HPC.out.trans hc1); have HP := Lib.hid hp1; clear hd1 hf1 hk1 hp1 hc1; dsimp only)
        | (go_at_call 47; have hh := rcut_any n HP.out.b; refine Calls.mono hh ?_; clear hh; rintro e W2 ⟨rfl, ⟨u1, hd2, hf2⟩, hk2⟩; obtain ⟨hp2, hc2⟩ := HP.out.stepB hk2 hd2 hf2; have HPC := Lib.hid (HPC.out.trans hc2); have HP := Lib.hid hp2; clear hd2 hf2 hk2 hp2 hc2; dsimp only))
    all_goals
      go_wp2
      go_ret
      exact ⟨_, _, _, by simp, HP.out, PChg.before HK0.out HPC.out⟩
  have e7 : (k == 7) = false := by simpa using k7
  by_cases k8 : k = 8
  · have e8 : (k == 8) = true := by simpa using k8
    clear k8
    go_enter Tryz.func14, Tryz.ntmps14
    go_wp2_with (first
      | (go_at_call 48; rw [← HW0.out]; have hh := sync_any HP.out.a; refine Calls.mono hh ?_; clear hh; rintro e W1 ⟨rfl, ⟨v1, hd1, hf1⟩, hk1⟩; obtain ⟨hp1, hc1⟩ := HP.out.stepA hk1 hd1 hf1; have HPC := Lib.hid (HPC.out.trans hc1); have HP := Lib.hid hp1; have ⟨b0, b1, b2⟩ := HBX.out W1 HPC.out.keep; clear hd1 hf1 hk1 hp1 hc1)
      | (go_at_call 49; have hh := rsync_any HP.out.b; refine Calls.mono hh ?_; clear hh; rintro e W2 ⟨rfl, ⟨u1, hd2, hf2⟩, hk2⟩; obtain ⟨hp2, hc2⟩ := HP.out.stepB hk2 hd2 hf2; have HPC := Lib.hid (HPC.out.trans hc2); have HP := Lib.hid hp2; clear hd2 hf2 hk2 hp2 hc2))
    go_ret
    exact ⟨_, _, _, by simp, HP.out, PChg.before HK0.out HPC.out⟩
  have e8 : (k == 8) = false := by simpa using k8
  go_enter Tryz.func14, Tryz.ntmps14
  go_wp2
  rw [← HW0.out]
  go_ret
  exact ⟨_, _, _, rfl, HP.out, PChg.before HK0.out HPC.out⟩
end Go.Proofs.YthdkamnclbfehaaGreatDoor
