/- house.state in memory; its clone. -/
import Derived.Test.YtkkjonkcjlnohaaGreatDoorSM8
import Derived.Test.YtkkjonkcjlnohaaGreatDoorSM5
import Derived.Deep.RegionHeld3

/- house.state in memory; its clone. -/
namespace Go.Proofs.YtkkjonkcjlnohaaGreatDoor
set_option linter.unusedSimpArgs false
set_option linter.unusedVariables false
set_option linter.unnecessarySimpa false
open Go.RowKit

structure Lot where
  spice : ByteArray
  grams : Int
  bay : Int
  closed : Bool
structure St where
  bays : List Int
  lots : List Lot
  contacts : List (Int × Int)
  tests : List (Int × Int)
  notes : List ByteArray

def lotCell (x : Lot) : List Value := [.string x.spice, .int .i64 x.grams, .int .i64 x.bay, .bool x.closed]
def lotCells (l : List Lot) : List Value := l.flatMap lotCell
def pairCell (p : Int × Int) : List Value := [.int .i64 p.1, .int .i64 p.2]
def pairCells (l : List (Int × Int)) : List Value := l.flatMap pairCell
def strCells (l : List ByteArray) : List Value := l.map Value.string
theorem lotCells_length (l : List Lot) : (lotCells l).length = l.length * 4 := by
  induction l with
  | nil => rfl
  | cons x l ih => simp only [lotCells, List.flatMap_cons, List.length_append, List.length_cons] at ih ⊢; rw [ih]; simp [lotCell]; omega
theorem pairCells_length (l : List (Int × Int)) : (pairCells l).length = l.length * 2 := by
  induction l with
  | nil => rfl
  | cons x l ih => simp only [pairCells, List.flatMap_cons, List.length_append, List.length_cons] at ih ⊢; rw [ih]; simp [pairCell]; omega

/-- Where a state lies. -/
structure StV where
  b : Nat
  vb : Value
  vl : Value
  vc : Value
  vt : Value
  vn : Value
def StV.cells (V : StV) : Array Value := #[V.vb, V.vl, V.vc, V.vt, V.vn]
def StV.fp (V : StV) (k : Nat) : Prop := k = V.b ∨ V.vb.ownBlock = some k ∨ V.vl.ownBlock = some k ∨ V.vc.ownBlock = some k ∨ V.vt.ownBlock = some k ∨ V.vn.ownBlock = some k

/-- The state reads as S. -/
structure StAt (w : World) (V : StV) (S : St) : Prop where
  blk : Blk w V.b V.cells 90
  rb : Rd w 1 V.vb S.bays.length (icells S.bays)
  rl : Rd w 4 V.vl S.lots.length (lotCells S.lots)
  rc : Rd w 2 V.vc S.contacts.length (pairCells S.contacts)
  rt : Rd w 2 V.vt S.tests.length (pairCells S.tests)
  rn : Rd w 1 V.vn S.notes.length (strCells S.notes)
  lt : ∀ k, V.fp k → k < w.heap.size
theorem StAt.keep {T : Nat → Prop} {w w' : World} {V : StV} {S : St} (h : StAt w V S) (k : Keep T w w') (hT : ∀ i, V.fp i → ¬ T i) : StAt w' V S :=
  ⟨h.blk.keep k (hT _ (.inl rfl)), h.rb.keep k fun b e => hT b (.inr (.inl e)), h.rl.keep k fun b e => hT b (.inr (.inr (.inl e))), h.rc.keep k fun b e => hT b (.inr (.inr (.inr (.inl e)))),
   h.rt.keep k fun b e => hT b (.inr (.inr (.inr (.inr (.inl e))))), h.rn.keep k fun b e => hT b (.inr (.inr (.inr (.inr (.inr e))))), fun i hi => Nat.lt_of_lt_of_le (h.lt i hi) k.size⟩
/-- How long it may be. -/
structure St.small (S : St) : Prop where
  l : S.lots.length ≤ 1000000000
  c : S.contacts.length ≤ 1000000000
  t : S.tests.length ≤ 1000000000
  n : S.notes.length ≤ 1000000000

/-- A state that a call has made and may write: all but its bays is its own. -/
structure OSt (base : Nat) (w : World) (V : StV) (S : St) : Prop where
  blk : Blk w V.b V.cells 90
  ge : base ≤ V.b
  rb : Rd w 1 V.vb S.bays.length (icells S.bays)
  bb : ∀ k, V.vb.ownBlock = some k → k < base
  ol : w.ownsRow base 125 4 V.vl S.lots.length (lotCells S.lots)
  oc : w.ownsRow base 127 2 V.vc S.contacts.length (pairCells S.contacts)
  ot : w.ownsRow base 127 2 V.vt S.tests.length (pairCells S.tests)
  on : w.ownsRow base 9 1 V.vn S.notes.length (strCells S.notes)
  ct : ∀ k, V.vc.ownBlock = some k → V.vt.ownBlock ≠ some k

theorem lotCells_one (l : List Lot) : ∀ u ∈ lotCells l, u.oneCell' = true := by
  intro u hu
  obtain ⟨x, _, hx⟩ := List.mem_flatMap.1 hu
  simp [lotCell] at hx
  rcases hx with rfl | rfl | rfl | rfl <;> rfl
theorem pairCells_one (l : List (Int × Int)) : ∀ u ∈ pairCells l, u.oneCell' = true := by
  intro u hu
  obtain ⟨x, _, hx⟩ := List.mem_flatMap.1 hu
  simp [pairCell] at hx
  rcases hx with rfl | rfl <;> rfl
theorem strCells_one (l : List ByteArray) : ∀ u ∈ strCells l, u.oneCell' = true := by
  intro u hu; obtain ⟨_, _, rfl⟩ := List.mem_map.1 hu; rfl
/-- Blocks of owned rows of two element types are two. -/
theorem ownsRow_types {w : World} {b1 b2 : Nat} {e1 e2 : TypeId} {s1 s2 : Nat} {v1 v2 : Value} {n1 n2 : Nat} {x1 x2 : List Value} (h1 : w.ownsRow b1 e1 s1 v1 n1 x1) (h2 : w.ownsRow b2 e2 s2 v2 n2 x2) (hne : e1 ≠ e2) :
    ∀ k, v1.ownBlock = some k → v2.ownBlock ≠ some k := by
  intro k h h'
  rcases h1.2 with ⟨rfl, _⟩ | ⟨g, c, cur, rfl, _, hg, _⟩
  · cases h
  · rcases h2.2 with ⟨rfl, _⟩ | ⟨g', c', cur', rfl, _, hg', _⟩
    · cases h'
    · cases h; cases h'
      rw [hg] at hg'
      cases hg'
      exact hne rfl
theorem ownsRow_blk {w : World} {b1 : Nat} {e1 : TypeId} {s1 : Nat} {v1 : Value} {n1 : Nat} {x1 : List Value} (h1 : w.ownsRow b1 e1 s1 v1 n1 x1) {b : Nat} {cs : Array Value} {t : TypeId} (hb : Blk w b cs t) (hne : e1 ≠ t) : v1.ownBlock ≠ some b := by
  intro h
  rcases h1.2 with ⟨rfl, _⟩ | ⟨g, c, cur, rfl, _, hg, _⟩
  · cases h
  · cases h
    unfold Blk at hb
    rw [hg] at hb
    cases hb
    exact hne rfl
theorem OSt.at {base : Nat} {w : World} {V : StV} {S : St} (h : OSt base w V S) (hb : base ≤ w.heap.size) : StAt w V S :=
  ⟨h.blk, h.rb, ownsRow_rd h.ol (lotCells_one _), ownsRow_rd h.oc (pairCells_one _), ownsRow_rd h.ot (pairCells_one _), ownsRow_rd h.on (strCells_one _), fun k hk => by
    rcases hk with rfl | h1 | h1 | h1 | h1 | h1
    · exact h.blk.lt
    · exact Nat.lt_of_lt_of_le (h.bb k h1) hb
    · exact (h.ol.lt k h1).2
    · exact (h.oc.lt k h1).2
    · exact (h.ot.lt k h1).2
    · exact (h.on.lt k h1).2⟩

theorem ownsRow_base {w : World} {b b' : Nat} {e : TypeId} {s n : Nat} {v : Value} {x : List Value} (h : w.ownsRow b e s v n x) (hb : b' ≤ b) : w.ownsRow b' e s v n x := by
  refine ⟨h.1, ?_⟩
  rcases h.2 with hn | ⟨g, cap, cur, rfl, h1, rest⟩
  · exact .inl hn
  · exact .inr ⟨g, cap, cur, rfl, Nat.le_trans hb h1, rest⟩

def StClonePost (w : World) (V : StV) (S : St) (e : Ending) (w' : World) : Prop :=
  ∃ V', e = .returned (.pointer (some ⟨V'.b, 0, none⟩)) ∧ OSt w.heap.size w' V' S ∧ V'.vb = V.vb ∧ Keep (fun _ => False) w w'

set_option maxHeartbeats 2000000 in
set_option maxRecDepth 100000 in
theorem stClone_any {w : World} {V : StV} {S : St} (h : StAt w V S) (hs : S.small) : Calls Tryz.prog 41 #[.pointer (some ⟨V.b, 0, none⟩)] w (StClonePost w V S) := by
  obtain ⟨b, vb, vl, vc, vt, vn⟩ := V
  have hb := h.blk
  have hbl := hb.lt
  have c0 := hb.cell 0
  have c1 := hb.cell 1
  have c2 := hb.cell 2
  have c3 := hb.cell 3
  have c4 := hb.cell 4
  simp [StV.cells] at c0 c1 c2 c3 c4 hbl
  obtain ⟨bo, bc, hvb, _⟩ := h.rb.shape
  obtain ⟨lo, lc, hvl, _⟩ := h.rl.shape
  obtain ⟨co, cc, hvc, _⟩ := h.rc.shape
  obtain ⟨to, tc, hvt, _⟩ := h.rt.shape
  obtain ⟨no, nc, hvn, _⟩ := h.rn.shape
  simp only at hvb hvl hvc hvt hvn
  subst hvb hvl hvc hvt hvn
  have H := Lib.hid h; clear h hb
  obtain ⟨w0, hw0⟩ : ∃ w0, w0 = w.alloc (.cells #[.slice bo S.bays.length bc, .slice lo S.lots.length lc, .slice co S.contacts.length cc, .slice to S.tests.length tc, .slice no S.notes.length nc] 90) := ⟨_, rfl⟩
  have hk0 : Keep (fun _ => False) w w0 := by rw [hw0]; exact (Keep.refl _ _).alloc _
  have hn0 : Blk w0 w.heap.size #[.slice bo S.bays.length bc, .slice lo S.lots.length lc, .slice co S.contacts.length cc, .slice to S.tests.length tc, .slice no S.notes.length nc] 90 := by rw [hw0]; exact Blk.new _ _ _
  have hz0 : w0.heap.size = w.heap.size + 1 := by rw [hw0]; simp
  have HRL : Hid (∀ W, Keep (fun k => k = w.heap.size) w0 W → Rd W 4 (.slice lo S.lots.length lc) S.lots.length (lotCells S.lots)) := Lib.hid fun W hk =>
    (H.out.rl.keep hk0 (fun _ _ h => h)).keep hk (fun i hi e => by have := H.out.lt i (.inr (.inr (.inl hi))); omega)
  have HRC : Hid (∀ W, Keep (fun k => k = w.heap.size) w0 W → Rd W 2 (.slice co S.contacts.length cc) S.contacts.length (pairCells S.contacts)) := Lib.hid fun W hk =>
    (H.out.rc.keep hk0 (fun _ _ h => h)).keep hk (fun i hi e => by have := H.out.lt i (.inr (.inr (.inr (.inl hi)))); omega)
  have HRT : Hid (∀ W, Keep (fun k => k = w.heap.size) w0 W → Rd W 2 (.slice to S.tests.length tc) S.tests.length (pairCells S.tests)) := Lib.hid fun W hk =>
    (H.out.rt.keep hk0 (fun _ _ h => h)).keep hk (fun i hi e => by have := H.out.lt i (.inr (.inr (.inr (.inr (.inl hi))))); omega)
  have HRN : Hid (∀ W, Keep (fun k => k = w.heap.size) w0 W → Rd W 1 (.slice no S.notes.length nc) S.notes.length (strCells S.notes)) := Lib.hid fun W hk =>
    (H.out.rn.keep hk0 (fun _ _ h => h)).keep hk (fun i hi e => by have := H.out.lt i (.inr (.inr (.inr (.inr (.inr hi))))); omega)
  have HSM := Lib.hid hs; clear hs
  have d1 := (hk0.cell (p := ⟨b, 1, none⟩) hbl (fun h => h)).trans c1
  have d2 := (hk0.cell (p := ⟨b, 2, none⟩) hbl (fun h => h)).trans c2
  have d3 := (hk0.cell (p := ⟨b, 3, none⟩) hbl (fun h => h)).trans c3
  have d4 := (hk0.cell (p := ⟨b, 4, none⟩) hbl (fun h => h)).trans c4
  have HW0 := Lib.hid hw0
  have HK0 := Lib.hid hk0; clear hk0
  have HN0 := Lib.hid hn0
  clear hw0
  go_enter Tryz.func41, Tryz.ntmps41
  go_wp2
  rw [← HW0.out]
  have HKR : Hid (Keep (fun k => k = w.heap.size) w0 w0.drew) := Lib.hid (Keep.refl _ _).drew
  have HKA : Hid (Keep (fun _ => False) w0 w0.drew) := Lib.hid (Keep.refl _ _).drew
  have HDF : Hid (∀ W, Keep (fun k => k = w.heap.size) w0 W → W.cell? ⟨b, 1, none⟩ = some (.slice lo S.lots.length lc) ∧ W.cell? ⟨b, 2, none⟩ = some (.slice co S.contacts.length cc) ∧ W.cell? ⟨b, 3, none⟩ = some (.slice to S.tests.length tc) ∧ W.cell? ⟨b, 4, none⟩ = some (.slice no S.notes.length nc)) := Lib.hid fun W hk =>
    ⟨(hk.cell (p := ⟨b, 1, none⟩) (by show b < w0.heap.size; rw [hz0]; omega) (by show ¬ b = w.heap.size; omega)).trans d1, (hk.cell (p := ⟨b, 2, none⟩) (by show b < w0.heap.size; rw [hz0]; omega) (by show ¬ b = w.heap.size; omega)).trans d2, (hk.cell (p := ⟨b, 3, none⟩) (by show b < w0.heap.size; rw [hz0]; omega) (by show ¬ b = w.heap.size; omega)).trans d3, (hk.cell (p := ⟨b, 4, none⟩) (by show b < w0.heap.size; rw [hz0]; omega) (by show ¬ b = w.heap.size; omega)).trans d4⟩
  clear c0 c1 c2 c3 c4
  go_region_held3 (fun W => W.cell? ⟨b, 1, none⟩ = some (.slice lo S.lots.length lc) ∧ W.cell? ⟨b, 2, none⟩ = some (.slice co S.contacts.length cc) ∧ W.cell? ⟨b, 3, none⟩ = some (.slice to S.tests.length tc) ∧ W.cell? ⟨b, 4, none⟩ = some (.slice no S.notes.length nc))
    (first | exact ⟨d1, d2, d3, d4⟩ | (refine HDF.out _ ?_; repeat (first | exact HKR.out | apply Keep.drew | refine Keep.setCell ?_ _ _ (fun _ => rfl))))
    (first
      | (go_at_call 65; have hh := clone114 (HRL.out _ HKR.out) (by have := HSM.out.l; omega); refine Calls.mono hh ?_; clear hh; intro e W1 hq; obtain ⟨v1, rfl, ho1, hk1⟩ := hq; obtain ⟨ao1, ac1, rfl, _⟩ := ownsRow_shape ho1; have HO1 := Lib.hid ho1; clear ho1; have HKR := Lib.hid (HKR.out.trans hk1 (fun _ _ h => h.elim)); have HKA := Lib.hid (HKA.out.trans hk1 (fun _ _ h => h.elim)); have HK1 := Lib.hid hk1; clear hk1; dsimp only)
      | (go_at_call 66; have hh := clone115 (HRC.out _ HKR.out) (by have := HSM.out.c; omega); refine Calls.mono hh ?_; clear hh; intro e W2 hq; obtain ⟨v2, rfl, ho2, hk2⟩ := hq; obtain ⟨ao2, ac2, rfl, _⟩ := ownsRow_shape ho2; have HO2 := Lib.hid ho2; clear ho2; have HKR := Lib.hid (HKR.out.trans hk2 (fun _ _ h => h.elim)); have HKA := Lib.hid (HKA.out.trans hk2 (fun _ _ h => h.elim)); have HK2 := Lib.hid hk2; clear hk2; dsimp only)
      | (go_at_call 66; have hh := clone115 (HRT.out _ HKR.out) (by have := HSM.out.t; omega); refine Calls.mono hh ?_; clear hh; intro e W3 hq; obtain ⟨v3, rfl, ho3, hk3⟩ := hq; obtain ⟨ao3, ac3, rfl, _⟩ := ownsRow_shape ho3; have HO3 := Lib.hid ho3; clear ho3; have HKR := Lib.hid (HKR.out.trans hk3 (fun _ _ h => h.elim)); have HKA := Lib.hid (HKA.out.trans hk3 (fun _ _ h => h.elim)); have HK3 := Lib.hid hk3; clear hk3; dsimp only)
      | (go_at_call 67; have hh := clone22 (HRN.out _ HKR.out) (by have := HSM.out.n; omega); refine Calls.mono hh ?_; clear hh; intro e W4 hq; obtain ⟨v4, rfl, ho4, hk4⟩ := hq; obtain ⟨ao4, ac4, rfl, _⟩ := ownsRow_shape ho4; have HO4 := Lib.hid ho4; clear ho4; have HKR := Lib.hid (HKR.out.trans hk4 (fun _ _ h => h.elim)); have HKA := Lib.hid (HKA.out.trans hk4 (fun _ _ h => h.elim)); have HK4 := Lib.hid hk4; clear hk4; have e1 := (HKA.out.cell (p := ⟨w.heap.size, 1, none⟩) (by show w.heap.size < w0.heap.size; rw [hz0]; omega) (fun h => h)).trans (HN0.out.cell 1); have e2 := (HKA.out.cell (p := ⟨w.heap.size, 2, none⟩) (by show w.heap.size < w0.heap.size; rw [hz0]; omega) (fun h => h)).trans (HN0.out.cell 2); have e3 := (HKA.out.cell (p := ⟨w.heap.size, 3, none⟩) (by show w.heap.size < w0.heap.size; rw [hz0]; omega) (fun h => h)).trans (HN0.out.cell 3); have e4 := (HKA.out.cell (p := ⟨w.heap.size, 4, none⟩) (by show w.heap.size < w0.heap.size; rw [hz0]; omega) (fun h => h)).trans (HN0.out.cell 4); have f1 := (HKA.out.frozen (p := ⟨w.heap.size, 1, none⟩) (by show w.heap.size < w0.heap.size; rw [hz0]; omega) (fun h => h)).trans (HN0.out.free 1); have f2 := (HKA.out.frozen (p := ⟨w.heap.size, 2, none⟩) (by show w.heap.size < w0.heap.size; rw [hz0]; omega) (fun h => h)).trans (HN0.out.free 2); have f3 := (HKA.out.frozen (p := ⟨w.heap.size, 3, none⟩) (by show w.heap.size < w0.heap.size; rw [hz0]; omega) (fun h => h)).trans (HN0.out.free 3); have f4 := (HKA.out.frozen (p := ⟨w.heap.size, 4, none⟩) (by show w.heap.size < w0.heap.size; rw [hz0]; omega) (fun h => h)).trans (HN0.out.free 4); simp at e1 e2 e3 e4; dsimp only)
      )
  have HN4 := Lib.hid (((HN0.out.keep HKA.out (fun h => h)).set 1 (.slice ao1 S.lots.length ac1)).set 2 (.slice ao2 S.contacts.length ac2) |>.set 3 (.slice ao3 S.tests.length ac3) |>.set 4 (.slice ao4 S.notes.length ac4))
  have HKF := Lib.hid ((((Keep.refl (fun k => k = w.heap.size) W4).setCell ⟨w.heap.size, 1, none⟩ (.slice ao1 S.lots.length ac1) (fun _ => rfl)).setCell ⟨w.heap.size, 2, none⟩ (.slice ao2 S.contacts.length ac2) (fun _ => rfl)).setCell ⟨w.heap.size, 3, none⟩ (.slice ao3 S.tests.length ac3) (fun _ => rfl) |>.setCell ⟨w.heap.size, 4, none⟩ (.slice ao4 S.notes.length ac4) (fun _ => rfl))
  obtain ⟨wf, hwf⟩ : ∃ wf, wf = ((((W4.setCell ⟨w.heap.size, 1, none⟩ (.slice ao1 S.lots.length ac1)).setCell ⟨w.heap.size, 2, none⟩ (.slice ao2 S.contacts.length ac2)).setCell ⟨w.heap.size, 3, none⟩ (.slice ao3 S.tests.length ac3)).setCell ⟨w.heap.size, 4, none⟩ (.slice ao4 S.notes.length ac4)) := ⟨_, rfl⟩
  rw [← hwf] at HN4 HKF
  rw [← hwf]
  clear hwf e1 e2 e3 e4 f1 f2 f3 f4 d1 d2 d3 d4
  go_wp2
  go_ret
  have hz1 := HK1.out.size
  have hz2 := HK2.out.size
  have hz3 := HK3.out.size
  have hzd : w0.drew.heap.size = w.heap.size + 1 := hz0
  rw [hzd] at hz1
  have b1 := ownsRow_lt HO1.out
  have b2 := ownsRow_lt HO2.out
  have b3 := ownsRow_lt HO3.out
  have b4 := ownsRow_lt HO4.out
  have hkf : Keep (fun k => k = w.heap.size) w0 wf := HKA.out.mono (fun _ _ h => h.elim) |>.trans HKF.out (fun _ _ h => h)
  refine ⟨⟨w.heap.size, .slice bo S.bays.length bc, .slice ao1 S.lots.length ac1, .slice ao2 S.contacts.length ac2, .slice ao3 S.tests.length ac3, .slice ao4 S.notes.length ac4⟩, rfl, ⟨by simpa [StV.cells] using HN4.out, Nat.le_refl _, ?_, fun k hk => H.out.lt k (.inr (.inl hk)), ?_, ?_, ?_, ?_, ?_⟩, rfl, ?_⟩
  · exact (H.out.rb.keep HK0.out (fun _ _ h => h)).keep hkf (fun i hi e => by have := H.out.lt i (.inr (.inl hi)); omega)
  · exact ownsRow_base (ownsRow_keep (ownsRow_keep (ownsRow_keep (ownsRow_keep HO1.out HK2.out (fun _ _ h => h)) HK3.out (fun _ _ h => h)) HK4.out (fun _ _ h => h)) HKF.out (fun k hk e => by have := b1 k hk; omega)) (by omega)
  · exact ownsRow_base (ownsRow_keep (ownsRow_keep (ownsRow_keep HO2.out HK3.out (fun _ _ h => h)) HK4.out (fun _ _ h => h)) HKF.out (fun k hk e => by have := b2 k hk; omega)) (by omega)
  · exact ownsRow_base (ownsRow_keep (ownsRow_keep HO3.out HK4.out (fun _ _ h => h)) HKF.out (fun k hk e => by have := b3 k hk; omega)) (by omega)
  · exact ownsRow_base (ownsRow_keep HO4.out HKF.out (fun k hk e => by have := b4 k hk; omega)) (by omega)
  · intro k hk hk'
    have := b2 k hk
    have := b3 k hk'
    omega
  · exact HK0.out.trans hkf (fun k hk e => by have e' : k = w.heap.size := e; omega)
end Go.Proofs.YtkkjonkcjlnohaaGreatDoor

/- A state of one's own: what writes into it leave. -/
namespace Go.Proofs.YtkkjonkcjlnohaaGreatDoor
set_option linter.unusedSimpArgs false
set_option linter.unusedVariables false
set_option linter.unnecessarySimpa false
open Go.RowKit

theorem OSt.keep {T : Nat → Prop} {base : Nat} {w w' : World} {V : StV} {S : St} (h : OSt base w V S) (k : Keep T w w') (hT : ∀ i, V.fp i → ¬ T i) : OSt base w' V S :=
  ⟨h.blk.keep k (hT _ (.inl rfl)), h.ge, h.rb.keep k fun b e => hT b (.inr (.inl e)), h.bb, ownsRow_keep h.ol k fun b e => hT b (.inr (.inr (.inl e))),
   ownsRow_keep h.oc k fun b e => hT b (.inr (.inr (.inr (.inl e)))), ownsRow_keep h.ot k fun b e => hT b (.inr (.inr (.inr (.inr (.inl e))))), ownsRow_keep h.on k fun b e => hT b (.inr (.inr (.inr (.inr (.inr e))))), h.ct⟩
theorem OSt.lt {base : Nat} {w : World} {V : StV} {S : St} (h : OSt base w V S) : base ≤ w.heap.size := by
  have := h.blk.lt; have := h.ge; omega
theorem OSt.fp_lt {base : Nat} {w : World} {V : StV} {S : St} (h : OSt base w V S) : ∀ k, V.fp k → k < w.heap.size := (h.at h.lt).lt
theorem OSt.bne {base : Nat} {w : World} {V : StV} {S : St} (h : OSt base w V S) : ∀ k, V.vb.ownBlock = some k → k ≠ V.b := fun k e e' => by
  have := h.bb k e; have := h.ge; omega
theorem OSt.lne {base : Nat} {w : World} {V : StV} {S : St} (h : OSt base w V S) : V.vl.ownBlock ≠ some V.b := ownsRow_blk h.ol h.blk (by decide)
theorem OSt.cne {base : Nat} {w : World} {V : StV} {S : St} (h : OSt base w V S) : V.vc.ownBlock ≠ some V.b := ownsRow_blk h.oc h.blk (by decide)
theorem OSt.tne {base : Nat} {w : World} {V : StV} {S : St} (h : OSt base w V S) : V.vt.ownBlock ≠ some V.b := ownsRow_blk h.ot h.blk (by decide)
theorem OSt.nne {base : Nat} {w : World} {V : StV} {S : St} (h : OSt base w V S) : V.vn.ownBlock ≠ some V.b := ownsRow_blk h.on h.blk (by decide)
theorem OSt.fp_ge {base : Nat} {w : World} {V : StV} {S : St} (h : OSt base w V S) : (∀ k, V.vl.ownBlock = some k → base ≤ k) ∧ (∀ k, V.vc.ownBlock = some k → base ≤ k) ∧ (∀ k, V.vt.ownBlock = some k → base ≤ k) ∧ (∀ k, V.vn.ownBlock = some k → base ≤ k) :=
  ⟨fun k e => (h.ol.lt k e).1, fun k e => (h.oc.lt k e).1, fun k e => (h.ot.lt k e).1, fun k e => (h.on.lt k e).1⟩

theorem OSt.setLots {base : Nat} {w w1 : World} {V : StV} {S : St} {v' : Value} {ls : List Lot} (h : OSt base w V S) (hk : Keep (fun k => V.vl.ownBlock = some k) w w1)
    (ho : w1.ownsRow base 125 4 v' ls.length (lotCells ls)) (hf : v'.ownBlock = V.vl.ownBlock ∨ ∃ g, v'.ownBlock = some g ∧ w.heap.size ≤ g) :
    OSt base (w1.setCell ⟨V.b, 1, none⟩ v') { V with vl := v' } { S with lots := ls } := by
  have hs : Keep (fun k => k = V.b) w1 (w1.setCell ⟨V.b, 1, none⟩ v') := (Keep.refl _ _).setCell _ _ (fun _ => rfl)
  have hv : v'.ownBlock ≠ some V.b := by
    intro e
    rcases hf with h1 | ⟨g, h1, h2⟩
    · exact h.lne (h1 ▸ e)
    · have : g = V.b := Option.some.inj (h1.symm.trans e)
      have := h.blk.lt; omega
  refine ⟨?_, h.ge, ?_, h.bb, ownsRow_setCell ho _ _ hv, ?_, ?_, ?_, h.ct⟩
  · have := (h.blk.keep hk h.lne).set 1 v'
    simpa [StV.cells] using this
  · exact (h.rb.keep hk (fun b e e' => by have := h.bb b e; have := h.fp_ge.1 b e'; omega)).keep hs (fun b e e' => h.bne b e e')
  · exact ownsRow_setCell (ownsRow_keep h.oc hk (fun b e e' => ownsRow_types h.ol h.oc (by decide) b e' e)) _ _ h.cne
  · exact ownsRow_setCell (ownsRow_keep h.ot hk (fun b e e' => ownsRow_types h.ol h.ot (by decide) b e' e)) _ _ h.tne
  · exact ownsRow_setCell (ownsRow_keep h.on hk (fun b e e' => ownsRow_types h.ol h.on (by decide) b e' e)) _ _ h.nne
theorem OSt.setContacts {base : Nat} {w w1 : World} {V : StV} {S : St} {v' : Value} {ls : List (Int × Int)} (h : OSt base w V S) (hk : Keep (fun k => V.vc.ownBlock = some k) w w1)
    (ho : w1.ownsRow base 127 2 v' ls.length (pairCells ls)) (hf : v'.ownBlock = V.vc.ownBlock ∨ ∃ g, v'.ownBlock = some g ∧ w.heap.size ≤ g) :
    OSt base (w1.setCell ⟨V.b, 2, none⟩ v') { V with vc := v' } { S with contacts := ls } := by
  have hs : Keep (fun k => k = V.b) w1 (w1.setCell ⟨V.b, 2, none⟩ v') := (Keep.refl _ _).setCell _ _ (fun _ => rfl)
  have hv : v'.ownBlock ≠ some V.b := by
    intro e
    rcases hf with h1 | ⟨g, h1, h2⟩
    · exact h.cne (h1 ▸ e)
    · have : g = V.b := Option.some.inj (h1.symm.trans e)
      have := h.blk.lt; omega
  refine ⟨?_, h.ge, ?_, h.bb, ?_, ownsRow_setCell ho _ _ hv, ?_, ?_, ?_⟩
  · have := (h.blk.keep hk h.cne).set 2 v'
    simpa [StV.cells] using this
  · exact (h.rb.keep hk (fun b e e' => by have := h.bb b e; have := h.fp_ge.2.1 b e'; omega)).keep hs (fun b e e' => h.bne b e e')
  · exact ownsRow_setCell (ownsRow_keep h.ol hk (fun b e e' => ownsRow_types h.oc h.ol (by decide) b e' e)) _ _ h.lne
  · exact ownsRow_setCell (ownsRow_keep h.ot hk (fun b e e' => h.ct b e' e)) _ _ h.tne
  · exact ownsRow_setCell (ownsRow_keep h.on hk (fun b e e' => ownsRow_types h.oc h.on (by decide) b e' e)) _ _ h.nne
  · intro k e e'
    rcases hf with h1 | ⟨g, h1, h2⟩
    · exact h.ct k (h1 ▸ e) e'
    · have : g = k := Option.some.inj (h1.symm.trans e)
      have := (h.ot.lt k e').2; omega
theorem OSt.setTests {base : Nat} {w w1 : World} {V : StV} {S : St} {v' : Value} {ls : List (Int × Int)} (h : OSt base w V S) (hk : Keep (fun k => V.vt.ownBlock = some k) w w1)
    (ho : w1.ownsRow base 127 2 v' ls.length (pairCells ls)) (hf : v'.ownBlock = V.vt.ownBlock ∨ ∃ g, v'.ownBlock = some g ∧ w.heap.size ≤ g) :
    OSt base (w1.setCell ⟨V.b, 3, none⟩ v') { V with vt := v' } { S with tests := ls } := by
  have hs : Keep (fun k => k = V.b) w1 (w1.setCell ⟨V.b, 3, none⟩ v') := (Keep.refl _ _).setCell _ _ (fun _ => rfl)
  have hv : v'.ownBlock ≠ some V.b := by
    intro e
    rcases hf with h1 | ⟨g, h1, h2⟩
    · exact h.tne (h1 ▸ e)
    · have : g = V.b := Option.some.inj (h1.symm.trans e)
      have := h.blk.lt; omega
  refine ⟨?_, h.ge, ?_, h.bb, ?_, ?_, ownsRow_setCell ho _ _ hv, ?_, ?_⟩
  · have := (h.blk.keep hk h.tne).set 3 v'
    simpa [StV.cells] using this
  · exact (h.rb.keep hk (fun b e e' => by have := h.bb b e; have := h.fp_ge.2.2.1 b e'; omega)).keep hs (fun b e e' => h.bne b e e')
  · exact ownsRow_setCell (ownsRow_keep h.ol hk (fun b e e' => ownsRow_types h.ot h.ol (by decide) b e' e)) _ _ h.lne
  · exact ownsRow_setCell (ownsRow_keep h.oc hk (fun b e e' => h.ct b e e')) _ _ h.cne
  · exact ownsRow_setCell (ownsRow_keep h.on hk (fun b e e' => ownsRow_types h.ot h.on (by decide) b e' e)) _ _ h.nne
  · intro k e e'
    rcases hf with h1 | ⟨g, h1, h2⟩
    · exact h.ct k e (h1 ▸ e')
    · have : g = k := Option.some.inj (h1.symm.trans e')
      have := (h.oc.lt k e).2; omega
theorem OSt.setNotes {base : Nat} {w w1 : World} {V : StV} {S : St} {v' : Value} {ls : List ByteArray} (h : OSt base w V S) (hk : Keep (fun k => V.vn.ownBlock = some k) w w1)
    (ho : w1.ownsRow base 9 1 v' ls.length (strCells ls)) (hf : v'.ownBlock = V.vn.ownBlock ∨ ∃ g, v'.ownBlock = some g ∧ w.heap.size ≤ g) :
    OSt base (w1.setCell ⟨V.b, 4, none⟩ v') { V with vn := v' } { S with notes := ls } := by
  have hs : Keep (fun k => k = V.b) w1 (w1.setCell ⟨V.b, 4, none⟩ v') := (Keep.refl _ _).setCell _ _ (fun _ => rfl)
  have hv : v'.ownBlock ≠ some V.b := by
    intro e
    rcases hf with h1 | ⟨g, h1, h2⟩
    · exact h.nne (h1 ▸ e)
    · have : g = V.b := Option.some.inj (h1.symm.trans e)
      have := h.blk.lt; omega
  refine ⟨?_, h.ge, ?_, h.bb, ?_, ?_, ?_, ownsRow_setCell ho _ _ hv, h.ct⟩
  · have := (h.blk.keep hk h.nne).set 4 v'
    simpa [StV.cells] using this
  · exact (h.rb.keep hk (fun b e e' => by have := h.bb b e; have := h.fp_ge.2.2.2 b e'; omega)).keep hs (fun b e e' => h.bne b e e')
  · exact ownsRow_setCell (ownsRow_keep h.ol hk (fun b e e' => ownsRow_types h.on h.ol (by decide) b e' e)) _ _ h.lne
  · exact ownsRow_setCell (ownsRow_keep h.oc hk (fun b e e' => ownsRow_types h.on h.oc (by decide) b e' e)) _ _ h.cne
  · exact ownsRow_setCell (ownsRow_keep h.ot hk (fun b e e' => ownsRow_types h.on h.ot (by decide) b e' e)) _ _ h.tne

theorem OSt.fp_new {base : Nat} {w : World} {V : StV} {S : St} (h : OSt base w V S) : ∀ k, V.fp k → V.vb.ownBlock = some k ∨ base ≤ k := fun k hk => by
  rcases hk with e | e | e | e | e | e
  · exact .inr (e ▸ h.ge)
  · exact .inl e
  · exact .inr (h.fp_ge.1 k e)
  · exact .inr (h.fp_ge.2.1 k e)
  · exact .inr (h.fp_ge.2.2.1 k e)
  · exact .inr (h.fp_ge.2.2.2 k e)
/-- What a writer into a state leaves. -/
structure Chg (base : Nat) (w : World) (V V' : StV) (w' : World) : Prop where
  b : V'.b = V.b
  vb : V'.vb = V.vb
  fp : ∀ k, V'.fp k → V.fp k ∨ w.heap.size ≤ k
  keep : Keep (fun k => base ≤ k ∧ V.fp k) w w'
theorem Chg.refl (base : Nat) (w : World) (V : StV) : Chg base w V V w := ⟨rfl, rfl, fun _ h => .inl h, Keep.refl _ _⟩
theorem Chg.trans {base : Nat} {w w1 w2 : World} {V V1 V2 : StV} (h : Chg base w V V1 w1) (h' : Chg base w1 V1 V2 w2) : Chg base w V V2 w2 :=
  ⟨h'.b.trans h.b, h'.vb.trans h.vb, fun k hk => (h'.fp k hk).elim (h.fp k) (fun e => .inr (Nat.le_trans h.keep.size e)),
   h.keep.trans h'.keep (fun k hk e => ⟨e.1, (h.fp k e.2).elim id (fun e' => absurd hk (by omega))⟩)⟩
theorem Chg.before {base : Nat} {w w1 w2 : World} {V V2 : StV} (k : Keep (fun _ => False) w w1) (h' : Chg base w1 V V2 w2) : Chg base w V V2 w2 :=
  ⟨h'.b, h'.vb, fun i hi => (h'.fp i hi).elim .inl (fun e => .inr (Nat.le_trans k.size e)), (k.mono (fun _ _ e => e.elim)).trans h'.keep (fun _ _ e => e)⟩
theorem Chg.after {base : Nat} {w w1 w2 : World} {V V2 : StV} (h' : Chg base w V V2 w1) (k : Keep (fun _ => False) w1 w2) : Chg base w V V2 w2 :=
  ⟨h'.b, h'.vb, h'.fp, h'.keep.trans k (fun _ _ e => e.elim)⟩
end Go.Proofs.YtkkjonkcjlnohaaGreatDoor
