/- One lot of a state changed in place; the words of a command opened; house.state.shut. -/
import Derived.Test.YthdkamnclbfehaaGreatDoorTouch
namespace Go.Proofs.YthdkamnclbfehaaGreatDoor
set_option linter.unusedSimpArgs false
set_option linter.unusedVariables false
set_option linter.unnecessarySimpa false
open Go.RowKit

theorem ownsRow_set {w : World} {base : Nat} {e : TypeId} {size n g cap : Nat} {xs : List Value} (h : w.ownsRow base e size (.slice (some ⟨g, 0, none⟩) n cap) n xs) (k : Nat) (hk : k < xs.length) (u : Value) :
    (w.setCell ⟨g, k, none⟩ u).ownsRow base e size (.slice (some ⟨g, 0, none⟩) n cap) n (xs.set k u) := by
  obtain ⟨hl, h2⟩ := h
  refine ⟨by rw [List.length_set]; exact hl, ?_⟩
  rcases h2 with ⟨hv, _⟩ | ⟨g', c, cur, hv, hb, hgg, hnc, hcm, hcs, htake⟩
  · cases hv
  · cases hv
    refine .inr ⟨g, cap, cur.setIfInBounds k u, rfl, hb, ?_, hnc, hcm, by simp [hcs], ?_⟩
    · simp [World.setCell, Array.getElem?_modify, hgg]
    · rw [Array.toList_setIfInBounds, ← htake, List.take_set]
theorem lotCells_get (l : List Lot) (i f : Nat) (hi : i < l.length) (hf : f < 4) : (lotCells l)[i * 4 + f]? = (lotCell l[i])[f]? := by
  induction l generalizing i with
  | nil => exact absurd hi (by simp)
  | cons x l ih =>
    simp only [lotCells, List.flatMap_cons]
    cases i with
    | zero => rw [Nat.zero_mul, Nat.zero_add, List.getElem?_append_left (by simp [lotCell]; omega)]; rfl
    | succ i =>
      rw [List.getElem?_append_right (by simp [lotCell]; omega)]
      have : (i + 1) * 4 + f - (lotCell x).length = i * 4 + f := by simp [lotCell]; omega
      rw [this]
      exact ih i (by simpa using hi)
theorem lotCells_set (l : List Lot) (i f : Nat) (hi : i < l.length) (hf : f < 4) (x : Lot) (u : Value) (hx : lotCell x = (lotCell l[i]).set f u) : lotCells (l.set i x) = (lotCells l).set (i * 4 + f) u := by
  induction l generalizing i with
  | nil => exact absurd hi (by simp)
  | cons y l ih =>
    cases i with
    | zero =>
      simp only [lotCells, List.set_cons_zero, List.flatMap_cons, Nat.zero_mul, Nat.zero_add]
      rw [hx, List.set_append_left _ _ (by simp [lotCell]; omega)]
      rfl
    | succ i =>
      simp only [lotCells, List.set_cons_succ, List.flatMap_cons]
      rw [List.set_append_right _ _ (by simp [lotCell]; omega)]
      have : (i + 1) * 4 + f - (lotCell y).length = i * 4 + f := by simp [lotCell]; omega
      rw [this]
      have := ih i (by simpa using hi) (by simpa using hx)
      simp only [lotCells] at this
      rw [this]
/-- The row of lots, if there is one. -/
theorem OSt.lotRow {base : Nat} {w : World} {V : StV} {S : St} (h : OSt base w V S) (hp : 0 < S.lots.length) : ∃ g cap, V.vl = .slice (some ⟨g, 0, none⟩) S.lots.length cap ∧ g < w.heap.size ∧ base ≤ g ∧ g ≠ V.b := by
  rcases h.ol.2 with ⟨_, e⟩ | ⟨g, cap, cur, hv, hb, hgg, _⟩
  · omega
  · refine ⟨g, cap, hv, (Array.getElem?_eq_some_iff.1 hgg).1, hb, fun e => h.lne ?_⟩
    rw [hv, e]; rfl
theorem OSt.lotCell {base : Nat} {w : World} {V : StV} {S : St} (h : OSt base w V S) {g cap : Nat} (hv : V.vl = .slice (some ⟨g, 0, none⟩) S.lots.length cap) {i : Nat} (hi : i < S.lots.length) :
    (w.cell? ⟨g, i * 4, none⟩ = some (.string S.lots[i].spice) ∧ w.cell? ⟨g, i * 4 + 1, none⟩ = some (.int .i64 S.lots[i].grams) ∧ w.cell? ⟨g, i * 4 + 2, none⟩ = some (.int .i64 S.lots[i].bay) ∧ w.cell? ⟨g, i * 4 + 3, none⟩ = some (.bool S.lots[i].closed)) ∧ ∀ o, w.frozen? ⟨g, o, none⟩ = false := by
  have hr := ownsRow_rd h.ol (lotCells_one _)
  have hc : ∀ f u, f < 4 → (Go.Proofs.YthdkamnclbfehaaGreatDoor.lotCell S.lots[i])[f]? = some u → w.cell? ⟨g, i * 4 + f, none⟩ = some u := fun f u hf hu => by
    rcases hr.2.2 with ⟨_, e⟩ | ⟨g', o, c, e, _, _, hx⟩
    · omega
    · rw [hv] at e
      cases e
      have := hx (i * 4 + f) u (by rw [lotCells_get _ _ _ hi hf]; exact hu)
      rwa [Nat.zero_add] at this
  refine ⟨⟨hc 0 _ (by omega) rfl, hc 1 _ (by omega) rfl, hc 2 _ (by omega) rfl, hc 3 _ (by omega) rfl⟩, fun o => ?_⟩
  rcases h.ol.2 with ⟨e, _⟩ | ⟨g', cap', cur, e, _, hgg, _⟩
  · rw [hv] at e; cases e
  · rw [hv] at e; cases e
    simp [World.frozen?, hgg]
theorem OSt.setLot {base : Nat} {w : World} {V : StV} {S : St} (h : OSt base w V S) {g cap : Nat} (hv : V.vl = .slice (some ⟨g, 0, none⟩) S.lots.length cap) {i : Nat} (hi : i < S.lots.length) (f : Nat) (hf : f < 4) (x : Lot) (u : Value)
    (hx : Go.Proofs.YthdkamnclbfehaaGreatDoor.lotCell x = (Go.Proofs.YthdkamnclbfehaaGreatDoor.lotCell S.lots[i]).set f u) :
    OSt base (w.setCell ⟨g, i * 4 + f, none⟩ u) V { S with lots := S.lots.set i x } ∧ Chg base w V V (w.setCell ⟨g, i * 4 + f, none⟩ u) := by
  have hk : Keep (fun k => k = g) w (w.setCell ⟨g, i * 4 + f, none⟩ u) := (Keep.refl _ _).setCell _ _ (fun _ => rfl)
  have ho : V.vl.ownBlock = some g := by rw [hv]; rfl
  have hgne : g ≠ V.b := fun e => h.lne (e ▸ ho)
  refine ⟨⟨h.blk.keep hk (fun e => hgne e.symm), h.ge, h.rb.keep hk (fun b e e' => by have := h.bb b e; have := h.fp_ge.1 g ho; omega), h.bb, ?_, ownsRow_keep h.oc hk (fun b e e' => ownsRow_types h.ol h.oc (by decide) b (e' ▸ ho) e), ownsRow_keep h.ot hk (fun b e e' => ownsRow_types h.ol h.ot (by decide) b (e' ▸ ho) e), ownsRow_keep h.on hk (fun b e e' => ownsRow_types h.ol h.on (by decide) b (e' ▸ ho) e), h.ct⟩, rfl, rfl, fun _ e => .inl e, hk.mono (fun k _ e => ⟨h.fp_ge.1 k (e ▸ ho), .inr (.inr (.inl (e ▸ ho)))⟩)⟩
  have hol := h.ol
  rw [hv] at hol
  have := ownsRow_set hol (i * 4 + f) (by rw [lotCells_length]; omega) u
  rw [← lotCells_set _ _ _ hi hf x u hx] at this
  simp only [List.length_set, hv]
  exact this

/-- The words of a command, in the world in which its box has been laid. -/
theorem args_open {base : Nat} {w : World} {V : StV} {S : St} {vn : Value} {a : FA} (h : OSt base w V S) (ha : Args base w vn a) (hp : 0 < a.n.length) :
    ∃ nb no nc, vn = .slice (some ⟨nb, no, none⟩) a.n.length nc ∧ a.n.length ≤ nc ∧
      ∀ W, Keep (fun k => base ≤ k ∧ V.fp k) (w.alloc (.cells #[.slice (some ⟨nb, no, none⟩) a.n.length nc, .string a.word] 134)) W →
        W.cell? ⟨w.heap.size, 0, none⟩ = some (.slice (some ⟨nb, no, none⟩) a.n.length nc) ∧ W.cell? ⟨w.heap.size, 1, none⟩ = some (.string a.word) ∧ ∀ j, j < a.n.length → W.cell? ⟨nb, no + j, none⟩ = some (.int .i64 (a.n.getD j 0)) := by
  rcases ha.rd.2.2 with ⟨_, h1⟩ | ⟨nb, no, nc, rfl, hnc1, hnc2, hcells⟩
  · omega
  refine ⟨nb, no, nc, rfl, hnc1, fun W hk => ?_⟩
  have hk0 : Keep (fun _ => False) w (w.alloc (.cells #[.slice (some ⟨nb, no, none⟩) a.n.length nc, .string a.word] 134)) := (Keep.refl _ _).alloc _
  have hB := (Blk.new w #[.slice (some ⟨nb, no, none⟩) a.n.length nc, .string a.word] 134).keep hk (fun e => by have := h.fp_lt _ e.2; omega)
  refine ⟨hB.cell 0, hB.cell 1, fun j hj => ?_⟩
  have hn0 := hcells j _ (icells_get a.n j hj)
  have hlt := World.block_lt_of_cell? w _ hn0
  have hnb : nb < base := ha.lt nb rfl
  exact (hk.cell (p := ⟨nb, no + j, none⟩) (Nat.lt_of_lt_of_le hlt hk0.size) (fun e => by have := e.1; simp at this; omega)).trans ((hk0.cell (p := ⟨nb, no + j, none⟩) hlt (fun h => h)).trans hn0)

def shutF (S : St) (a : FA) : Res :=
  if hasLot S (a.n.getD 0 0) then
    match S.lots[(a.n.getD 0 0 - 1).toNat]? with
    | some x => if x.closed then ⟨7, S, bs []⟩ else ⟨0, { S with lots := S.lots.set (a.n.getD 0 0 - 1).toNat { x with bay := -1, closed := true } }, bs [99, 108, 111, 115, 101]⟩
    | none => ⟨5, S, bs []⟩
  else ⟨5, S, bs []⟩
end Go.Proofs.YthdkamnclbfehaaGreatDoor
