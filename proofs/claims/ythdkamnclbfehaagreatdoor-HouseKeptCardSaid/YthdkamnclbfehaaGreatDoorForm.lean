/- house.form: what a change says. -/
import Derived.Test.YthdkamnclbfehaaGreatDoorAtoi
import Derived.Test.YthdkamnclbfehaaGreatDoorState
import Derived.Test.YthdkamnclbfehaaGreatDoorHeld
namespace Go.Proofs.YthdkamnclbfehaaGreatDoor
set_option linter.unusedSimpArgs false
set_option linter.unusedVariables false
set_option linter.unnecessarySimpa false
open Go.RowKit

/-- Numbers, the other word, and whether all is well. -/
structure FA where
  n : List Int
  word : ByteArray
  ok : Bool
def goodB : ByteArray := bs [103, 111, 111, 100]
def badBs : ByteArray := bs [98, 97, 100]
def stepF (a : FA) (p : UInt8 × ByteArray) : FA :=
  if p.1 = 115 then ⟨a.n, p.2, a.ok && isSpiceB p.2⟩
  else if p.1 = 116 then ⟨a.n, p.2, a.ok && (decide (p.2 = goodB) || decide (p.2 = badBs))⟩
  else ⟨a.n ++ [atoiN p.2], a.word, a.ok && atoiOk p.2 && decide (p.2.size ≤ 6) && decide (0 ≤ atoiN p.2) && decide (itoaB (atoiN p.2) = p.2)⟩
def foldF (so : List UInt8) (ws : List ByteArray) : FA := (so.zip ws).foldl stepF ⟨[], bs [], true⟩
/-- The command's sorts and function, and the fold; none if it is no change in form and number of words. -/
def formF (s : ByteArray) : Option (List UInt8 × Nat × FA) :=
  if isLineB s then
    match chF ((words s).headD (bs [])).data.toList with
    | some (so, f) => if (words s).length - 1 = so.length then some (so, f, foldF so (words s).tail) else none
    | none => none
  else none
def FormPost (w : World) (s : ByteArray) (e : Ending) (w' : World) : Prop :=
  match formF s with
  | none => e = .returned (.tuple #[.agg #[.string (bs []), .nilFunc], .agg #[.slice none 0 0, .string (bs [])], .bool false]) ∧ Keep (fun _ => False) w w'
  | some (so, f, a) => ∃ vn, e = .returned (.tuple #[.agg #[.string (bs so), .func (.func f) #[] #[]], .agg #[vn, .string a.word], .bool a.ok]) ∧ w'.ownsRow w.heap.size 3 1 vn a.n.length (icells a.n) ∧ Keep (fun _ => False) w w'

@[go_sem] theorem run_store_nilFunc (P : Program) (w : World) (a : Addr) (m : Mode) : (store a .nilFunc m).run P w = stored P w a .nilFunc m := run_store P w a _ m rfl
@[go_sem] theorem run_store_func (P : Program) (w : World) (a : Addr) (m : Mode) (f : Fn) (x y : Array Value) : (store a (.func f x y) m).run P w = stored P w a (.func f x y) m := run_store P w a _ m rfl
theorem info132 : (Tryz.prog.info? 132).map (fun i => i.size) = some 2 := by kernel_rfl
theorem info134 : (Tryz.prog.info? 134).map (fun i => i.size) = some 2 := by kernel_rfl
theorem form_results (tmps : Array Value) (w : World) {b1 b2 : Nat} {v0 v1 u0 u1 ok : Value} (h2 : tmps[2]?.getD undef = .pointer (some ⟨b1, 0, none⟩)) (h3 : tmps[3]?.getD undef = .pointer (some ⟨b2, 0, none⟩)) (h4 : tmps[4]?.getD undef = ok)
    (c0 : w.cell? ⟨b1, 0, none⟩ = some v0) (c1 : w.cell? ⟨b1, 1, none⟩ = some v1) (d0 : w.cell? ⟨b2, 0, none⟩ = some u0) (d1 : w.cell? ⟨b2, 1, none⟩ = some u1) :
    (results Tryz.f71 tmps).run Tryz.prog w = .ok (.tuple #[.agg #[v0, v1], .agg #[u0, u1], ok]) w := by
  have hr : Tryz.f71.results = #[.cell 2 132, .cell 3 134, .tmp 4] := by kernel_rfl
  unfold results
  rw [hr]
  simp [h2, h3, h4, go_sem, c0, c1, d0, d1]
  try simp [go_sem, c0, c1, d0, d1, Result.andThen]
theorem form_back {R : Ending → World → Prop} {a : Act} {w1 : World} {b1 b2 : Nat} {c1 c2 : Array Value} {v0 v1 u0 u1 ok : Value} (B1 : Blk w1 b1 c1 132) (B2 : Blk w1 b2 c2 134) (s1 : c1.size = 2) (s2 : c2.size = 2) (hne : b1 ≠ b2)
    (h2 : a.tmps[2]?.getD undef = .pointer (some ⟨b1, 0, none⟩)) (h3 : a.tmps[3]?.getD undef = .pointer (some ⟨b2, 0, none⟩)) (h4 : a.tmps[4]?.getD undef = ok) (hd : a.defers = [])
    (hR : ∀ wf, Keep (fun k => k = b1 ∨ k = b2) w1 wf → R (.returned (.tuple #[.agg #[v0, v1], .agg #[u0, u1], ok])) wf) :
    bodyPost Tryz.prog Tryz.f71 R .ret a ((((w1.setCell ⟨b1, 0, none⟩ v0).setCell ⟨b1, 1, none⟩ v1).setCell ⟨b2, 0, none⟩ u0).setCell ⟨b2, 1, none⟩ u1) := by
  have D1 := (((B1.set 0 v0).set 1 v1).setOther ⟨b2, 0, none⟩ u0 hne).setOther ⟨b2, 1, none⟩ u1 hne
  have D2 := (((B2.setOther ⟨b1, 0, none⟩ v0 (fun h => hne h.symm)).setOther ⟨b1, 1, none⟩ v1 (fun h => hne h.symm)).set 0 u0).set 1 u1
  refine bodyPost_ret (form_results _ _ h2 h3 h4 ((D1.cell 0).trans ?_) ((D1.cell 1).trans ?_) ((D2.cell 0).trans ?_) ((D2.cell 1).trans ?_)) hd (hR _ ?_)
  · simp [s1]
  · simp [s1]
  · simp [s2]
  · simp [s2]
  · exact ((((Keep.refl _ _).setCell _ _ (fun _ => .inl rfl)).setCell _ _ (fun _ => .inl rfl)).setCell _ _ (fun _ => .inr rfl)).setCell _ _ (fun _ => .inr rfl)

theorem form_backd {R : Ending → World → Prop} {a : Act} {w1 : World} {b1 b2 : Nat} {c1 c2 : Array Value} {v0 v1 u0 u1 ok : Value} (B1 : Blk w1 b1 c1 132) (B2 : Blk w1 b2 c2 134) (s1 : c1.size = 2) (s2 : c2.size = 2) (hne : b1 ≠ b2)
    (h2 : a.tmps[2]?.getD undef = .pointer (some ⟨b1, 0, none⟩)) (h3 : a.tmps[3]?.getD undef = .pointer (some ⟨b2, 0, none⟩)) (h4 : a.tmps[4]?.getD undef = ok) (hd : a.defers = [])
    (hR : ∀ wf, Keep (fun k => k = b1 ∨ k = b2) w1 wf → R (.returned (.tuple #[.agg #[v0, v1], .agg #[u0, u1], ok])) wf) :
    bodyPost Tryz.prog Tryz.f71 R .ret a ((((w1.setCell ⟨b1, 0, none⟩ v0).setCell ⟨b1, 1, none⟩ v1).setCell ⟨b2, 0, none⟩ u0).setCell ⟨b2, 1, none⟩ u1).drew := by
  have D1 := (((B1.set 0 v0).set 1 v1).setOther ⟨b2, 0, none⟩ u0 hne).setOther ⟨b2, 1, none⟩ u1 hne
  have D2 := (((B2.setOther ⟨b1, 0, none⟩ v0 (fun h => hne h.symm)).setOther ⟨b1, 1, none⟩ v1 (fun h => hne h.symm)).set 0 u0).set 1 u1
  refine bodyPost_ret (form_results _ _ h2 h3 h4 ((D1.drew.cell 0).trans ?_) ((D1.drew.cell 1).trans ?_) ((D2.drew.cell 0).trans ?_) ((D2.drew.cell 1).trans ?_)) hd (hR _ ?_)
  · simp [s1]
  · simp [s1]
  · simp [s2]
  · simp [s2]
  · exact (((((Keep.refl _ _).setCell _ _ (fun _ => .inl rfl)).setCell _ _ (fun _ => .inl rfl)).setCell _ _ (fun _ => .inr rfl)).setCell _ _ (fun _ => .inr rfl)).drew

theorem toList_bs (s : ByteArray) (l : List UInt8) : s.toList = l ↔ s = bs l := by
  rw [ByteArray.toList_eq]
  constructor
  · intro h
    exact ByteArray.ext (by rw [← h]; rfl)
  · intro h; rw [h]; rfl
theorem beq_dec (s t : ByteArray) : (s.toList == t.toList) = decide (s = t) := by
  by_cases h : s = t
  · rw [h]; simp
  · rw [decide_eq_false h]
    exact beq_eq_false_iff_ne.2 (fun h' => h (by rw [ByteArray.toList_eq, ByteArray.toList_eq] at h'; exact ByteArray.ext (Array.toList_inj.1 h')))
theorem chF_len {s so : List UInt8} {f : Nat} (h : chF s = some (so, f)) : 1 ≤ so.length ∧ so.length ≤ 3 := by
  unfold chF at h
  repeat' split at h
  all_goals first | (cases h; simp; done) | (cases h)
theorem splitB_size (sep : ByteArray) (save : Nat) : ∀ (k : Nat) (s : ByteArray), ∀ x ∈ Lib.splitB sep save k s, x.size ≤ s.size := by
  intro k
  induction k with
  | zero => intro s x hx; simp [Lib.splitB] at hx; rw [hx]; exact Nat.le_refl _
  | succ k ih =>
    intro s x hx
    unfold Lib.splitB at hx
    split at hx
    · simp at hx; rw [hx]; exact Nat.le_refl _
    · rcases List.mem_cons.1 hx with h | h
      · rw [h, ByteArray.size_extract]; omega
      · have := ih _ x h
        rw [ByteArray.size_extract] at this; omega
theorem word_size {s : ByteArray} {j : Nat} (hj : j < (words s).length) : ((words s).getD j ByteArray.empty).size ≤ s.size := by
  have e : (words s).getD j ByteArray.empty = (words s)[j] := by simp [List.getD, hj]
  rw [e]
  exact splitB_size _ _ _ _ _ (List.getElem_mem hj)
def SplitPost2 (w0 w1 : World) (s : ByteArray) (bm : Nat) (e : Ending) (w2 : World) : Prop :=
  e = .returned (.slice (some ⟨w1.heap.size, 0, none⟩) (words s).length (words s).length) ∧ Keep (fun _ => False) w0 w2 ∧ w2.cell? ⟨0, 0, none⟩ = some (.map (some bm)) ∧
  (∀ j, j < (words s).length → w2.cell? ⟨w1.heap.size, j, none⟩ = some (.string ((words s).getD j ByteArray.empty))) ∧
  (∀ W, Keep (fun _ => False) w2 W → (Instr.lookup 182 (.map (some bm)) (.string ((words s).getD 0 ByteArray.empty)) true).run Tryz.prog W = .ok (.tuple #[chV ((words s).getD 0 ByteArray.empty).data.toList, .bool (chF ((words s).getD 0 ByteArray.empty).data.toList).isSome]) W)

theorem split2_any {w w0 w1 : World} {s : ByteArray} {bm : Nat} (hG : Glob w) (hk0 : Keep (fun _ => False) w w0) (hk1 : Keep (fun _ => False) w0 w1) (hs : s.size ≤ 4096) (hm : w.cell? ⟨0, 0, none⟩ = some (.map (some bm))) (hbm : bm < w.heap.size) (hch : ChAt bm w.heap[bm]?) :
    Calls Tryz.prog 101 #[.string s, .string ⟨#[32]⟩] w1 (SplitPost2 w0 w1 s bm) := by
  have hk := hk0.trans hk1 (fun _ _ h => h)
  refine (split_any (hG.keep hk) hs).mono ?_
  rintro e w2 ⟨rfl, rfl⟩
  have h9 := hG.size
  refine ⟨rfl, hk1.alloc _, ?_, fun j hj => ?_, fun W hW => ?_⟩
  · rw [((hk.alloc _).cell (p := ⟨0, 0, none⟩) (show 0 < w.heap.size by omega) (fun h => h))]; exact hm
  · have := words_cell w1 s j hj
    rwa [Nat.zero_add] at this
  · have h1 : 0 < (words s).length := by rw [words_length]; omega
    exact hch W (((hk.alloc _).trans hW (fun _ _ h => h)).block bm hbm (fun h => h)) _ (Nat.le_trans (word_size h1) hs)

set_option maxHeartbeats 6000000 in
set_option maxRecDepth 100000 in
theorem form_any {w : World} {s : ByteArray} (hG : Glob w) (hs : s.size ≤ 9223372036854775807) : Calls Tryz.prog 71 #[.string s] w (FormPost w s) := by
  obtain ⟨w0, hw0⟩ : ∃ w0, w0 = (w.alloc (.cells #[.string ⟨#[]⟩, .nilFunc] 132)).alloc (.cells #[.slice none 0 0, .string ⟨#[]⟩] 134) := ⟨_, rfl⟩
  have hk0 : Keep (fun _ => False) w w0 := by rw [hw0]; exact ((Keep.refl _ _).alloc _).alloc _
  have hn1 : Blk w0 w.heap.size #[.string ⟨#[]⟩, .nilFunc] 132 := by rw [hw0]; exact (Blk.new _ _ _).alloc _
  have hn2 : Blk w0 (w.heap.size + 1) #[.slice none 0 0, .string ⟨#[]⟩] 134 := by
    rw [hw0]; have := Blk.new (w.alloc (.cells #[.string ⟨#[]⟩, .nilFunc] 132)) #[.slice none 0 0, .string ⟨#[]⟩] 134
    rwa [World.size_alloc] at this
  have HR : Hid (∀ W, Keep (fun _ => False) w0 W → (W.cell? ⟨w.heap.size, 0, none⟩ = some (.string ⟨#[]⟩) ∧ W.cell? ⟨w.heap.size, 1, none⟩ = some .nilFunc ∧ W.cell? ⟨w.heap.size + 1, 0, none⟩ = some (.slice none 0 0) ∧ W.cell? ⟨w.heap.size + 1, 1, none⟩ = some (.string ⟨#[]⟩)) ∧
      W.frozen? ⟨w.heap.size, 0, none⟩ = false ∧ W.frozen? ⟨w.heap.size, 1, none⟩ = false ∧ W.frozen? ⟨w.heap.size + 1, 0, none⟩ = false ∧ W.frozen? ⟨w.heap.size + 1, 1, none⟩ = false) := Lib.hid fun W hk =>
    ⟨⟨((hn1.keep hk (fun h => h)).cell 0), ((hn1.keep hk (fun h => h)).cell 1), ((hn2.keep hk (fun h => h)).cell 0), ((hn2.keep hk (fun h => h)).cell 1)⟩,
      ((hn1.keep hk (fun h => h)).free 0), ((hn1.keep hk (fun h => h)).free 1), ((hn2.keep hk (fun h => h)).free 0), ((hn2.keep hk (fun h => h)).free 1)⟩
  have HL := Lib.hid (isLine_any (w := w0) (s := s) (hG.keep hk0) hs)
  have HG := Lib.hid hG; clear hG
  have HW0 := Lib.hid hw0; clear hw0
  have HK0 := Lib.hid hk0; clear hk0
  cases hl : isLineB s with
  | false =>
    have HF := Lib.hid (show formF s = none by unfold formF; rw [hl]; rfl)
    rw [hl] at HL; clear hl
    go_enter Tryz.func71, Tryz.ntmps71
    go_wp2_with (go_at_call 100; rw [← HW0.out]; refine HL.out.mono ?_; rintro e w1 ⟨rfl, hk1⟩; obtain ⟨⟨r0, r1, r2, r3⟩, g0, g1, g2, g3⟩ := HR.out w1 hk1; have HK1 := Lib.hid hk1; clear hk1)
    (try simp only [Exit.inBlock, Exit.then])
    refine form_back (hn1.keep HK1.out (fun h => h)) (hn2.keep HK1.out (fun h => h)) rfl rfl (by omega) rfl rfl rfl rfl (fun wf hkf => ?_)
    show FormPost _ _ _ _
    unfold FormPost
    rw [HF.out]
    exact ⟨rfl, (HK0.out.trans HK1.out (fun _ _ h => h)).trans hkf (fun k hk e => by omega)⟩
  | true =>
    have hs2 : s.size ≤ 200 := by unfold isLineB at hl; simp at hl; exact hl.1
    obtain ⟨bm, hm, hbm, hch⟩ := HG.out.changes
    have HSPL : Hid (∀ w1, Keep (fun _ => False) w0 w1 → Calls Tryz.prog 101 #[.string s, .string ⟨#[32]⟩] w1 (SplitPost2 w0 w1 s bm)) := Lib.hid fun w1 hk1 => split2_any HG.out HK0.out hk1 (by omega) hm hbm hch
    clear hm hbm hch
    have hL1 : 1 ≤ (words s).length := by rw [words_length]; omega
    have hL2 : (words s).length ≤ 201 := by
      have := Lib.countB_le ⟨#[32]⟩ (by decide) s.size s (Nat.le_refl _)
      rw [words_length]; omega
    unfold SplitPost2 at HSPL
    have HFX := Lib.hid (show formF s = match chF ((words s).getD 0 ByteArray.empty).data.toList with
      | some (so, f) => if (words s).length - 1 = so.length then some (so, f, foldF so (words s).tail) else none
      | none => none by unfold formF; rw [hl]; rw [if_pos rfl]; cases hw : words s with | nil => rw [hw] at hL1; exact absurd hL1 (by simp) | cons a b => rfl)
    rw [hl] at HL; clear hl
    obtain ⟨ws, hws⟩ : ∃ ws, words s = ws := ⟨_, rfl⟩
    rw [hws] at HSPL hL1 hL2 HFX
    have HWS := Lib.hid hws; clear hws
    obtain ⟨hd, hhd⟩ : ∃ hd, ws.getD 0 ByteArray.empty = hd := ⟨_, rfl⟩
    have HHD := Lib.hid hhd
    have HN1 := Lib.hid hn1; clear hn1
    have HN2 := Lib.hid hn2; clear hn2
    cases hc : chF hd.data.toList with
    | none =>
      have HF := Lib.hid (show formF s = none by rw [HFX.out, hhd, hc])
      rw [hhd] at HSPL
      have hcv : chV hd.data.toList = .agg #[.string ⟨#[]⟩, .nilFunc] := by unfold chV; rw [hc]; rfl
      rw [hc, hcv] at HSPL
      clear hc hhd hcv
      go_enter Tryz.func71, Tryz.ntmps71
      go_wp2_with (first
        | (go_at_call 100; rw [← HW0.out]; refine HL.out.mono ?_; rintro e w1 ⟨rfl, hk1⟩; have HK1 := Lib.hid hk1; clear hk1)
        | (go_at_call 101; refine (HSPL.out w1 HK1.out).mono ?_; rintro e w2 ⟨rfl, hk2, cg, cw, hlk⟩; have HK2 := Lib.hid hk2; clear hk2; have cw0 := cw 0 (by omega); rw [HHD.out] at cw0; have HLK := Lib.hid hlk; (try rw [HHD.out] at HLK); clear hlk; have HCW := Lib.hid cw; clear cw; obtain ⟨⟨r0, r1, r2, r3⟩, g0, g1, g2, g3⟩ := HR.out w2 HK2.out))
      have hz2 : w1.heap.size < w2.heap.size := by
        have := World.block_lt_of_cell? w2 _ cw0
        exact this
      have h9 := HG.out.size
      have hz1 := HK1.out.size
      have hz0 := HK0.out.size
      have HS : Hid (∀ W, Keep (fun k => k = w2.heap.size) w2 W → W.cell? ⟨0, 0, none⟩ = some (.map (some bm)) ∧ W.cell? ⟨w1.heap.size, 0, none⟩ = some (.string hd) ∧ (Instr.lookup 182 (.map (some bm)) (.string hd) true).run Tryz.prog W = .ok (.tuple #[.agg #[.string ⟨#[]⟩, .nilFunc], .bool false]) W) := Lib.hid fun W hk => by
        have hk' : Keep (fun _ => False) w2 W := hk.mono (fun k h1 h2 => by omega)
        exact ⟨(hk'.cell (p := ⟨0, 0, none⟩) (show 0 < w2.heap.size by omega) (fun h => h)).trans cg, (hk'.cell (p := ⟨w1.heap.size, 0, none⟩) hz2 (fun h => h)).trans cw0, by rw [HLK.out W hk']; rfl⟩
      refine wp_region_held_drew (S := fun W => W.cell? ⟨0, 0, none⟩ = some (.map (some bm)) ∧ W.cell? ⟨w1.heap.size, 0, none⟩ = some (.string hd) ∧ (Instr.lookup 182 (.map (some bm)) (.string hd) true).run Tryz.prog W = .ok (.tuple #[.agg #[.string ⟨#[]⟩, .nilFunc], .bool false]) W) (by kernel_rfl) (HS.out _ (Keep.refl _ _).drew) (fun hHeld => ?_)
      have hL0 : 0 < ws.length := hL1
      refine wpAnyH_take (i := 0) (oi := _) (v := ?_) rfl (by kernel_rfl) (by kernel_rfl) (by kernel_rfl) (fun _ _ _ h => h) (Or.inl ⟨by rfl, ?_⟩) (by assumption) ?_
      rotate_left
      · (intro w hSw; (try dsimp only at hSw); go_simp) <;> with_reducible rfl
      (try simp only [List.getElem_toArray, List.getElem_cons_zero, List.getElem_cons_succ, Act.put, List.setIfInBounds_toArray, List.set_cons_zero, List.set_cons_succ])
      refine wpAnyH_take (i := 1) (oi := _) (v := ?_) rfl (by kernel_rfl) (by kernel_rfl) (by kernel_rfl) (fun _ _ _ h => h) (Or.inl ⟨by rfl, ?_⟩) (by assumption) ?_
      rotate_left
      · (intro w hSw; (try dsimp only at hSw); go_simp) <;> with_reducible rfl
      (try simp only [List.getElem_toArray, List.getElem_cons_zero, List.getElem_cons_succ, Act.put, List.setIfInBounds_toArray, List.set_cons_zero, List.set_cons_succ])
      refine wpAnyH_take (i := 2) (oi := _) (v := ?_) rfl (by kernel_rfl) (by kernel_rfl) (by kernel_rfl) (fun _ _ _ h => h) (Or.inl ⟨by rfl, ?_⟩) (by assumption) ?_
      rotate_left
      · (intro w hSw; (try dsimp only at hSw); go_simp) <;> with_reducible rfl
      (try simp only [List.getElem_toArray, List.getElem_cons_zero, List.getElem_cons_succ, Act.put, List.setIfInBounds_toArray, List.set_cons_zero, List.set_cons_succ])
      refine wpAnyH_take (i := 3) (oi := _) (v := ?_) rfl (by kernel_rfl) (by kernel_rfl) (by kernel_rfl) (fun _ _ _ h => h) (Or.inl ⟨by rfl, ?_⟩) (by assumption) ?_
      rotate_left
      · (intro w hSw; (try dsimp only at hSw); go_simp) <;> with_reducible rfl
      (try simp only [List.getElem_toArray, List.getElem_cons_zero, List.getElem_cons_succ, Act.put, List.setIfInBounds_toArray, List.set_cons_zero, List.set_cons_succ])
      refine wpAnyH_take (i := 4) (oi := _) (v := ?_) rfl (by kernel_rfl) (by kernel_rfl) (by kernel_rfl) (fun _ _ _ h => h) (Or.inl ⟨by rfl, ?_⟩) (by assumption) ?_
      rotate_left
      · (intro w hSw; (try dsimp only at hSw); go_simp) <;> with_reducible rfl
      (try simp only [List.getElem_toArray, List.getElem_cons_zero, List.getElem_cons_succ, Act.put, List.setIfInBounds_toArray, List.set_cons_zero, List.set_cons_succ])
      refine wpAnyH_take (i := 5) (oi := _) (v := ?_) rfl (by kernel_rfl) (by kernel_rfl) (by kernel_rfl) (fun _ _ _ h => h) (Or.inl ⟨by rfl, ?_⟩) (by assumption) ?_
      rotate_left
      · (intro w hSw; (try dsimp only at hSw); go_simp) <;> with_reducible rfl
      (try simp only [List.getElem_toArray, List.getElem_cons_zero, List.getElem_cons_succ, Act.put, List.setIfInBounds_toArray, List.set_cons_zero, List.set_cons_succ])
      refine wpAnyH_take (i := 6) (oi := _) (v := ?_) rfl (by kernel_rfl) (by kernel_rfl) (by kernel_rfl) (fun _ _ _ h => h) (Or.inl ⟨by rfl, ?_⟩) (by assumption) ?_
      rotate_left
      · (intro w hSw; (try dsimp only at hSw); go_simp) <;> with_reducible rfl
      (try simp only [List.getElem_toArray, List.getElem_cons_zero, List.getElem_cons_succ, Act.put, List.setIfInBounds_toArray, List.set_cons_zero, List.set_cons_succ])
      refine wpAnyH_take (i := 7) (oi := _) (v := ?_) rfl (by kernel_rfl) (by kernel_rfl) (by kernel_rfl) (fun _ _ _ h => h) (Or.inl ⟨by rfl, ?_⟩) (by assumption) ?_
      rotate_left
      · (intro w hSw; (try dsimp only at hSw); go_simp) <;> with_reducible rfl
      (try simp only [List.getElem_toArray, List.getElem_cons_zero, List.getElem_cons_succ, Act.put, List.setIfInBounds_toArray, List.set_cons_zero, List.set_cons_succ])
      refine wpAnyH_ready (rs := [8]) (by kernel_rfl) (by simp) ?_
      refine AllReadyH.cons (o := _) rfl (fun K hK => ?_) AllReadyH.nil
      go_simp
      refine hK.out _ _ ?_ (fun hHeld => ?_)
      · (refine HS.out _ ?_; repeat (first | exact Keep.refl _ _ | apply Keep.drew | apply Keep.alloc | refine Keep.setCell ?_ _ _ (fun _ => rfl)))
      clear hK K
      (try simp only [List.getElem_toArray, List.getElem_cons_zero, List.getElem_cons_succ, Act.put, List.setIfInBounds_toArray, List.set_cons_zero, List.set_cons_succ])
      refine wpAnyH_ready (rs := [9]) (by kernel_rfl) (by simp) ?_
      refine AllReadyH.cons (o := _) rfl (fun K hK => ?_) AllReadyH.nil
      go_simp
      refine hK.out _ _ ?_ (fun hHeld => ?_)
      · (refine HS.out _ ?_; repeat (first | exact Keep.refl _ _ | apply Keep.drew | apply Keep.alloc | refine Keep.setCell ?_ _ _ (fun _ => rfl)))
      clear hK K
      (try simp only [List.getElem_toArray, List.getElem_cons_zero, List.getElem_cons_succ, Act.put, List.setIfInBounds_toArray, List.set_cons_zero, List.set_cons_succ])
      refine wpAnyH_take (i := 10) (oi := _) (v := ?_) rfl (by kernel_rfl) (by kernel_rfl) (by kernel_rfl) (fun _ _ _ h => h) (Or.inl ⟨by rfl, ?_⟩) (by assumption) ?_
      rotate_left
      · (intro w hSw; (try dsimp only at hSw); go_simp) <;> with_reducible rfl
      (try simp only [List.getElem_toArray, List.getElem_cons_zero, List.getElem_cons_succ, Act.put, List.setIfInBounds_toArray, List.set_cons_zero, List.set_cons_succ])
      refine wpAnyH_done (by kernel_rfl) ?_ _
      have hk3 : Keep (fun _ => False) w0 (w2.alloc (.cells #[.string ⟨#[]⟩, .nilFunc] 132)).drew := (HK2.out.alloc _).drew
      obtain ⟨w3, hw3⟩ : ∃ w3, w3 = (w2.alloc (.cells #[.string ⟨#[]⟩, .nilFunc] 132)).drew := ⟨_, rfl⟩
      rw [← hw3] at hk3
      rw [← hw3]
      clear hw3 r0 r1 r2 r3 g0 g1 g2 g3 cw0 cg HS
      obtain ⟨⟨r0, r1, r2, r3⟩, g0, g1, g2, g3⟩ := HR.out w3 hk3
      have HK3 := Lib.hid hk3; clear hk3
      go_wp2
      (try simp only [Exit.inBlock, Exit.then])
      refine form_back (HN1.out.keep HK3.out (fun h => h)) (HN2.out.keep HK3.out (fun h => h)) rfl rfl (by omega) rfl rfl rfl rfl (fun wf hkf => ?_)
      show FormPost _ _ _ _
      unfold FormPost
      rw [HF.out]
      exact ⟨rfl, (HK0.out.trans HK3.out (fun _ _ h => h)).trans hkf (fun k hk e => by omega)⟩
    | some x =>
      obtain ⟨so, f⟩ := x
      rw [hhd] at HSPL
      have hcv : chV hd.data.toList = .agg #[.string (bs so), .func (.func f) #[] #[]] := by unfold chV; rw [hc]
      have HF := Lib.hid (show formF s = (if ws.length - 1 = so.length then some (so, f, foldF so ws.tail) else none) by rw [HFX.out, hhd, hc])
      rw [hc, hcv] at HSPL
      have HC := Lib.hid hc; clear hc
      have hso : (bs so).size = so.length := by simp [bs, ByteArray.size]
      clear hhd hcv
      go_enter Tryz.func71, Tryz.ntmps71
      go_wp2_with (first
        | (go_at_call 100; rw [← HW0.out]; refine HL.out.mono ?_; rintro e w1 ⟨rfl, hk1⟩; have HK1 := Lib.hid hk1; clear hk1)
        | (go_at_call 101; refine (HSPL.out w1 HK1.out).mono ?_; rintro e w2 ⟨rfl, hk2, cg, cw, hlk⟩; have HK2 := Lib.hid hk2; clear hk2; have cw0 := cw 0 (by omega); rw [HHD.out] at cw0; have HLK := Lib.hid hlk; (try rw [HHD.out] at HLK); clear hlk; have HCW := Lib.hid cw; clear cw; obtain ⟨⟨r0, r1, r2, r3⟩, g0, g1, g2, g3⟩ := HR.out w2 HK2.out))
      have hz2 : w1.heap.size < w2.heap.size := by
        have := World.block_lt_of_cell? w2 _ cw0
        exact this
      have h9 := HG.out.size
      have hz1 := HK1.out.size
      have hz0 := HK0.out.size
      have HS : Hid (∀ W, Keep (fun k => k = w2.heap.size) w2 W → W.cell? ⟨0, 0, none⟩ = some (.map (some bm)) ∧ W.cell? ⟨w1.heap.size, 0, none⟩ = some (.string hd) ∧ (Instr.lookup 182 (.map (some bm)) (.string hd) true).run Tryz.prog W = .ok (.tuple #[.agg #[.string (bs so), .func (.func f) #[] #[]], .bool true]) W) := Lib.hid fun W hk => by
        have hk' : Keep (fun _ => False) w2 W := hk.mono (fun k h1 h2 => by omega)
        exact ⟨(hk'.cell (p := ⟨0, 0, none⟩) (show 0 < w2.heap.size by omega) (fun h => h)).trans cg, (hk'.cell (p := ⟨w1.heap.size, 0, none⟩) hz2 (fun h => h)).trans cw0, by rw [HLK.out W hk']; rfl⟩
      refine wp_region_held_drew (S := fun W => W.cell? ⟨0, 0, none⟩ = some (.map (some bm)) ∧ W.cell? ⟨w1.heap.size, 0, none⟩ = some (.string hd) ∧ (Instr.lookup 182 (.map (some bm)) (.string hd) true).run Tryz.prog W = .ok (.tuple #[.agg #[.string (bs so), .func (.func f) #[] #[]], .bool true]) W) (by kernel_rfl) (HS.out _ (Keep.refl _ _).drew) (fun hHeld => ?_)
      have hL0 : 0 < ws.length := hL1
      refine wpAnyH_take (i := 0) (oi := _) (v := ?_) rfl (by kernel_rfl) (by kernel_rfl) (by kernel_rfl) (fun _ _ _ h => h) (Or.inl ⟨by rfl, ?_⟩) (by assumption) ?_
      rotate_left
      · (intro w hSw; (try dsimp only at hSw); go_simp) <;> with_reducible rfl
      (try simp only [List.getElem_toArray, List.getElem_cons_zero, List.getElem_cons_succ, Act.put, List.setIfInBounds_toArray, List.set_cons_zero, List.set_cons_succ])
      refine wpAnyH_take (i := 1) (oi := _) (v := ?_) rfl (by kernel_rfl) (by kernel_rfl) (by kernel_rfl) (fun _ _ _ h => h) (Or.inl ⟨by rfl, ?_⟩) (by assumption) ?_
      rotate_left
      · (intro w hSw; (try dsimp only at hSw); go_simp) <;> with_reducible rfl
      (try simp only [List.getElem_toArray, List.getElem_cons_zero, List.getElem_cons_succ, Act.put, List.setIfInBounds_toArray, List.set_cons_zero, List.set_cons_succ])
      refine wpAnyH_take (i := 2) (oi := _) (v := ?_) rfl (by kernel_rfl) (by kernel_rfl) (by kernel_rfl) (fun _ _ _ h => h) (Or.inl ⟨by rfl, ?_⟩) (by assumption) ?_
      rotate_left
      · (intro w hSw; (try dsimp only at hSw); go_simp) <;> with_reducible rfl
      (try simp only [List.getElem_toArray, List.getElem_cons_zero, List.getElem_cons_succ, Act.put, List.setIfInBounds_toArray, List.set_cons_zero, List.set_cons_succ])
      refine wpAnyH_take (i := 3) (oi := _) (v := ?_) rfl (by kernel_rfl) (by kernel_rfl) (by kernel_rfl) (fun _ _ _ h => h) (Or.inl ⟨by rfl, ?_⟩) (by assumption) ?_
      rotate_left
      · (intro w hSw; (try dsimp only at hSw); go_simp) <;> with_reducible rfl
      (try simp only [List.getElem_toArray, List.getElem_cons_zero, List.getElem_cons_succ, Act.put, List.setIfInBounds_toArray, List.set_cons_zero, List.set_cons_succ])
      refine wpAnyH_take (i := 4) (oi := _) (v := ?_) rfl (by kernel_rfl) (by kernel_rfl) (by kernel_rfl) (fun _ _ _ h => h) (Or.inl ⟨by rfl, ?_⟩) (by assumption) ?_
      rotate_left
      · (intro w hSw; (try dsimp only at hSw); go_simp) <;> with_reducible rfl
      (try simp only [List.getElem_toArray, List.getElem_cons_zero, List.getElem_cons_succ, Act.put, List.setIfInBounds_toArray, List.set_cons_zero, List.set_cons_succ])
      refine wpAnyH_take (i := 5) (oi := _) (v := ?_) rfl (by kernel_rfl) (by kernel_rfl) (by kernel_rfl) (fun _ _ _ h => h) (Or.inl ⟨by rfl, ?_⟩) (by assumption) ?_
      rotate_left
      · (intro w hSw; (try dsimp only at hSw); go_simp) <;> with_reducible rfl
      (try simp only [List.getElem_toArray, List.getElem_cons_zero, List.getElem_cons_succ, Act.put, List.setIfInBounds_toArray, List.set_cons_zero, List.set_cons_succ])
      refine wpAnyH_take (i := 6) (oi := _) (v := ?_) rfl (by kernel_rfl) (by kernel_rfl) (by kernel_rfl) (fun _ _ _ h => h) (Or.inl ⟨by rfl, ?_⟩) (by assumption) ?_
      rotate_left
      · (intro w hSw; (try dsimp only at hSw); go_simp) <;> with_reducible rfl
      (try simp only [List.getElem_toArray, List.getElem_cons_zero, List.getElem_cons_succ, Act.put, List.setIfInBounds_toArray, List.set_cons_zero, List.set_cons_succ])
      refine wpAnyH_take (i := 7) (oi := _) (v := ?_) rfl (by kernel_rfl) (by kernel_rfl) (by kernel_rfl) (fun _ _ _ h => h) (Or.inl ⟨by rfl, ?_⟩) (by assumption) ?_
      rotate_left
      · (intro w hSw; (try dsimp only at hSw); go_simp) <;> with_reducible rfl
      (try simp only [List.getElem_toArray, List.getElem_cons_zero, List.getElem_cons_succ, Act.put, List.setIfInBounds_toArray, List.set_cons_zero, List.set_cons_succ])
      refine wpAnyH_ready (rs := [8]) (by kernel_rfl) (by simp) ?_
      refine AllReadyH.cons (o := _) rfl (fun K hK => ?_) AllReadyH.nil
      go_simp
      refine hK.out _ _ ?_ (fun hHeld => ?_)
      · (refine HS.out _ ?_; repeat (first | exact Keep.refl _ _ | apply Keep.drew | apply Keep.alloc | refine Keep.setCell ?_ _ _ (fun _ => rfl)))
      clear hK K
      (try simp only [List.getElem_toArray, List.getElem_cons_zero, List.getElem_cons_succ, Act.put, List.setIfInBounds_toArray, List.set_cons_zero, List.set_cons_succ])
      refine wpAnyH_ready (rs := [9]) (by kernel_rfl) (by simp) ?_
      refine AllReadyH.cons (o := _) rfl (fun K hK => ?_) AllReadyH.nil
      go_simp
      refine hK.out _ _ ?_ (fun hHeld => ?_)
      · (refine HS.out _ ?_; repeat (first | exact Keep.refl _ _ | apply Keep.drew | apply Keep.alloc | refine Keep.setCell ?_ _ _ (fun _ => rfl)))
      clear hK K
      (try simp only [List.getElem_toArray, List.getElem_cons_zero, List.getElem_cons_succ, Act.put, List.setIfInBounds_toArray, List.set_cons_zero, List.set_cons_succ])
      refine wpAnyH_take (i := 10) (oi := _) (v := ?_) rfl (by kernel_rfl) (by kernel_rfl) (by kernel_rfl) (fun _ _ _ h => h) (Or.inl ⟨by rfl, ?_⟩) (by assumption) ?_
      rotate_left
      · (intro w hSw; (try dsimp only at hSw); go_simp) <;> with_reducible rfl
      (try simp only [List.getElem_toArray, List.getElem_cons_zero, List.getElem_cons_succ, Act.put, List.setIfInBounds_toArray, List.set_cons_zero, List.set_cons_succ])
      refine wpAnyH_done (by kernel_rfl) ?_ _
      have hk3 : Keep (fun _ => False) w0 (w2.alloc (.cells #[.string (bs so), .func (.func f) #[] #[]] 132)).drew := (HK2.out.alloc _).drew
      have hn3 : Blk (w2.alloc (.cells #[.string (bs so), .func (.func f) #[] #[]] 132)).drew w2.heap.size #[.string (bs so), .func (.func f) #[] #[]] 132 := (Blk.new _ _ _).drew
      have hk23 : Keep (fun _ => False) w2 (w2.alloc (.cells #[.string (bs so), .func (.func f) #[] #[]] 132)).drew := ((Keep.refl _ _).alloc _).drew
      obtain ⟨w3, hw3⟩ : ∃ w3, w3 = (w2.alloc (.cells #[.string (bs so), .func (.func f) #[] #[]] 132)).drew := ⟨_, rfl⟩
      rw [← hw3] at hk3 hn3 hk23
      rw [← hw3]
      clear hw3 r0 r1 r2 r3 g0 g1 g2 g3 cw0 cg HS
      have s0 := hn3.cell 0
      have s1 := hn3.cell 1
      simp at s0 s1
      have HN3 := Lib.hid hn3; clear hn3
      have HK23 := Lib.hid hk23; clear hk23
      have e1 : IntKind.i64.wrap ((ws.length : Int) - 1) = (ws.length : Int) - 1 := IntWalk.i64_in _ (by omega)
      by_cases hlen : ws.length - 1 = so.length
      · have hne : (((ws.length : Int) - 1) != ((bs so).size : Int)) = false := by rw [hso]; simp; omega
        have HK3 := Lib.hid hk3; clear hk3
        have hle1 : (1 : Int) ≤ (ws.length : Int) := by omega
        rw [if_pos hlen] at HF
        have hz3 := HK23.out.size
        have hsl := chF_len HC.out
        have hws1 : (ws.length = 1) = False := eq_false (by omega)
        have hws0 : (so.length = 0) = False := eq_false (by omega)
        have hk34 : Keep (fun _ => False) w3 (w3.alloc (.cells #[.slice none 0 0, .string ⟨#[]⟩] 134)) := (Keep.refl _ _).alloc _
        have hn4 : Blk (w3.alloc (.cells #[.slice none 0 0, .string ⟨#[]⟩] 134)) w3.heap.size #[.slice none 0 0, .string ⟨#[]⟩] 134 := Blk.new _ _ _
        have hz4 : (w3.alloc (.cells #[.slice none 0 0, .string ⟨#[]⟩] 134)).heap.size = w3.heap.size + 1 := by simp
        have HNIL := Lib.hid (World.ownsRow_nil (w3.alloc (.cells #[.slice none 0 0, .string ⟨#[]⟩] 134)) (w3.alloc (.cells #[.slice none 0 0, .string ⟨#[]⟩] 134)).heap.size 3 1)
        go_wp2
        obtain ⟨w4, hw4⟩ : ∃ w4, w4 = (w3.alloc (.cells #[.slice none 0 0, .string ⟨#[]⟩] 134)) := ⟨_, rfl⟩
        rw [← hw4] at hk34 hn4 hz4 HNIL
        rw [← hw4]
        clear hw4 s0 s1
        rw [show (((ws.length : Int) - 1) != (so.length : Int)) = false by rw [← hso]; exact hne]
        clear hne e1 hle1
        have HN4 := Lib.hid hn4; clear hn4
        have HK34 := Lib.hid hk34; clear hk34
        go_loopw [7, 44] (fun o i wr => ∃ (k : Nat) (a : FA) (vn : Value), k ≤ so.length ∧ i = .int .i64 k ∧ o = .bool a.ok ∧ a = ((so.zip ws.tail).take k).foldl stepF ⟨[], bs [], true⟩ ∧ a.n.length ≤ k ∧ wr.ownsRow w4.heap.size 3 1 vn a.n.length (icells a.n) ∧ Blk wr w3.heap.size #[vn, .string a.word] 134 ∧ Keep (fun b => b = w3.heap.size) w4 wr) (fun _ i _ => so.length - (intOf i).toNat)
        · exact ⟨0, ⟨[], bs [], true⟩, .slice none 0 0, by omega, rfl, rfl, by simp, by simp, HNIL.out, HN4.out, Keep.refl _ _⟩
        case round =>
          obtain ⟨k, a, vn, hk, rfl, rfl, ha, hnl, hown, hblk, hkeep⟩ := hrel
          have HA := Lib.hid ha; clear ha
          obtain ⟨ao, cap, hv, hcap, _⟩ := ownsRow_shape hown
          subst hv
          have HO := Lib.hid hown; clear hown
          have HB := Lib.hid hblk; clear hblk
          have HK := Lib.hid hkeep; clear hkeep
          have hz := HK.out.size
          have hl3 := HN3.out.lt
          have hl0 := HN2.out.lt
          have hk0r : Keep (fun b => b = w3.heap.size) w0 wr := ((HK3.out.trans HK34.out (fun _ _ h => h)).mono (fun _ _ h => h.elim)).trans HK.out (fun _ _ h => h)
          have hk0' : Keep (fun _ => False) w0 wr := hk0r.mono (fun k h1 h2 => by omega)
          have HK0R := Lib.hid hk0'; clear hk0r hk0'
          by_cases hlt : k < so.length
          · have B6 := ((HN3.out.keep HK34.out (fun h => h)).keep HK.out (show ¬ w2.heap.size = w3.heap.size by omega))
            have d0 := B6.cell 0
            have d2 := HB.out.cell 0
            have d3 := HB.out.cell 1
            have f2 := HB.out.free 0
            have f3 := HB.out.free 1
            simp at d0 d2 d3
            clear B6
            have hk2r : Keep (fun b => b = w3.heap.size) w2 wr := ((HK23.out.trans HK34.out (fun _ _ h => h)).mono (fun _ _ h => h.elim)).trans HK.out (fun _ _ h => h)
            have cwd := (hk2r.cell (p := ⟨w1.heap.size, k + 1, none⟩) (show w1.heap.size < w2.heap.size by omega) (show ¬ w1.heap.size = w3.heap.size by omega)).trans (HCW.out (k + 1) (by omega))
            clear hk2r
            rw [Nat.add_comm k 1] at cwd
            obtain ⟨wd, hwd⟩ : ∃ wd, ws.getD (1 + k) ByteArray.empty = wd := ⟨_, rfl⟩
            rw [hwd] at cwd
            obtain ⟨c, hcc⟩ : ∃ c, so[k]? = some c := ⟨so[k], List.getElem?_eq_getElem hlt⟩
            have hlti : ((k : Int) < (so.length : Int)) = True := by simp; omega
            have hwk : IntKind.i64.wrap ((k : Int) + 1) = (k : Int) + 1 := IntWalk.i64_in _ (by omega)
            have hzip : ((so.zip ws.tail).take (k + 1)).foldl stepF ⟨[], bs [], true⟩ = stepF a (c, wd) := by
              have hk1 : k < (so.zip ws.tail).length := by rw [List.length_zip, List.length_tail]; omega
              rw [List.take_succ_eq_append_getElem hk1, List.foldl_append, ← HA.out]
              have h1 : so[k] = c := by rw [List.getElem?_eq_getElem hlt] at hcc; exact Option.some.inj hcc
              have h2 : ws.tail[k]'(by rw [List.length_tail]; omega) = wd := by
                rw [← hwd, List.getElem_tail, Nat.add_comm 1 k]
                simp [List.getD, show k + 1 < ws.length by omega]
              simp only [List.getElem_zip, List.foldl_cons, List.foldl_nil, h1, h2]
            have HZ := Lib.hid hzip; clear hzip
            have hcb : (bs so)[k]'(by omega) = c := by
              rw [List.getElem?_eq_getElem hlt] at hcc
              rw [← Option.some.inj hcc]; rfl
            have hwds : wd.size ≤ 200 := by
              have := word_size (s := s) (j := 1 + k) (by rw [HWS.out]; omega)
              rw [HWS.out, hwd] at this; omega
            have hidx : ∀ W, (Instr.index 9 (.string (bs so)) (.int .i64 k)).run Tryz.prog W = .ok (.int .u8 c.toNat) W := fun W => by
              rw [run_index_string W 9 (bs so) .i64 k Tryz.underlying9, dif_pos (by omega)]
              simp only [Int.toNat_natCast, hcb]
            clear hcb hcc hwd
            have HNO : Hid ((Value.slice ao a.n.length cap).ownBlock ≠ some w3.heap.size) := Lib.hid fun h => by have := (ownsRow_lt HO.out _ h).1; rw [hz4] at this; omega
            have hfin : Hid (∀ (a' : FA) (vn : Value) (w6 : World), a' = stepF a (c, wd) → a'.n.length ≤ k + 1 → w6.ownsRow w4.heap.size 3 1 vn a'.n.length (icells a'.n) → Blk w6 w3.heap.size #[vn, .string a'.word] 134 → Keep (fun b => b = w3.heap.size) w4 w6 →
              ∃ (k_1 : Nat) (a : FA) (vn : Value), k_1 ≤ so.length ∧ Value.int .i64 ((k : Int) + 1) = .int .i64 k_1 ∧ Value.bool a'.ok = .bool a.ok ∧ a = ((so.zip ws.tail).take k_1).foldl stepF ⟨[], bs [], true⟩ ∧ a.n.length ≤ k_1 ∧ w6.ownsRow w4.heap.size 3 1 vn a.n.length (icells a.n) ∧ Blk w6 w3.heap.size #[vn, .string a.word] 134 ∧ Keep (fun b => b = w3.heap.size) w4 w6) :=
              Lib.hid fun a' vn w6 h1 h2 h3 h4 h5 => ⟨k + 1, a', vn, hlt, rfl, rfl, by rw [h1, HZ.out], h2, h3, h4, h5⟩
            by_cases hc1 : c = 115
            · subst hc1
              have hidx' : ∀ W, (Instr.index 9 (.string (bs so)) (.int .i64 k)).run Tryz.prog W = .ok (.int .u8 115) W := hidx
              clear hidx
              have hst : stepF a (115, wd) = ⟨a.n, wd, a.ok && isSpiceB wd⟩ := rfl
              have HST := Lib.hid hst; clear hst
              cases hok : a.ok with
              | false =>
                go_wp2
                go_roundw
                case rel => exact hfin.out ⟨a.n, wd, false⟩ _ _ (by rw [HST.out, hok]; rfl) (Nat.le_succ_of_le hnl) (ownsRow_setCell HO.out _ _ HNO.out) (by simpa using HB.out.set 1 (.string wd)) (HK.out.setCell _ _ (fun _ => rfl))
                case measure => simp [intOf]; omega
              | true =>
                go_wp2_with (go_at_call 102; have hh := isSpice_any (w := wr) (s := wd) (by omega); refine Calls.mono hh ?_; clear hh; rintro e w5 ⟨rfl, hk5⟩; have d3 := (hk5.cell (p := ⟨w3.heap.size, 1, none⟩) HB.out.lt (fun h => h)).trans d3; have f3 := (hk5.frozen (p := ⟨w3.heap.size, 1, none⟩) HB.out.lt (fun h => h)).trans f3; have HK5 := Lib.hid hk5; clear hk5)
                go_roundw
                case rel => exact hfin.out ⟨a.n, wd, isSpiceB wd⟩ _ _ (by rw [HST.out, hok]; rfl) (Nat.le_succ_of_le hnl) (ownsRow_setCell (ownsRow_keep HO.out HK5.out (fun _ _ h => h)) _ _ HNO.out) (by simpa using (HB.out.keep HK5.out (fun h => h)).set 1 (.string wd)) ((HK.out.trans HK5.out (fun _ _ h => h.elim)).setCell _ _ (fun _ => rfl))
                case measure => simp [intOf]; omega
            by_cases hc2 : c = 116
            · subst hc2
              have hidx' : ∀ W, (Instr.index 9 (.string (bs so)) (.int .i64 k)).run Tryz.prog W = .ok (.int .u8 116) W := hidx
              clear hidx
              have hst : stepF a (116, wd) = ⟨a.n, wd, a.ok && (decide (wd = goodB) || decide (wd = badBs))⟩ := rfl
              have HST := Lib.hid hst; clear hst
              cases hok : a.ok with
              | false =>
                go_wp2
                go_roundw
                case rel => exact hfin.out ⟨a.n, wd, false⟩ _ _ (by rw [HST.out, hok]; rfl) (Nat.le_succ_of_le hnl) (ownsRow_setCell HO.out _ _ HNO.out) (by simpa using HB.out.set 1 (.string wd)) (HK.out.setCell _ _ (fun _ => rfl))
                case measure => simp [intOf]; omega
              | true =>
                by_cases hg : wd = goodB
                · have hgl : (wd.toList = [103, 111, 111, 100]) = True := eq_true ((toList_bs _ _).2 hg)
                  have HG1 := Lib.hid (show decide (wd = goodB) = true from decide_eq_true hg); clear hg
                  go_wp2
                  go_roundw
                  case rel => exact hfin.out ⟨a.n, wd, true⟩ _ _ (by rw [HST.out, hok, HG1.out]; rfl) (Nat.le_succ_of_le hnl) (ownsRow_setCell HO.out _ _ HNO.out) (by simpa using HB.out.set 1 (.string wd)) (HK.out.setCell _ _ (fun _ => rfl))
                  case measure => simp [intOf]; omega
                · have hgl : (wd.toList = [103, 111, 111, 100]) = False := eq_false (fun h => hg ((toList_bs _ _).1 h))
                  have hbe1 : (wd.toList == [103, 111, 111, 100]) = false := beq_eq_false_iff_ne.2 (fun h => hg ((toList_bs _ _).1 h))
                  have HG1 := Lib.hid (show decide (wd = goodB) = false from decide_eq_false hg); clear hg
                  by_cases hb : wd = badBs
                  · have hbl : (wd.toList = [98, 97, 100]) = True := eq_true ((toList_bs _ _).2 hb)
                    have hbe2 : (wd.toList == [98, 97, 100]) = true := beq_iff_eq.2 ((toList_bs _ _).2 hb)
                    have HG2 := Lib.hid (show decide (wd = badBs) = true from decide_eq_true hb); clear hb
                    go_wp2
                    go_roundw
                    case rel => exact hfin.out ⟨a.n, wd, true⟩ _ _ (by rw [HST.out, hok, HG1.out, HG2.out]; rfl) (Nat.le_succ_of_le hnl) (ownsRow_setCell HO.out _ _ HNO.out) (by simpa using HB.out.set 1 (.string wd)) (HK.out.setCell _ _ (fun _ => rfl))
                    case measure => simp [intOf]; omega
                  · have hbl : (wd.toList = [98, 97, 100]) = False := eq_false (fun h => hb ((toList_bs _ _).1 h))
                    have hbe2 : (wd.toList == [98, 97, 100]) = false := beq_eq_false_iff_ne.2 (fun h => hb ((toList_bs _ _).1 h))
                    have HG2 := Lib.hid (show decide (wd = badBs) = false from decide_eq_false hb); clear hb
                    go_wp2
                    go_roundw
                    case rel => exact hfin.out ⟨a.n, wd, false⟩ _ _ (by rw [HST.out, hok, HG1.out, HG2.out]; rfl) (Nat.le_succ_of_le hnl) (ownsRow_setCell HO.out _ _ HNO.out) (by simpa using HB.out.set 1 (.string wd)) (HK.out.setCell _ _ (fun _ => rfl))
                    case measure => simp [intOf]; omega
            have hcx : ((c.toNat : Int) == 115) = false := by
              have : c.toNat ≠ 115 := fun h => hc1 (UInt8.toNat.inj h)
              simp; omega
            have hcy : ((c.toNat : Int) == 116) = false := by
              have : c.toNat ≠ 116 := fun h => hc2 (UInt8.toNat.inj h)
              simp; omega
            have hst : stepF a (c, wd) = ⟨a.n ++ [atoiN wd], a.word, a.ok && atoiOk wd && decide (wd.size ≤ 6) && decide (0 ≤ atoiN wd) && decide (itoaB (atoiN wd) = wd)⟩ := by
              unfold stepF; rw [if_neg hc1, if_neg hc2]
            have HST := Lib.hid hst; clear hst hc1 hc2
            cases hok : a.ok with
            | false =>
              cases hao : atoiOk wd with
              | false =>
                have HAO := Lib.hid (show atoiOk wd = false from hao)
                clear hao
                go_wp2_with (first | (go_at_call 103; have hh := atoi_any (w := wr) (s := wd) (HG.out.keep (HK0.out.trans HK0R.out (fun _ _ h => h))) (by omega); refine Calls.mono hh ?_; clear hh; rintro e w5 ⟨N, rfl, hk5⟩; rw [HAO.out]; simp only [errV]; have d2 := (hk5.cell (p := ⟨w3.heap.size, 0, none⟩) HB.out.lt (fun h => h)).trans d2; have f2 := (hk5.frozen (p := ⟨w3.heap.size, 0, none⟩) HB.out.lt (fun h => h)).trans f2; have HK5 := Lib.hid hk5; clear hk5) | (at_builtin; refine wpList_app (w := w5.alloc (.cells #[.int .i64 (atoiN wd)] 3)) rfl (.tmp 79) (.tmp 81) 34 34 rfl 3 (.int .i64 0) 1 8 Tryz.underlying34 info3' rfl ((ownsRow_keep HO.out HK5.out (fun _ _ h => h)).alloc _) rfl (Src.new (P := Tryz.prog) Tryz.underlying34 w5 1 [.int .i64 (atoiN wd)] 3 rfl (by simp [Value.oneCell'])) rfl ?hb1 ?hb2 ?hb3 ?hgo))
                case hb1 => first | omega | (simp; omega) | (unfold maxLen; omega) | (unfold maxLen; simp; omega)
                case hb2 => first | omega | (simp; omega) | (unfold maxLen; omega) | (unfold maxLen; simp; omega)
                case hb3 => have z2 := HK5.out.size; have z4 := HK.out.size; simp; omega
                case hgo =>
                intro v' w7 happ
                obtain ⟨ao7, cap7, rfl, _⟩ := ownsRow_shape happ.own
                have hb7 := (((HB.out.keep HK5.out (fun h => h)).alloc (.cells #[.int .i64 (atoiN wd)] 3)).keep happ.keep (fun e => HNO.out e))
                have hne7 : (Value.slice ao7 (a.n.length + 1) cap7).ownBlock ≠ some w3.heap.size := by
                  intro h
                  rcases happ.fresh with h1 | ⟨g, h1, h2⟩
                  · exact HNO.out (h1 ▸ h)
                  · have h5 : g = w3.heap.size := Option.some.inj (h1.symm.trans h)
                    have z1 := HB.out.lt; have z2 := HK5.out.size; rw [World.size_alloc] at h2
                    omega
                have hkf : Keep (fun b => b = w3.heap.size) w4 w7 := ((HK.out.trans HK5.out (fun _ _ h => h.elim)).alloc _).trans happ.keep (fun g hg e => by have h3 := ownsRow_lt HO.out g e; omega)
                have HKF := Lib.hid hkf; clear hkf
                have HNE7 := Lib.hid hne7; clear hne7
                have d2 := hb7.cell 0
                have f2 := hb7.free 0
                simp at d2
                have HB7 := Lib.hid hb7; clear hb7
                have HA7 := Lib.hid happ; clear happ
                go_wp2
                go_roundw
                case rel => exact hfin.out ⟨a.n ++ [atoiN wd], a.word, false⟩ (.slice ao7 (a.n.length + 1) cap7) _ (by rw [HST.out, hok]; rfl) (by simp; omega) (by simpa [icells, hz4] using ownsRow_setCell HA7.out.own ⟨w3.heap.size, 0, none⟩ (.slice ao7 (a.n.length + 1) cap7) HNE7.out) (by simpa using HB7.out.set 0 (.slice ao7 (a.n.length + 1) cap7)) (HKF.out.setCell _ _ (fun _ => rfl))
                case measure => simp [intOf]; omega
              | true =>
                have HAO := Lib.hid (show atoiOk wd = true from hao)
                clear hao
                go_wp2_with (first | (go_at_call 103; have hh := atoi_any (w := wr) (s := wd) (HG.out.keep (HK0.out.trans HK0R.out (fun _ _ h => h))) (by omega); refine Calls.mono hh ?_; clear hh; rintro e w5 ⟨N, rfl, hk5⟩; rw [HAO.out]; simp only [errV]; have d2 := (hk5.cell (p := ⟨w3.heap.size, 0, none⟩) HB.out.lt (fun h => h)).trans d2; have f2 := (hk5.frozen (p := ⟨w3.heap.size, 0, none⟩) HB.out.lt (fun h => h)).trans f2; have HK5 := Lib.hid hk5; clear hk5) | (at_builtin; refine wpList_app (w := w5.alloc (.cells #[.int .i64 (atoiN wd)] 3)) rfl (.tmp 79) (.tmp 81) 34 34 rfl 3 (.int .i64 0) 1 8 Tryz.underlying34 info3' rfl ((ownsRow_keep HO.out HK5.out (fun _ _ h => h)).alloc _) rfl (Src.new (P := Tryz.prog) Tryz.underlying34 w5 1 [.int .i64 (atoiN wd)] 3 rfl (by simp [Value.oneCell'])) rfl ?hb1 ?hb2 ?hb3 ?hgo))
                case hb1 => first | omega | (simp; omega) | (unfold maxLen; omega) | (unfold maxLen; simp; omega)
                case hb2 => first | omega | (simp; omega) | (unfold maxLen; omega) | (unfold maxLen; simp; omega)
                case hb3 => have z2 := HK5.out.size; have z4 := HK.out.size; simp; omega
                case hgo =>
                intro v' w7 happ
                obtain ⟨ao7, cap7, rfl, _⟩ := ownsRow_shape happ.own
                have hb7 := (((HB.out.keep HK5.out (fun h => h)).alloc (.cells #[.int .i64 (atoiN wd)] 3)).keep happ.keep (fun e => HNO.out e))
                have hne7 : (Value.slice ao7 (a.n.length + 1) cap7).ownBlock ≠ some w3.heap.size := by
                  intro h
                  rcases happ.fresh with h1 | ⟨g, h1, h2⟩
                  · exact HNO.out (h1 ▸ h)
                  · have h5 : g = w3.heap.size := Option.some.inj (h1.symm.trans h)
                    have z1 := HB.out.lt; have z2 := HK5.out.size; rw [World.size_alloc] at h2
                    omega
                have hkf : Keep (fun b => b = w3.heap.size) w4 w7 := ((HK.out.trans HK5.out (fun _ _ h => h.elim)).alloc _).trans happ.keep (fun g hg e => by have h3 := ownsRow_lt HO.out g e; omega)
                have HKF := Lib.hid hkf; clear hkf
                have HNE7 := Lib.hid hne7; clear hne7
                have d2 := hb7.cell 0
                have f2 := hb7.free 0
                simp at d2
                have HB7 := Lib.hid hb7; clear hb7
                have HA7 := Lib.hid happ; clear happ
                go_wp2
                go_roundw
                case rel => exact hfin.out ⟨a.n ++ [atoiN wd], a.word, false⟩ (.slice ao7 (a.n.length + 1) cap7) _ (by rw [HST.out, hok]; rfl) (by simp; omega) (by simpa [icells, hz4] using ownsRow_setCell HA7.out.own ⟨w3.heap.size, 0, none⟩ (.slice ao7 (a.n.length + 1) cap7) HNE7.out) (by simpa using HB7.out.set 0 (.slice ao7 (a.n.length + 1) cap7)) (HKF.out.setCell _ _ (fun _ => rfl))
                case measure => simp [intOf]; omega
            | true =>
              cases hao : atoiOk wd with
              | false =>
                have HAO := Lib.hid (show atoiOk wd = false from hao)
                clear hao
                go_wp2_with (first | (go_at_call 103; have hh := atoi_any (w := wr) (s := wd) (HG.out.keep (HK0.out.trans HK0R.out (fun _ _ h => h))) (by omega); refine Calls.mono hh ?_; clear hh; rintro e w5 ⟨N, rfl, hk5⟩; rw [HAO.out]; simp only [errV]; have d2 := (hk5.cell (p := ⟨w3.heap.size, 0, none⟩) HB.out.lt (fun h => h)).trans d2; have f2 := (hk5.frozen (p := ⟨w3.heap.size, 0, none⟩) HB.out.lt (fun h => h)).trans f2; have HK5 := Lib.hid hk5; clear hk5) | (at_builtin; refine wpList_app (w := w5.alloc (.cells #[.int .i64 (atoiN wd)] 3)) rfl (.tmp 79) (.tmp 81) 34 34 rfl 3 (.int .i64 0) 1 8 Tryz.underlying34 info3' rfl ((ownsRow_keep HO.out HK5.out (fun _ _ h => h)).alloc _) rfl (Src.new (P := Tryz.prog) Tryz.underlying34 w5 1 [.int .i64 (atoiN wd)] 3 rfl (by simp [Value.oneCell'])) rfl ?hb1 ?hb2 ?hb3 ?hgo))
                case hb1 => first | omega | (simp; omega) | (unfold maxLen; omega) | (unfold maxLen; simp; omega)
                case hb2 => first | omega | (simp; omega) | (unfold maxLen; omega) | (unfold maxLen; simp; omega)
                case hb3 => have z2 := HK5.out.size; have z4 := HK.out.size; simp; omega
                case hgo =>
                intro v' w7 happ
                obtain ⟨ao7, cap7, rfl, _⟩ := ownsRow_shape happ.own
                have hb7 := (((HB.out.keep HK5.out (fun h => h)).alloc (.cells #[.int .i64 (atoiN wd)] 3)).keep happ.keep (fun e => HNO.out e))
                have hne7 : (Value.slice ao7 (a.n.length + 1) cap7).ownBlock ≠ some w3.heap.size := by
                  intro h
                  rcases happ.fresh with h1 | ⟨g, h1, h2⟩
                  · exact HNO.out (h1 ▸ h)
                  · have h5 : g = w3.heap.size := Option.some.inj (h1.symm.trans h)
                    have z1 := HB.out.lt; have z2 := HK5.out.size; rw [World.size_alloc] at h2
                    omega
                have hkf : Keep (fun b => b = w3.heap.size) w4 w7 := ((HK.out.trans HK5.out (fun _ _ h => h.elim)).alloc _).trans happ.keep (fun g hg e => by have h3 := ownsRow_lt HO.out g e; omega)
                have HKF := Lib.hid hkf; clear hkf
                have HNE7 := Lib.hid hne7; clear hne7
                have d2 := hb7.cell 0
                have f2 := hb7.free 0
                simp at d2
                have HB7 := Lib.hid hb7; clear hb7
                have HA7 := Lib.hid happ; clear happ
                go_wp2
                go_roundw
                case rel => exact hfin.out ⟨a.n ++ [atoiN wd], a.word, false⟩ (.slice ao7 (a.n.length + 1) cap7) _ (by rw [HST.out, hok, HAO.out]; rfl) (by simp; omega) (by simpa [icells, hz4] using ownsRow_setCell HA7.out.own ⟨w3.heap.size, 0, none⟩ (.slice ao7 (a.n.length + 1) cap7) HNE7.out) (by simpa using HB7.out.set 0 (.slice ao7 (a.n.length + 1) cap7)) (HKF.out.setCell _ _ (fun _ => rfl))
                case measure => simp [intOf]; omega
              | true =>
                have HAO := Lib.hid (show atoiOk wd = true from hao)
                clear hao
                by_cases hsz : wd.size ≤ 6
                · have hsd : decide ((wd.size : Int) ≤ 6) = true := decide_eq_true (by omega)
                  have HSZ := Lib.hid (show decide (wd.size ≤ 6) = true from decide_eq_true hsz); clear hsz
                  by_cases hn0 : 0 ≤ atoiN wd
                  · have hnd : decide ((0 : Int) ≤ atoiN wd) = true := decide_eq_true hn0
                    have HND := Lib.hid hnd
                    go_wp2_with (first | (go_at_call 103; have hh := atoi_any (w := wr) (s := wd) (HG.out.keep (HK0.out.trans HK0R.out (fun _ _ h => h))) (by omega); refine Calls.mono hh ?_; clear hh; rintro e w5 ⟨N, rfl, hk5⟩; rw [HAO.out]; simp only [errV]; have d2 := (hk5.cell (p := ⟨w3.heap.size, 0, none⟩) HB.out.lt (fun h => h)).trans d2; have f2 := (hk5.frozen (p := ⟨w3.heap.size, 0, none⟩) HB.out.lt (fun h => h)).trans f2; have HK5 := Lib.hid hk5; clear hk5) | (go_at_call 96; have hh := itoa_any (w := w5) (n := atoiN wd) ((HG.out.keep (HK0.out.trans HK0R.out (fun _ _ h => h))).keep HK5.out) (atoiN_bounds wd).1 (atoiN_bounds wd).2; refine Calls.mono hh ?_; clear hh; rintro e w6 ⟨rfl, hk6⟩; have d2 := (hk6.cell (p := ⟨w3.heap.size, 0, none⟩) (Nat.lt_of_lt_of_le HB.out.lt HK5.out.size) (fun h => h)).trans d2; have f2 := (hk6.frozen (p := ⟨w3.heap.size, 0, none⟩) (Nat.lt_of_lt_of_le HB.out.lt HK5.out.size) (fun h => h)).trans f2; have HK6 := Lib.hid hk6; clear hk6) | (at_builtin; refine wpList_app (w := w6.alloc (.cells #[.int .i64 (atoiN wd)] 3)) rfl (.tmp 79) (.tmp 81) 34 34 rfl 3 (.int .i64 0) 1 8 Tryz.underlying34 info3' rfl ((ownsRow_keep (ownsRow_keep HO.out HK5.out (fun _ _ h => h)) HK6.out (fun _ _ h => h)).alloc _) rfl (Src.new (P := Tryz.prog) Tryz.underlying34 w6 1 [.int .i64 (atoiN wd)] 3 rfl (by simp [Value.oneCell'])) rfl ?hb1 ?hb2 ?hb3 ?hgo))
                    case hb1 => first | omega | (simp; omega) | (unfold maxLen; omega) | (unfold maxLen; simp; omega)
                    case hb2 => first | omega | (simp; omega) | (unfold maxLen; omega) | (unfold maxLen; simp; omega)
                    case hb3 => have z2 := HK5.out.size; have z3 := HK6.out.size; have z4 := HK.out.size; simp; omega
                    case hgo =>
                    intro v' w7 happ
                    obtain ⟨ao7, cap7, rfl, _⟩ := ownsRow_shape happ.own
                    have hb7 := ((((HB.out.keep HK5.out (fun h => h)).keep HK6.out (fun h => h)).alloc (.cells #[.int .i64 (atoiN wd)] 3)).keep happ.keep (fun e => HNO.out e))
                    have hne7 : (Value.slice ao7 (a.n.length + 1) cap7).ownBlock ≠ some w3.heap.size := by
                      intro h
                      rcases happ.fresh with h1 | ⟨g, h1, h2⟩
                      · exact HNO.out (h1 ▸ h)
                      · have h5 : g = w3.heap.size := Option.some.inj (h1.symm.trans h)
                        have z1 := HB.out.lt; have z2 := HK5.out.size; have z3 := HK6.out.size; rw [World.size_alloc] at h2
                        omega
                    have hkf : Keep (fun b => b = w3.heap.size) w4 w7 := (((HK.out.trans HK5.out (fun _ _ h => h.elim)).trans HK6.out (fun _ _ h => h.elim)).alloc _).trans happ.keep (fun g hg e => by have h3 := ownsRow_lt HO.out g e; omega)
                    have HKF := Lib.hid hkf; clear hkf
                    have HNE7 := Lib.hid hne7; clear hne7
                    have d2 := hb7.cell 0
                    have f2 := hb7.free 0
                    simp at d2
                    have HB7 := Lib.hid hb7; clear hb7
                    have HA7 := Lib.hid happ; clear happ
                    go_wp2
                    go_roundw
                    case rel => rw [beq_dec]; exact hfin.out ⟨a.n ++ [atoiN wd], a.word, decide (itoaB (atoiN wd) = wd)⟩ (.slice ao7 (a.n.length + 1) cap7) _ (by rw [HST.out, hok, HAO.out, HSZ.out, HND.out]; simp) (by simp; omega) (by simpa [icells, hz4] using ownsRow_setCell HA7.out.own ⟨w3.heap.size, 0, none⟩ (.slice ao7 (a.n.length + 1) cap7) HNE7.out) (by simpa using HB7.out.set 0 (.slice ao7 (a.n.length + 1) cap7)) (HKF.out.setCell _ _ (fun _ => rfl))
                    case measure => simp [intOf]; omega
                  · have hnd : decide ((0 : Int) ≤ atoiN wd) = false := decide_eq_false hn0
                    have HND := Lib.hid hnd
                    go_wp2_with (first | (go_at_call 103; have hh := atoi_any (w := wr) (s := wd) (HG.out.keep (HK0.out.trans HK0R.out (fun _ _ h => h))) (by omega); refine Calls.mono hh ?_; clear hh; rintro e w5 ⟨N, rfl, hk5⟩; rw [HAO.out]; simp only [errV]; have d2 := (hk5.cell (p := ⟨w3.heap.size, 0, none⟩) HB.out.lt (fun h => h)).trans d2; have f2 := (hk5.frozen (p := ⟨w3.heap.size, 0, none⟩) HB.out.lt (fun h => h)).trans f2; have HK5 := Lib.hid hk5; clear hk5) | (at_builtin; refine wpList_app (w := w5.alloc (.cells #[.int .i64 (atoiN wd)] 3)) rfl (.tmp 79) (.tmp 81) 34 34 rfl 3 (.int .i64 0) 1 8 Tryz.underlying34 info3' rfl ((ownsRow_keep HO.out HK5.out (fun _ _ h => h)).alloc _) rfl (Src.new (P := Tryz.prog) Tryz.underlying34 w5 1 [.int .i64 (atoiN wd)] 3 rfl (by simp [Value.oneCell'])) rfl ?hb1 ?hb2 ?hb3 ?hgo))
                    case hb1 => first | omega | (simp; omega) | (unfold maxLen; omega) | (unfold maxLen; simp; omega)
                    case hb2 => first | omega | (simp; omega) | (unfold maxLen; omega) | (unfold maxLen; simp; omega)
                    case hb3 => have z2 := HK5.out.size; have z4 := HK.out.size; simp; omega
                    case hgo =>
                    intro v' w7 happ
                    obtain ⟨ao7, cap7, rfl, _⟩ := ownsRow_shape happ.own
                    have hb7 := (((HB.out.keep HK5.out (fun h => h)).alloc (.cells #[.int .i64 (atoiN wd)] 3)).keep happ.keep (fun e => HNO.out e))
                    have hne7 : (Value.slice ao7 (a.n.length + 1) cap7).ownBlock ≠ some w3.heap.size := by
                      intro h
                      rcases happ.fresh with h1 | ⟨g, h1, h2⟩
                      · exact HNO.out (h1 ▸ h)
                      · have h5 : g = w3.heap.size := Option.some.inj (h1.symm.trans h)
                        have z1 := HB.out.lt; have z2 := HK5.out.size; rw [World.size_alloc] at h2
                        omega
                    have hkf : Keep (fun b => b = w3.heap.size) w4 w7 := ((HK.out.trans HK5.out (fun _ _ h => h.elim)).alloc _).trans happ.keep (fun g hg e => by have h3 := ownsRow_lt HO.out g e; omega)
                    have HKF := Lib.hid hkf; clear hkf
                    have HNE7 := Lib.hid hne7; clear hne7
                    have d2 := hb7.cell 0
                    have f2 := hb7.free 0
                    simp at d2
                    have HB7 := Lib.hid hb7; clear hb7
                    have HA7 := Lib.hid happ; clear happ
                    go_wp2
                    go_roundw
                    case rel => exact hfin.out ⟨a.n ++ [atoiN wd], a.word, false⟩ (.slice ao7 (a.n.length + 1) cap7) _ (by rw [HST.out, hok, HAO.out, HSZ.out, HND.out]; simp) (by simp; omega) (by simpa [icells, hz4] using ownsRow_setCell HA7.out.own ⟨w3.heap.size, 0, none⟩ (.slice ao7 (a.n.length + 1) cap7) HNE7.out) (by simpa using HB7.out.set 0 (.slice ao7 (a.n.length + 1) cap7)) (HKF.out.setCell _ _ (fun _ => rfl))
                    case measure => simp [intOf]; omega
                · have hsd : decide ((wd.size : Int) ≤ 6) = false := decide_eq_false (by omega)
                  have HSZ := Lib.hid (show decide (wd.size ≤ 6) = false from decide_eq_false hsz); clear hsz
                  go_wp2_with (first | (go_at_call 103; have hh := atoi_any (w := wr) (s := wd) (HG.out.keep (HK0.out.trans HK0R.out (fun _ _ h => h))) (by omega); refine Calls.mono hh ?_; clear hh; rintro e w5 ⟨N, rfl, hk5⟩; rw [HAO.out]; simp only [errV]; have d2 := (hk5.cell (p := ⟨w3.heap.size, 0, none⟩) HB.out.lt (fun h => h)).trans d2; have f2 := (hk5.frozen (p := ⟨w3.heap.size, 0, none⟩) HB.out.lt (fun h => h)).trans f2; have HK5 := Lib.hid hk5; clear hk5) | (at_builtin; refine wpList_app (w := w5.alloc (.cells #[.int .i64 (atoiN wd)] 3)) rfl (.tmp 79) (.tmp 81) 34 34 rfl 3 (.int .i64 0) 1 8 Tryz.underlying34 info3' rfl ((ownsRow_keep HO.out HK5.out (fun _ _ h => h)).alloc _) rfl (Src.new (P := Tryz.prog) Tryz.underlying34 w5 1 [.int .i64 (atoiN wd)] 3 rfl (by simp [Value.oneCell'])) rfl ?hb1 ?hb2 ?hb3 ?hgo))
                  case hb1 => first | omega | (simp; omega) | (unfold maxLen; omega) | (unfold maxLen; simp; omega)
                  case hb2 => first | omega | (simp; omega) | (unfold maxLen; omega) | (unfold maxLen; simp; omega)
                  case hb3 => have z2 := HK5.out.size; have z4 := HK.out.size; simp; omega
                  case hgo =>
                  intro v' w7 happ
                  obtain ⟨ao7, cap7, rfl, _⟩ := ownsRow_shape happ.own
                  have hb7 := (((HB.out.keep HK5.out (fun h => h)).alloc (.cells #[.int .i64 (atoiN wd)] 3)).keep happ.keep (fun e => HNO.out e))
                  have hne7 : (Value.slice ao7 (a.n.length + 1) cap7).ownBlock ≠ some w3.heap.size := by
                    intro h
                    rcases happ.fresh with h1 | ⟨g, h1, h2⟩
                    · exact HNO.out (h1 ▸ h)
                    · have h5 : g = w3.heap.size := Option.some.inj (h1.symm.trans h)
                      have z1 := HB.out.lt; have z2 := HK5.out.size; rw [World.size_alloc] at h2
                      omega
                  have hkf : Keep (fun b => b = w3.heap.size) w4 w7 := ((HK.out.trans HK5.out (fun _ _ h => h.elim)).alloc _).trans happ.keep (fun g hg e => by have h3 := ownsRow_lt HO.out g e; omega)
                  have HKF := Lib.hid hkf; clear hkf
                  have HNE7 := Lib.hid hne7; clear hne7
                  have d2 := hb7.cell 0
                  have f2 := hb7.free 0
                  simp at d2
                  have HB7 := Lib.hid hb7; clear hb7
                  have HA7 := Lib.hid happ; clear happ
                  go_wp2
                  go_roundw
                  case rel => exact hfin.out ⟨a.n ++ [atoiN wd], a.word, false⟩ (.slice ao7 (a.n.length + 1) cap7) _ (by rw [HST.out, hok, HAO.out, HSZ.out]; simp) (by simp; omega) (by simpa [icells, hz4] using ownsRow_setCell HA7.out.own ⟨w3.heap.size, 0, none⟩ (.slice ao7 (a.n.length + 1) cap7) HNE7.out) (by simpa using HB7.out.set 0 (.slice ao7 (a.n.length + 1) cap7)) (HKF.out.setCell _ _ (fun _ => rfl))
                  case measure => simp [intOf]; omega
          · have hke : k = so.length := by omega
            subst hke
            clear hlt
            have HSF : Hid (∀ W, Keep (fun k => k = w.heap.size ∨ k = w.heap.size + 1) wr W → W.cell? ⟨w2.heap.size, 0, none⟩ = some (.string (bs so)) ∧ W.cell? ⟨w2.heap.size, 1, none⟩ = some (.func (.func f) #[] #[]) ∧ W.cell? ⟨w3.heap.size, 0, none⟩ = some (.slice ao a.n.length cap) ∧ W.cell? ⟨w3.heap.size, 1, none⟩ = some (.string a.word)) := Lib.hid fun W hW => by
              have B6 := (((HN3.out.keep HK34.out (fun h => h)).keep HK.out (show ¬ w2.heap.size = w3.heap.size by omega)).keep hW (show ¬ (w2.heap.size = w.heap.size ∨ w2.heap.size = w.heap.size + 1) by omega))
              have B8 := HB.out.keep hW (show ¬ (w3.heap.size = w.heap.size ∨ w3.heap.size = w.heap.size + 1) by omega)
              exact ⟨B6.cell 0, B6.cell 1, B8.cell 0, B8.cell 1⟩
            obtain ⟨d0, d1, d2, d3⟩ := HSF.out wr (Keep.refl _ _)
            have hkd : Keep (fun _ => False) w0 wr.drew := HK0R.out.drew
            obtain ⟨⟨r0, r1, r2, r3⟩, g0, g1, g2, g3⟩ := HR.out wr HK0R.out
            have hir : ((so.length : Int) < (so.length : Int)) = False := by simp
            go_wp2
            go_region_held3 (fun W => W.cell? ⟨w2.heap.size, 0, none⟩ = some (.string (bs so)) ∧ W.cell? ⟨w2.heap.size, 1, none⟩ = some (.func (.func f) #[] #[]) ∧ W.cell? ⟨w3.heap.size, 0, none⟩ = some (.slice ao a.n.length cap) ∧ W.cell? ⟨w3.heap.size, 1, none⟩ = some (.string a.word))
              (first | exact ⟨d0, d1, d2, d3⟩ | ((refine HSF.out _ ?_; repeat (first | exact Keep.refl _ _ | apply Keep.drew | refine Keep.setCell ?_ _ _ (fun _ => .inl rfl) | refine Keep.setCell ?_ _ _ (fun _ => .inr rfl))))) (fail)
            clear d0 d1 d2 d3 r0 r1 r2 r3 g0 g1 g2 g3 hir HSF
            go_wp2
            (try simp only [Exit.inBlock, Exit.then])
            refine form_backd (HN1.out.keep HK0R.out (fun h => h)) (HN2.out.keep HK0R.out (fun h => h)) rfl rfl (by omega) rfl rfl rfl rfl (fun wf hkf => ?_)
            show FormPost _ _ _ _
            unfold FormPost
            rw [HF.out]
            have hfa : a = foldF so ws.tail := by
              rw [HA.out]; unfold foldF; rw [List.take_of_length_le (by rw [List.length_zip]; omega)]
            rw [← hfa]
            refine ⟨_, rfl, ?_, (HK0.out.trans HK0R.out (fun _ _ h => h)).trans hkf (fun k hk e => by omega)⟩
            exact ownsRow_base (ownsRow_keep HO.out hkf (fun g hg e => by have := ownsRow_lt HO.out g hg; omega)) (by omega)
      · have hne : (((ws.length : Int) - 1) != ((bs so).size : Int)) = true := by rw [hso]; simp; omega
        have hne2 : (((ws.length : Int) - 1) != (so.length : Int)) = true := by simp; omega
        have hne3 : (((ws.length : Int) - 1) = (so.length : Int)) = False := by simp; omega
        rw [if_neg hlen] at HF
        obtain ⟨⟨r0, r1, r2, r3⟩, g0, g1, g2, g3⟩ := HR.out w3 hk3
        have HK3 := Lib.hid hk3; clear hk3
        go_wp2
        (try simp only [Exit.inBlock, Exit.then])
        refine form_back (HN1.out.keep HK3.out (fun h => h)) (HN2.out.keep HK3.out (fun h => h)) rfl rfl (by omega) rfl rfl rfl rfl (fun wf hkf => ?_)
        show FormPost _ _ _ _
        unfold FormPost
        rw [HF.out]
        exact ⟨rfl, (HK0.out.trans HK3.out (fun _ _ h => h)).trans hkf (fun k hk e => by omega)⟩
end Go.Proofs.YthdkamnclbfehaaGreatDoor
