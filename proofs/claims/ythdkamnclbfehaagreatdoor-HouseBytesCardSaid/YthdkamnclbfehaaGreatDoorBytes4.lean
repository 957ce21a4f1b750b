/- house.state.take. -/
import Derived.Test.YthdkamnclbfehaaGreatDoorBytes3
import Derived.Test.YthdkamnclbfehaaGreatDoorBytes2

/- house.state.take. -/
namespace Go.Proofs.YthdkamnclbfehaaGreatDoor
set_option linter.unusedSimpArgs false
set_option linter.unusedVariables false
set_option linter.unnecessarySimpa false
open Go.RowKit

/-- What a command leaves: an error, the state, and the reply. -/
structure Res where
  err : Int
  st : St
  out : ByteArray
def RunPost (base : Nat) (w : World) (V : StV) (r : Res) (e : Ending) (w' : World) : Prop :=
  e = .returned (.tuple #[.string r.out, .int .i64 r.err]) ∧ ∃ V', (r.err = 0 → OSt base w' V' r.st) ∧ Chg base w V V' w'
/-- The words that a command is given. -/
structure Args (base : Nat) (w : World) (vn : Value) (a : FA) : Prop where
  rd : Rd w 1 vn a.n.length (icells a.n)
  lt : ∀ k, vn.ownBlock = some k → k < base
def takeF (S : St) (a : FA) : Res :=
  if S.lots.length = 20 then ⟨9, S, bs []⟩ else if a.n.headD 0 = 0 then ⟨2, S, bs []⟩ else ⟨0, addS S ⟨a.word, a.n.headD 0, -1, false⟩, bs [116, 97, 107, 101] ++ (bs [32] ++ itoaB ((S.lots.length : Int) + 1))⟩

set_option maxHeartbeats 2000000 in
set_option maxRecDepth 100000 in
theorem take_any {base : Nat} {w : World} {V : StV} {S : St} {vn : Value} {a : FA} (hG : GW base w) (h : OSt base w V S) (hl : S.lots.length ≤ 20) (ha : Args base w vn a) (hn : a.n.length = 1) :
    Calls Tryz.prog 255 #[.pointer (some ⟨V.b, 0, none⟩), .agg #[vn, .string a.word]] w (RunPost base w V (takeF S a)) := by
  obtain ⟨x, hx⟩ : ∃ x, a.n = [x] := List.length_eq_one_iff.1 hn
  obtain ⟨an, word, aok⟩ := a
  simp only at hx hn
  subst hx
  have hard := ha.rd
  rcases hard.2.2 with ⟨_, h1⟩ | ⟨nb, no, nc, rfl, hnc1, hnc2, hcells⟩
  · simp at h1
  have hn0 := hcells 0 (.int .i64 x) (by simp [icells])
  rw [Nat.add_zero] at hn0
  simp only [List.length_singleton] at *
  obtain ⟨w0, hw0⟩ : ∃ w0, w0 = w.alloc (.cells #[.slice (some ⟨nb, no, none⟩) 1 nc, .string word] 134) := ⟨_, rfl⟩
  have hk0 : Keep (fun _ => False) w w0 := by rw [hw0]; exact (Keep.refl _ _).alloc _
  have hb0 : Blk w0 w.heap.size #[.slice (some ⟨nb, no, none⟩) 1 nc, .string word] 134 := by rw [hw0]; exact Blk.new _ _ _
  have h0 := h.keep hk0 (fun _ _ h => h)
  obtain ⟨lo, lc, hvl, hlc, _⟩ := ownsRow_shape h.ol
  have hnlt := World.block_lt_of_cell? w _ hn0
  simp only at hnlt
  have hnb : nb < base := ha.lt nb rfl
  have c1 := h0.blk.cell 1
  simp [StV.cells] at c1
  rw [hvl, hw0] at c1
  have HKR : Hid (Keep (fun k => base ≤ k ∧ V.fp k) w0 w0) := Lib.hid (Keep.refl _ _)
  have HC : Hid (∀ W, Keep (fun k => base ≤ k ∧ V.fp k) w0 W → W.cell? ⟨w.heap.size, 0, none⟩ = some (.slice (some ⟨nb, no, none⟩) 1 nc) ∧ W.cell? ⟨w.heap.size, 1, none⟩ = some (.string word) ∧ W.cell? ⟨nb, no, none⟩ = some (.int .i64 x)) :=
    Lib.hid fun W hk => by
      have hB := hb0.keep hk (fun e => by have := h.fp_lt _ e.2; omega)
      refine ⟨hB.cell 0, hB.cell 1, (hk.cell (p := ⟨nb, no, none⟩) (Nat.lt_of_lt_of_le hnlt hk0.size) (fun e => by have := e.1; simp at this; omega)).trans ((hk0.cell (p := ⟨nb, no, none⟩) hnlt (fun h => h)).trans hn0)⟩
  obtain ⟨a0, a1, a2⟩ := HC.out w0 (Keep.refl _ _)
  have b0 := a0
  have b1 := a1
  have b2 := a2
  rw [hw0] at b0 b1 b2
  have hG0 := hG.keep hk0 (fun _ _ h => h)
  have HG0 := Lib.hid hG0; clear hG0
  have H0 := Lib.hid h0; clear h0
  have H := Lib.hid h; clear h
  have HK0 := Lib.hid hk0; clear hk0
  have HW0 := Lib.hid hw0; clear hw0
  clear hn0 hb0 hard hcells ha hvl hn
  by_cases h20 : S.lots.length = 20
  · have e20 : ((S.lots.length : Int) == 20) = true := by simp; omega
    have HF := Lib.hid (show takeF S ⟨[x], word, aok⟩ = ⟨9, S, bs []⟩ by unfold takeF; rw [if_pos h20])
    go_enter Tryz.func255, Tryz.ntmps255
    go_wp2
    rw [← HW0.out]
    go_ret2
    exact ⟨by rw [HF.out]; rfl, V, (fun e => by rw [HF.out] at e; cases e), (Chg.refl base w V).after HK0.out⟩
  have e20 : ((S.lots.length : Int) == 20) = false := by simp; omega
  by_cases hx0 : x = 0
  · have ex0 : (x == 0) = true := by simp [hx0]
    have HF := Lib.hid (show takeF S ⟨[x], word, aok⟩ = ⟨2, S, bs []⟩ by unfold takeF; rw [if_neg h20, if_pos (by simp [hx0])])
    subst hx0
    go_enter Tryz.func255, Tryz.ntmps255
    go_wp2
    rw [← HW0.out]
    go_ret2
    exact ⟨by rw [HF.out]; rfl, V, (fun e => by rw [HF.out] at e; cases e), (Chg.refl base w V).after HK0.out⟩
  have ex0 : (x == 0) = false := by simp [hx0]
  have HF := Lib.hid (show takeF S ⟨[x], word, aok⟩ = ⟨0, addS S ⟨word, x, -1, false⟩, bs [116, 97, 107, 101] ++ (bs [32] ++ itoaB ((S.lots.length : Int) + 1))⟩ by unfold takeF; rw [if_neg h20, if_neg (by simpa using hx0)]; rfl)
  have hit : (9223372036854775807 < 4 + (1 + (itoaB ((S.lots.length : Int) + 1)).size)) = False := eq_false (by have := itoaB_size ((S.lots.length : Int) + 1) (by omega) (by omega); omega)
  go_enter Tryz.func255, Tryz.ntmps255
  go_wp2
  rw [← HW0.out]
  clear b0 b1 b2 c1
  go_region_held3 (fun W => W.cell? ⟨w.heap.size, 0, none⟩ = some (.slice (some ⟨nb, no, none⟩) 1 nc) ∧ W.cell? ⟨w.heap.size, 1, none⟩ = some (.string word) ∧ W.cell? ⟨nb, no, none⟩ = some (.int .i64 x))
    (first | exact ⟨a0, a1, a2⟩ | (refine HC.out _ ?_; repeat (first | exact HKR.out | apply Keep.drew)))
    ((go_at_call 261; have hh := add_any (x := ⟨word, x, -1, false⟩) (HG0.out.keep (Keep.refl (fun _ => False) w0).drew (fun _ _ h => h)) (H0.out.keep (Keep.refl (fun _ => False) w0).drew (fun _ _ h => h)) (by omega); refine Calls.mono hh ?_; clear hh; rintro e W1 ⟨V1, rfl, ho1, hc1⟩; have HKR := Lib.hid (((Keep.refl (fun k => base ≤ k ∧ V.fp k) w0).drew).trans hc1.keep (fun _ _ h => h)); have HO1 := Lib.hid ho1; clear ho1; have HC1 := Lib.hid hc1; clear hc1; dsimp only))
  go_wp2
  go_ret2
  exact ⟨by rw [HF.out]; rfl, V1, fun _ => by rw [HF.out]; exact HO1.out, (HC1.out.before (HK0.out.drew))⟩
end Go.Proofs.YthdkamnclbfehaaGreatDoor

/- house.state.lot, there, touched. -/
namespace Go.Proofs.YthdkamnclbfehaaGreatDoor
set_option linter.unusedSimpArgs false
set_option linter.unusedVariables false
set_option linter.unnecessarySimpa false
open Go.RowKit

/-- Is there a lot with a number. -/
def hasLot (S : St) (i : Int) : Bool := decide (1 ≤ i) && decide (i ≤ (S.lots.length : Int))
def lotPtr (V : StV) (i : Int) : Value :=
  match V.vl with
  | .slice (some a) _ _ => .pointer (some ⟨a.block, a.off + (i - 1).toNat * 4, none⟩)
  | _ => .pointer none
def LotPost (w : World) (V : StV) (S : St) (i : Int) (e : Ending) (w' : World) : Prop := e = .returned (if hasLot S i then lotPtr V i else .pointer none) ∧ w = w'

set_option maxHeartbeats 1000000 in
theorem lot_any {w : World} {V : StV} {S : St} {i : Int} (h : StAt w V S) (hl : S.lots.length ≤ 1000000000) : Calls Tryz.prog 263 #[.pointer (some ⟨V.b, 0, none⟩), .int .i64 i] w (LotPost w V S i) := by
  obtain ⟨b, vb, vl, vc, vt, vn⟩ := V
  have c1 := h.blk.cell 1
  simp [StV.cells] at c1
  have hrl := h.rl
  obtain ⟨lo, lc, hvl, hlc, _, hsp⟩ := hrl.shape
  simp only at hvl
  subst hvl
  have hlo : 0 < S.lots.length → ∃ g o, lo = some ⟨g, o, none⟩ := fun hp => by
    rcases hrl.2.2 with ⟨_, e⟩ | ⟨g, o, c, e, _⟩
    · omega
    · injection e with e1
      exact ⟨g, o, e1⟩
  clear h hrl hsp
  by_cases h1 : i < 1
  · have e1 : decide (i < 1) = true := decide_eq_true h1
    have HF := Lib.hid (show hasLot S i = false by unfold hasLot; rw [decide_eq_false (by omega)]; rfl)
    clear h1
    go_enter Tryz.func263, Tryz.ntmps263
    go_wp2
    go_ret
    exact ⟨by rw [HF.out]; rfl, rfl⟩
  have e1 : decide (i < 1) = false := decide_eq_false h1
  by_cases h2 : (S.lots.length : Int) < i
  · have e2 : decide ((S.lots.length : Int) < i) = true := decide_eq_true h2
    have HF := Lib.hid (show hasLot S i = false by unfold hasLot; rw [decide_eq_false (show ¬ i ≤ (S.lots.length : Int) by omega)]; simp)
    go_enter Tryz.func263, Tryz.ntmps263
    go_wp2
    go_ret
    exact ⟨by rw [HF.out]; rfl, rfl⟩
  have e2 : decide ((S.lots.length : Int) < i) = false := decide_eq_false h2
  have HF := Lib.hid (show hasLot S i = true by unfold hasLot; rw [decide_eq_true (by omega), decide_eq_true (by omega)]; rfl)
  obtain ⟨k, rfl⟩ : ∃ k : Nat, i = (k : Int) + 1 := ⟨(i - 1).toNat, by omega⟩
  have hk : k < S.lots.length := by omega
  have hw : IntKind.i64.wrap ((k : Int) + 1 - 1) = (k : Int) := by rw [IntWalk.i64_in _ (by omega)]; omega
  obtain ⟨g, o, rfl⟩ := hlo (by omega)
  clear hlo
  go_enter Tryz.func263, Tryz.ntmps263
  go_wp2
  go_ret
  refine ⟨?_, rfl⟩
  rw [HF.out, if_pos rfl]
  unfold lotPtr
  simp only []
  rw [show ((k : Int) + 1 - 1).toNat = k by omega]
  rfl

theorem enters265 : Enters 265 := enters_of Tryz.func265 (by kernel_rfl) rfl
theorem thereOne_any {w : World} {V : StV} {S : St} {i : Int} {c : Nat} (h : StAt w V S) (hl : S.lots.length ≤ 1000000000) (hc : w.cell? ⟨c, 0, none⟩ = some (.pointer (some ⟨V.b, 0, none⟩))) :
    Calls Tryz.prog 265 #[.int .i64 i, .pointer (some ⟨c, 0, none⟩)] w fun e w' => e = .returned (.bool (!hasLot S i)) ∧ w = w' := by
  have hlot := lot_any (i := i) h hl
  have hp : hasLot S i = true → ∃ a, lotPtr V i = .pointer (some a) := fun hh => by
    unfold lotPtr
    have hrl := h.rl
    rcases hrl.2.2 with ⟨_, e⟩ | ⟨g, o, cp, e, _⟩
    · unfold hasLot at hh; simp at hh; omega
    · rw [e]; exact ⟨_, rfl⟩
  unfold LotPost at hlot
  cases hb : hasLot S i with
  | true =>
    obtain ⟨a, ha⟩ := hp hb
    rw [hb, if_pos rfl, ha] at hlot
    have HL := Lib.hid hlot; clear hlot hp ha h hb
    go_enter Tryz.func265, Tryz.ntmps265
    go_wp2_with (first
      | (go_at_call 263; refine HL.out.mono ?_; rintro e w' ⟨rfl, rfl⟩))
    go_ret
    exact ⟨rfl, rfl⟩
  | false =>
    rw [hb, if_neg (by simp)] at hlot
    have HL := Lib.hid hlot; clear hlot hp h hb
    go_enter Tryz.func265, Tryz.ntmps265
    go_wp2_with (first
      | (go_at_call 263; refine HL.out.mono ?_; rintro e w' ⟨rfl, rfl⟩))
    go_ret
    exact ⟨rfl, rfl⟩
/-- Are all these lots there. -/
def allLots (S : St) (l : List Int) : Bool := l.all (hasLot S)
theorem there_any {w : World} {V : StV} {S : St} {v : Value} {l : List Int} (h : StAt w V S) (hl : S.lots.length ≤ 1000000000) (hv : Rd w 1 v l.length (icells l)) (hll : l.length < 9223372036854775807) :
    Calls Tryz.prog 262 #[.pointer (some ⟨V.b, 0, none⟩), v] w (IdxPost w (.bool (allLots S l))) := by
  obtain ⟨ao, cap, hve, _⟩ := hv.shape
  subst hve
  have hk1 : Keep (fun _ => False) w (w.alloc (.cells #[.pointer (some ⟨V.b, 0, none⟩)] 104)) := (Keep.refl _ _).alloc _
  have hb1 := Blk.new w #[.pointer (some ⟨V.b, 0, none⟩)] 104
  have hcon := containsFunc_any (p := fun i => !hasLot S i) (hv.keep hk1 (fun _ _ h => h)) enters265 (capt := #[.pointer (some ⟨w.heap.size, 0, none⟩)]) (fun w1 hk x _ => (thereOne_any (i := x) ((h.keep hk1 (fun _ _ h => h)).keep hk (fun _ _ h => h)) hl ((hb1.keep hk (fun h => h)).cell 0)).mono (fun e w2 hh => ⟨hh.1, hh.2 ▸ Keep.refl _ _⟩)) hll
  have HC := Lib.hid hcon; clear hcon hb1
  have HK1 := Lib.hid hk1; clear hk1
  have HN := Lib.hid (show (!l.any (fun i => !hasLot S i)) = allLots S l by unfold allLots; rw [List.not_any_eq_all_not]; simp)
  clear h hv
  go_enter Tryz.func262, Tryz.ntmps262
  go_wp2_with (first
    | (go_at_call 85; refine HC.out.mono ?_; rintro e w2 ⟨rfl, hk2⟩; have HK2 := Lib.hid hk2; clear hk2))
  go_ret
  refine ⟨?_, HK1.out.trans HK2.out (fun _ _ h => h)⟩
  rw [← HN.out]; rfl

def touchNote (i j : Int) : ByteArray := ((bs [116, 111, 117, 99, 104, 32] ++ itoaB i) ++ bs [32]) ++ itoaB j
def touchS (S : St) (i j : Int) : St := { S with contacts := S.contacts ++ [(i, j)], notes := S.notes ++ [touchNote i j] }
def TouchedPost (base : Nat) (w : World) (V : StV) (S : St) (i j : Int) (e : Ending) (w' : World) : Prop :=
  ∃ V', e = .returned (.tuple #[]) ∧ OSt base w' V' (touchS S i j) ∧ Chg base w V V' w'
end Go.Proofs.YthdkamnclbfehaaGreatDoor

/- house.state.touched: a contact and its line are added. -/
namespace Go.Proofs.YthdkamnclbfehaaGreatDoor
set_option linter.unusedSimpArgs false
set_option linter.unusedVariables false
set_option linter.unnecessarySimpa false
open Go.RowKit

set_option maxHeartbeats 4000000 in
set_option maxRecDepth 100000 in
theorem addTouch_any {base : Nat} {w : World} {V : StV} {S : St} {i j : Int} (hG : GW base w) (h : OSt base w V S) (hc : S.contacts.length ≤ 1000000000) (hn : S.notes.length ≤ 1000000000)
    (hi : -9223372036854775808 ≤ i ∧ i ≤ 9223372036854775807) (hj : -9223372036854775808 ≤ j ∧ j ≤ 9223372036854775807) :
    Calls Tryz.prog 264 #[.pointer (some ⟨V.b, 0, none⟩), .int .i64 i, .int .i64 j] w (TouchedPost base w V S i j) := by
  obtain ⟨b, vb, vl, vc, vt, vn⟩ := V
  obtain ⟨co, cc, hvc, hcc, _⟩ := ownsRow_shape h.oc
  simp only at hvc
  subst hvc
  obtain ⟨no, nc, hvn, hnc, _⟩ := ownsRow_shape h.on
  simp only at hvn
  subst hvn
  have c2 := h.blk.cell 2
  have f2 := h.blk.free 2
  simp [StV.cells] at c2 f2
  have si := itoaB_size i hi.1 hi.2
  have sj := itoaB_size j hj.1 hj.2
  have st1 : (9223372036854775807 < 6 + (itoaB i).size) = False := eq_false (by omega)
  have st2 : (9223372036854775807 < 6 + (itoaB i).size + 1) = False := eq_false (by omega)
  have st3 : (9223372036854775807 < 6 + (itoaB i).size + 1 + (itoaB j).size) = False := eq_false (by omega)
  have HI := Lib.hid hi; clear hi
  have HJ := Lib.hid hj; clear hj
  have H := Lib.hid h; clear h
  have HSC := Lib.hid (Rd.new w 2 1 (pairCell (i, j)) 176 rfl (by simp [pairCell, Value.oneCell']) (by unfold maxLen; omega))
  have HK1 := Lib.hid ((Keep.refl (fun _ => False) w).alloc (.cells #[.int .i64 i, .int .i64 j] 176))
  have HO1 := Lib.hid (ownsRow_keep H.out.oc HK1.out (fun _ _ h => h))
  go_enter Tryz.func264, Tryz.ntmps264
  go_wp2_with (first
    | (at_builtin; refine wpList_app (w := w.alloc (.cells #[.int .i64 i, .int .i64 j] 176)) rfl (.tmp 10) (.tmp 14) 71 71 rfl 176 zPair 2 16 Tryz.underlying71 info176 rfl HO1.out rfl (HSC.out.src Tryz.underlying71) rfl ?hb1 ?hb2 ?hb3 ?hgo))
  case hb1 => unfold maxLen; omega
  case hb2 => omega
  case hb3 => have := H.out.lt; omega
  case hgo =>
  intro v2 w2 happ
  obtain ⟨co2, cc2, rfl, _⟩ := ownsRow_shape happ.own
  have h1 := H.out.keep HK1.out (fun _ _ h => h)
  have h3 := h1.setContacts (w1 := w2) (v' := .slice co2 (S.contacts.length + 1) cc2) (ls := S.contacts ++ [(i, j)]) happ.keep (by have := happ.own; simpa [pairCells, pairCell] using this) happ.fresh
  have hb2 := h1.blk.keep happ.keep h1.cne
  have c2 := hb2.cell 2
  have f2 := hb2.free 2
  simp [StV.cells] at c2 f2
  have hch : Chg base w ⟨b, vb, vl, .slice co S.contacts.length cc, vt, .slice no S.notes.length nc⟩ ⟨b, vb, vl, .slice co2 (S.contacts.length + 1) cc2, vt, .slice no S.notes.length nc⟩ (w2.setCell ⟨b, 2, none⟩ (.slice co2 (S.contacts.length + 1) cc2)) := by
    refine ⟨rfl, rfl, fun k hk => ?_, ((HK1.out.mono (fun _ _ h => h.elim)).trans (happ.keep.mono (T := fun k => base ≤ k ∧ StV.fp ⟨b, vb, vl, .slice co S.contacts.length cc, vt, .slice no S.notes.length nc⟩ k) (fun k _ e => ⟨H.out.fp_ge.2.1 k e, .inr (.inr (.inr (.inl e)))⟩)) (fun _ _ h => h)).setCell _ _ (fun _ => ⟨H.out.ge, .inl rfl⟩)⟩
    rcases hk with e | e | e | e | e | e
    · exact .inl (.inl e)
    · exact .inl (.inr (.inl e))
    · exact .inl (.inr (.inr (.inl e)))
    · rcases happ.fresh with h1 | ⟨g, h1, h2⟩
      · exact .inl (.inr (.inr (.inr (.inl (h1.symm.trans e)))))
      · have h3 : g = k := Option.some.inj (h1.symm.trans e)
        have h4 := HK1.out.size
        exact .inr (by omega)
    · exact .inl (.inr (.inr (.inr (.inr (.inl e)))))
    · exact .inl (.inr (.inr (.inr (.inr (.inr e)))))
  have H3 := Lib.hid h3; clear h1 h3 hb2
  have HCH := Lib.hid hch; clear hch happ
  go_wp2
  obtain ⟨w4, hw4⟩ : ∃ w4, w4 = w2.setCell ⟨b, 2, none⟩ (.slice co2 (S.contacts.length + 1) cc2) := ⟨_, rfl⟩
  have H4 := H3
  have HC4 := HCH
  rw [← hw4] at H4 HC4
  rw [← hw4]
  clear H3 HCH hw4 c2 f2
  have d4 := H4.out.blk.cell 4
  simp [StV.cells] at d4
  have HG4 := Lib.hid (hG.keep HC4.out.keep (fun i hi e => by have := e.1; omega))
  have HIT : Hid (∀ W n, Keep (fun _ => False) w4 W → (n = i ∨ n = j) → Calls Tryz.prog 96 #[.int .i64 n] W (ItoaPost W n)) := Lib.hid fun W n hk hn =>
    itoa_any (HG4.out.glob.keep hk) (by rcases hn with rfl | rfl; exact HI.out.1; exact HJ.out.1) (by rcases hn with rfl | rfl; exact HI.out.2; exact HJ.out.2)
  have HKR : Hid (Keep (fun _ => False) w4 w4.drew) := Lib.hid (Keep.refl _ _).drew
  refine wp_region_noPanic ?_
  refine wp_region_held_drew (S := fun _ => True) (by kernel_rfl) trivial (fun hHeld => ?_)
  refine wpAnyH_take (i := 0) (oi := _) (v := ?_) rfl (by kernel_rfl) (by kernel_rfl) (by kernel_rfl) (fun _ _ _ h => h) (Or.inl ⟨by rfl, ?_⟩) (by assumption) ?_
  rotate_left
  · (intro w hSw; (try dsimp only at hSw); go_simp) <;> with_reducible rfl
  (try simp only [List.getElem_toArray, List.getElem_cons_zero, List.getElem_cons_succ, Act.put, List.setIfInBounds_toArray, List.set_cons_zero, List.set_cons_succ])
  refine wpAnyH_take (i := 1) (oi := _) (v := ?_) rfl (by kernel_rfl) (by kernel_rfl) (by kernel_rfl) (fun _ _ _ h => h) (Or.inl ⟨by rfl, ?_⟩) (by assumption) ?_
  rotate_left
  · (intro w hSw; (try dsimp only at hSw); go_simp) <;> with_reducible rfl
  (try simp only [List.getElem_toArray, List.getElem_cons_zero, List.getElem_cons_succ, Act.put, List.setIfInBounds_toArray, List.set_cons_zero, List.set_cons_succ])
  refine wpAnyH_take (i := 2) (oi := _) (v := ?_) rfl (by kernel_rfl) (by kernel_rfl) (by kernel_rfl) (fun _ _ _ h => h) (Or.inl ⟨by rfl, ?_⟩) (by assumption) ?_
  rotate_left
  · (intro w hSw; (try dsimp only at hSw); go_simp) <;> with_reducible rfl
  (try simp only [List.getElem_toArray, List.getElem_cons_zero, List.getElem_cons_succ, Act.put, List.setIfInBounds_toArray, List.set_cons_zero, List.set_cons_succ])
  refine wpAnyH_take (i := 3) (oi := _) (v := ?_) rfl (by kernel_rfl) (by kernel_rfl) (by kernel_rfl) (fun _ _ _ h => h) (Or.inl ⟨by rfl, ?_⟩) (by assumption) ?_
  rotate_left
  · (intro w hSw; (try dsimp only at hSw); go_simp) <;> with_reducible rfl
  (try simp only [List.getElem_toArray, List.getElem_cons_zero, List.getElem_cons_succ, Act.put, List.setIfInBounds_toArray, List.set_cons_zero, List.set_cons_succ])
  refine wpAnyH_take (i := 5) (oi := _) (v := ?_) rfl (by kernel_rfl) (by kernel_rfl) (by kernel_rfl) (fun _ _ _ h => h) (Or.inl ⟨by rfl, ?_⟩) (by assumption) ?_
  rotate_left
  · (intro w hSw; (try dsimp only at hSw); go_simp) <;> with_reducible rfl
  (try simp only [List.getElem_toArray, List.getElem_cons_zero, List.getElem_cons_succ, Act.put, List.setIfInBounds_toArray, List.set_cons_zero, List.set_cons_succ])
  refine wpAnyH_take (i := 9) (oi := _) (v := ?_) rfl (by kernel_rfl) (by kernel_rfl) (by kernel_rfl) (fun _ _ _ h => h) (Or.inl ⟨by rfl, ?_⟩) (by assumption) ?_
  rotate_left
  · (intro w hSw; (try dsimp only at hSw); go_simp) <;> with_reducible rfl
  (try simp only [List.getElem_toArray, List.getElem_cons_zero, List.getElem_cons_succ, Act.put, List.setIfInBounds_toArray, List.set_cons_zero, List.set_cons_succ])
  refine wpAnyH_ready (rs := [4, 6]) (by kernel_rfl) (by simp) ?_
  refine AllReadyH.cons (o := _) rfl (fun K hK => ?_) (AllReadyH.cons (o := _) rfl (fun K hK => ?_) AllReadyH.nil)
  · go_simp
    refine hK.out _ _ ?_ (fun hHeld => ?_)
    · exact trivial
    clear hK K
    (try simp only [List.getElem_toArray, List.getElem_cons_zero, List.getElem_cons_succ, Act.put, List.setIfInBounds_toArray, List.set_cons_zero, List.set_cons_succ])
    refine wpAnyH_ready (rs := [6]) (by kernel_rfl) (by simp) ?_
    refine AllReadyH.cons (o := _) rfl (fun K hK => ?_) AllReadyH.nil
    go_simp
    refine Calls.mono (HIT.out _ _ HKR.out (by first | exact .inl rfl | exact .inr rfl)) ?_
    rintro e Wc ⟨rfl, hkc⟩
    have HKR := Lib.hid (HKR.out.trans hkc (fun _ _ h => h))
    have d4 := (H4.out.keep HKR.out (fun _ _ h => h)).blk.cell 4
    simp [StV.cells] at d4
    have hlt4 : b < Wc.heap.size := (H4.out.keep HKR.out (fun _ _ h => h)).blk.lt
    clear hkc
    (try dsimp only)
    refine hK.out _ _ ?_ (fun hHeld => ?_)
    · exact trivial
    clear hK K
    (try simp only [List.getElem_toArray, List.getElem_cons_zero, List.getElem_cons_succ, Act.put, List.setIfInBounds_toArray, List.set_cons_zero, List.set_cons_succ])
    refine wpAnyH_take (i := 7) (oi := _) (v := ?_) rfl (by kernel_rfl) (by kernel_rfl) (by kernel_rfl) (fun _ _ _ h => h) (Or.inl ⟨by rfl, ?_⟩) (by assumption) ?_
    rotate_left
    · (intro w hSw; (try dsimp only at hSw); go_simp) <;> with_reducible rfl
    (try simp only [List.getElem_toArray, List.getElem_cons_zero, List.getElem_cons_succ, Act.put, List.setIfInBounds_toArray, List.set_cons_zero, List.set_cons_succ])
    refine wpAnyH_take (i := 8) (oi := _) (v := ?_) rfl (by kernel_rfl) (by kernel_rfl) (by kernel_rfl) (fun _ _ _ h => h) (Or.inl ⟨by rfl, ?_⟩) (by assumption) ?_
    rotate_left
    · (intro w hSw; (try dsimp only at hSw); go_simp) <;> with_reducible rfl
    (try simp only [List.getElem_toArray, List.getElem_cons_zero, List.getElem_cons_succ, Act.put, List.setIfInBounds_toArray, List.set_cons_zero, List.set_cons_succ])
    refine wpAnyH_ready (rs := [10]) (by kernel_rfl) (by simp) ?_
    refine AllReadyH.cons (o := _) rfl (fun K hK => ?_) AllReadyH.nil
    go_simp
    refine Calls.mono (HIT.out _ _ HKR.out (by first | exact .inl rfl | exact .inr rfl)) ?_
    rintro e Wc ⟨rfl, hkc⟩
    have HKR := Lib.hid (HKR.out.trans hkc (fun _ _ h => h))
    have d4 := (H4.out.keep HKR.out (fun _ _ h => h)).blk.cell 4
    simp [StV.cells] at d4
    have hlt4 : b < Wc.heap.size := (H4.out.keep HKR.out (fun _ _ h => h)).blk.lt
    clear hkc
    (try dsimp only)
    refine hK.out _ _ ?_ (fun hHeld => ?_)
    · exact trivial
    clear hK K
    (try simp only [List.getElem_toArray, List.getElem_cons_zero, List.getElem_cons_succ, Act.put, List.setIfInBounds_toArray, List.set_cons_zero, List.set_cons_succ])
    refine wpAnyH_take (i := 11) (oi := _) (v := ?_) rfl (by kernel_rfl) (by kernel_rfl) (by kernel_rfl) (fun _ _ _ h => h) (Or.inl ⟨by rfl, ?_⟩) (by assumption) ?_
    rotate_left
    · (intro w hSw; (try dsimp only at hSw); go_simp) <;> with_reducible rfl
    (try simp only [List.getElem_toArray, List.getElem_cons_zero, List.getElem_cons_succ, Act.put, List.setIfInBounds_toArray, List.set_cons_zero, List.set_cons_succ])
    refine wpAnyH_ready (rs := [12]) (by kernel_rfl) (by simp) ?_
    refine AllReadyH.cons (o := _) rfl (fun K hK => ?_) AllReadyH.nil
    go_simp
    refine hK.out _ _ ?_ (fun hHeld => ?_)
    · exact trivial
    clear hK K
    (try simp only [List.getElem_toArray, List.getElem_cons_zero, List.getElem_cons_succ, Act.put, List.setIfInBounds_toArray, List.set_cons_zero, List.set_cons_succ])
    refine wpAnyH_ready (rs := [13]) (by kernel_rfl) (by simp) ?_
    refine AllReadyH.cons (o := _) rfl (fun K hK => ?_) AllReadyH.nil
    rw [if_pos (by rfl)]
    have ho6 : (Wc.alloc (.cells #[.string (touchNote i j)] 9)).ownsRow base 9 1 (.slice no S.notes.length nc) S.notes.length (strCells S.notes) := ownsRow_keep (H4.out.on) (HKR.out.alloc (.cells #[.string (touchNote i j)] 9)) (fun _ _ h => h)
    refine oper_app (.tmp 22) (.tmp 30) 44 44 rfl 9 (.string ⟨#[]⟩) 1 16 Tryz.underlying44 info9 rfl ho6 rfl ((Rd.new Wc 1 1 [.string (touchNote i j)] 9 rfl (by simp [Value.oneCell']) (by unfold maxLen; omega)).src Tryz.underlying44) rfl (by unfold maxLen; omega) (by omega) (Nat.le_trans H4.out.lt (HKR.out.alloc (.cells #[.string (touchNote i j)] 9)).size) (fun v' w7 happ => ?_)
    obtain ⟨ao7, cap7, rfl, _⟩ := ownsRow_shape happ.own
    have h6 := H4.out.keep (HKR.out.alloc (.cells #[.string (touchNote i j)] 9)) (fun _ _ h => h)
    have h7 := h6.setNotes (w1 := w7) (v' := .slice ao7 (S.notes.length + 1) cap7) (ls := S.notes ++ [touchNote i j]) happ.keep (by have := happ.own; simpa [strCells] using this) happ.fresh
    have hb7 := h6.blk.keep happ.keep h6.nne
    have d4 := hb7.cell 4
    have f4 := hb7.free 4
    simp [StV.cells] at d4 f4
    have HA := Lib.hid happ
    have H6 := Lib.hid h6
    have H7 := Lib.hid h7
    clear happ h6 h7 hb7
    (try dsimp only)
    refine hK.out _ _ ?_ (fun hHeld => ?_)
    · exact trivial
    clear hK K
    (try simp only [List.getElem_toArray, List.getElem_cons_zero, List.getElem_cons_succ, Act.put, List.setIfInBounds_toArray, List.set_cons_zero, List.set_cons_succ])
    refine wpAnyH_take (i := 14) (oi := _) (v := ?_) rfl (by kernel_rfl) (by kernel_rfl) (by kernel_rfl) (fun _ _ _ h => h) (Or.inl ⟨by rfl, ?_⟩) (by assumption) ?_
    rotate_left
    · (intro w hSw; (try dsimp only at hSw); go_simp) <;> with_reducible rfl
    (try simp only [List.getElem_toArray, List.getElem_cons_zero, List.getElem_cons_succ, Act.put, List.setIfInBounds_toArray, List.set_cons_zero, List.set_cons_succ])
    refine wpAnyH_take (i := 15) (oi := _) (v := ?_) rfl (by kernel_rfl) (by kernel_rfl) (by kernel_rfl) (fun _ _ _ h => h) (Or.inl ⟨by rfl, ?_⟩) (by assumption) ?_
    rotate_left
    · (intro w hSw; (try dsimp only at hSw); go_simp) <;> with_reducible rfl
    (try simp only [List.getElem_toArray, List.getElem_cons_zero, List.getElem_cons_succ, Act.put, List.setIfInBounds_toArray, List.set_cons_zero, List.set_cons_succ])
    refine wpAnyH_ready (rs := [16]) (by kernel_rfl) (by simp) ?_
    refine AllReadyH.cons (o := _) rfl (fun K hK => ?_) AllReadyH.nil
    go_simp
    refine hK.out _ _ ?_ (fun hHeld => ?_)
    · exact trivial
    clear hK K
    (try simp only [List.getElem_toArray, List.getElem_cons_zero, List.getElem_cons_succ, Act.put, List.setIfInBounds_toArray, List.set_cons_zero, List.set_cons_succ])
    refine wpAnyH_done (by kernel_rfl) ?_ _
    refine NoPanic.normal ?_
    go_wp2
    go_end0
    refine ⟨_, rfl, H7.out, ?_⟩
    refine HC4.out.trans ⟨rfl, rfl, fun k hk => ?_, (HKR.out.alloc (.cells #[.string (touchNote i j)] 9)).mono (fun _ _ h => h.elim) |>.trans (HA.out.keep.mono (T := fun k => base ≤ k ∧ StV.fp ⟨b, vb, vl, .slice co2 (S.contacts.length + 1) cc2, vt, .slice no S.notes.length nc⟩ k) (fun k _ e => ⟨H6.out.fp_ge.2.2.2 k e, .inr (.inr (.inr (.inr (.inr e))))⟩)) (fun _ _ h => h) |>.setCell _ _ (fun _ => ⟨H4.out.ge, .inl rfl⟩)⟩
    rcases hk with e | e | e | e | e | e
    · exact .inl (.inl e)
    · exact .inl (.inr (.inl e))
    · exact .inl (.inr (.inr (.inl e)))
    · exact .inl (.inr (.inr (.inr (.inl e))))
    · exact .inl (.inr (.inr (.inr (.inr (.inl e)))))
    · rcases HA.out.fresh with h1 | ⟨g, h1, h2⟩
      · exact .inl (.inr (.inr (.inr (.inr (.inr (h1.symm.trans e))))))
      · have h3 : g = k := Option.some.inj (h1.symm.trans e)
        have h4 := (HKR.out.alloc (.cells #[.string (touchNote i j)] 9)).size
        have h5 : (Wc.alloc (.cells #[.string (touchNote i j)] 9)).heap.size ≤ g := h2
        exact .inr (by omega)
  · go_simp
    refine Calls.mono (HIT.out _ _ HKR.out (by first | exact .inl rfl | exact .inr rfl)) ?_
    rintro e Wc ⟨rfl, hkc⟩
    have HKR := Lib.hid (HKR.out.trans hkc (fun _ _ h => h))
    have d4 := (H4.out.keep HKR.out (fun _ _ h => h)).blk.cell 4
    simp [StV.cells] at d4
    have hlt4 : b < Wc.heap.size := (H4.out.keep HKR.out (fun _ _ h => h)).blk.lt
    clear hkc
    (try dsimp only)
    refine hK.out _ _ ?_ (fun hHeld => ?_)
    · exact trivial
    clear hK K
    (try simp only [List.getElem_toArray, List.getElem_cons_zero, List.getElem_cons_succ, Act.put, List.setIfInBounds_toArray, List.set_cons_zero, List.set_cons_succ])
    refine wpAnyH_take (i := 7) (oi := _) (v := ?_) rfl (by kernel_rfl) (by kernel_rfl) (by kernel_rfl) (fun _ _ _ h => h) (Or.inl ⟨by rfl, ?_⟩) (by assumption) ?_
    rotate_left
    · (intro w hSw; (try dsimp only at hSw); go_simp) <;> with_reducible rfl
    (try simp only [List.getElem_toArray, List.getElem_cons_zero, List.getElem_cons_succ, Act.put, List.setIfInBounds_toArray, List.set_cons_zero, List.set_cons_succ])
    refine wpAnyH_take (i := 8) (oi := _) (v := ?_) rfl (by kernel_rfl) (by kernel_rfl) (by kernel_rfl) (fun _ _ _ h => h) (Or.inl ⟨by rfl, ?_⟩) (by assumption) ?_
    rotate_left
    · (intro w hSw; (try dsimp only at hSw); go_simp) <;> with_reducible rfl
    (try simp only [List.getElem_toArray, List.getElem_cons_zero, List.getElem_cons_succ, Act.put, List.setIfInBounds_toArray, List.set_cons_zero, List.set_cons_succ])
    refine wpAnyH_ready (rs := [4, 10]) (by kernel_rfl) (by simp) ?_
    refine AllReadyH.cons (o := _) rfl (fun K hK => ?_) (AllReadyH.cons (o := _) rfl (fun K hK => ?_) AllReadyH.nil)
    · go_simp
      refine hK.out _ _ ?_ (fun hHeld => ?_)
      · exact trivial
      clear hK K
      (try simp only [List.getElem_toArray, List.getElem_cons_zero, List.getElem_cons_succ, Act.put, List.setIfInBounds_toArray, List.set_cons_zero, List.set_cons_succ])
      refine wpAnyH_ready (rs := [10]) (by kernel_rfl) (by simp) ?_
      refine AllReadyH.cons (o := _) rfl (fun K hK => ?_) AllReadyH.nil
      go_simp
      refine Calls.mono (HIT.out _ _ HKR.out (by first | exact .inl rfl | exact .inr rfl)) ?_
      rintro e Wc ⟨rfl, hkc⟩
      have HKR := Lib.hid (HKR.out.trans hkc (fun _ _ h => h))
      have d4 := (H4.out.keep HKR.out (fun _ _ h => h)).blk.cell 4
      simp [StV.cells] at d4
      have hlt4 : b < Wc.heap.size := (H4.out.keep HKR.out (fun _ _ h => h)).blk.lt
      clear hkc
      (try dsimp only)
      refine hK.out _ _ ?_ (fun hHeld => ?_)
      · exact trivial
      clear hK K
      (try simp only [List.getElem_toArray, List.getElem_cons_zero, List.getElem_cons_succ, Act.put, List.setIfInBounds_toArray, List.set_cons_zero, List.set_cons_succ])
      refine wpAnyH_take (i := 11) (oi := _) (v := ?_) rfl (by kernel_rfl) (by kernel_rfl) (by kernel_rfl) (fun _ _ _ h => h) (Or.inl ⟨by rfl, ?_⟩) (by assumption) ?_
      rotate_left
      · (intro w hSw; (try dsimp only at hSw); go_simp) <;> with_reducible rfl
      (try simp only [List.getElem_toArray, List.getElem_cons_zero, List.getElem_cons_succ, Act.put, List.setIfInBounds_toArray, List.set_cons_zero, List.set_cons_succ])
      refine wpAnyH_ready (rs := [12]) (by kernel_rfl) (by simp) ?_
      refine AllReadyH.cons (o := _) rfl (fun K hK => ?_) AllReadyH.nil
      go_simp
      refine hK.out _ _ ?_ (fun hHeld => ?_)
      · exact trivial
      clear hK K
      (try simp only [List.getElem_toArray, List.getElem_cons_zero, List.getElem_cons_succ, Act.put, List.setIfInBounds_toArray, List.set_cons_zero, List.set_cons_succ])
      refine wpAnyH_ready (rs := [13]) (by kernel_rfl) (by simp) ?_
      refine AllReadyH.cons (o := _) rfl (fun K hK => ?_) AllReadyH.nil
      rw [if_pos (by rfl)]
      have ho6 : (Wc.alloc (.cells #[.string (touchNote i j)] 9)).ownsRow base 9 1 (.slice no S.notes.length nc) S.notes.length (strCells S.notes) := ownsRow_keep (H4.out.on) (HKR.out.alloc (.cells #[.string (touchNote i j)] 9)) (fun _ _ h => h)
      refine oper_app (.tmp 22) (.tmp 30) 44 44 rfl 9 (.string ⟨#[]⟩) 1 16 Tryz.underlying44 info9 rfl ho6 rfl ((Rd.new Wc 1 1 [.string (touchNote i j)] 9 rfl (by simp [Value.oneCell']) (by unfold maxLen; omega)).src Tryz.underlying44) rfl (by unfold maxLen; omega) (by omega) (Nat.le_trans H4.out.lt (HKR.out.alloc (.cells #[.string (touchNote i j)] 9)).size) (fun v' w7 happ => ?_)
      obtain ⟨ao7, cap7, rfl, _⟩ := ownsRow_shape happ.own
      have h6 := H4.out.keep (HKR.out.alloc (.cells #[.string (touchNote i j)] 9)) (fun _ _ h => h)
      have h7 := h6.setNotes (w1 := w7) (v' := .slice ao7 (S.notes.length + 1) cap7) (ls := S.notes ++ [touchNote i j]) happ.keep (by have := happ.own; simpa [strCells] using this) happ.fresh
      have hb7 := h6.blk.keep happ.keep h6.nne
      have d4 := hb7.cell 4
      have f4 := hb7.free 4
      simp [StV.cells] at d4 f4
      have HA := Lib.hid happ
      have H6 := Lib.hid h6
      have H7 := Lib.hid h7
      clear happ h6 h7 hb7
      (try dsimp only)
      refine hK.out _ _ ?_ (fun hHeld => ?_)
      · exact trivial
      clear hK K
      (try simp only [List.getElem_toArray, List.getElem_cons_zero, List.getElem_cons_succ, Act.put, List.setIfInBounds_toArray, List.set_cons_zero, List.set_cons_succ])
      refine wpAnyH_take (i := 14) (oi := _) (v := ?_) rfl (by kernel_rfl) (by kernel_rfl) (by kernel_rfl) (fun _ _ _ h => h) (Or.inl ⟨by rfl, ?_⟩) (by assumption) ?_
      rotate_left
      · (intro w hSw; (try dsimp only at hSw); go_simp) <;> with_reducible rfl
      (try simp only [List.getElem_toArray, List.getElem_cons_zero, List.getElem_cons_succ, Act.put, List.setIfInBounds_toArray, List.set_cons_zero, List.set_cons_succ])
      refine wpAnyH_take (i := 15) (oi := _) (v := ?_) rfl (by kernel_rfl) (by kernel_rfl) (by kernel_rfl) (fun _ _ _ h => h) (Or.inl ⟨by rfl, ?_⟩) (by assumption) ?_
      rotate_left
      · (intro w hSw; (try dsimp only at hSw); go_simp) <;> with_reducible rfl
      (try simp only [List.getElem_toArray, List.getElem_cons_zero, List.getElem_cons_succ, Act.put, List.setIfInBounds_toArray, List.set_cons_zero, List.set_cons_succ])
      refine wpAnyH_ready (rs := [16]) (by kernel_rfl) (by simp) ?_
      refine AllReadyH.cons (o := _) rfl (fun K hK => ?_) AllReadyH.nil
      go_simp
      refine hK.out _ _ ?_ (fun hHeld => ?_)
      · exact trivial
      clear hK K
      (try simp only [List.getElem_toArray, List.getElem_cons_zero, List.getElem_cons_succ, Act.put, List.setIfInBounds_toArray, List.set_cons_zero, List.set_cons_succ])
      refine wpAnyH_done (by kernel_rfl) ?_ _
      refine NoPanic.normal ?_
      go_wp2
      go_end0
      refine ⟨_, rfl, H7.out, ?_⟩
      refine HC4.out.trans ⟨rfl, rfl, fun k hk => ?_, (HKR.out.alloc (.cells #[.string (touchNote i j)] 9)).mono (fun _ _ h => h.elim) |>.trans (HA.out.keep.mono (T := fun k => base ≤ k ∧ StV.fp ⟨b, vb, vl, .slice co2 (S.contacts.length + 1) cc2, vt, .slice no S.notes.length nc⟩ k) (fun k _ e => ⟨H6.out.fp_ge.2.2.2 k e, .inr (.inr (.inr (.inr (.inr e))))⟩)) (fun _ _ h => h) |>.setCell _ _ (fun _ => ⟨H4.out.ge, .inl rfl⟩)⟩
      rcases hk with e | e | e | e | e | e
      · exact .inl (.inl e)
      · exact .inl (.inr (.inl e))
      · exact .inl (.inr (.inr (.inl e)))
      · exact .inl (.inr (.inr (.inr (.inl e))))
      · exact .inl (.inr (.inr (.inr (.inr (.inl e)))))
      · rcases HA.out.fresh with h1 | ⟨g, h1, h2⟩
        · exact .inl (.inr (.inr (.inr (.inr (.inr (h1.symm.trans e))))))
        · have h3 : g = k := Option.some.inj (h1.symm.trans e)
          have h4 := (HKR.out.alloc (.cells #[.string (touchNote i j)] 9)).size
          have h5 : (Wc.alloc (.cells #[.string (touchNote i j)] 9)).heap.size ≤ g := h2
          exact .inr (by omega)
    · go_simp
      refine Calls.mono (HIT.out _ _ HKR.out (by first | exact .inl rfl | exact .inr rfl)) ?_
      rintro e Wc ⟨rfl, hkc⟩
      have HKR := Lib.hid (HKR.out.trans hkc (fun _ _ h => h))
      have d4 := (H4.out.keep HKR.out (fun _ _ h => h)).blk.cell 4
      simp [StV.cells] at d4
      have hlt4 : b < Wc.heap.size := (H4.out.keep HKR.out (fun _ _ h => h)).blk.lt
      clear hkc
      (try dsimp only)
      refine hK.out _ _ ?_ (fun hHeld => ?_)
      · exact trivial
      clear hK K
      (try simp only [List.getElem_toArray, List.getElem_cons_zero, List.getElem_cons_succ, Act.put, List.setIfInBounds_toArray, List.set_cons_zero, List.set_cons_succ])
      refine wpAnyH_take (i := 11) (oi := _) (v := ?_) rfl (by kernel_rfl) (by kernel_rfl) (by kernel_rfl) (fun _ _ _ h => h) (Or.inl ⟨by rfl, ?_⟩) (by assumption) ?_
      rotate_left
      · (intro w hSw; (try dsimp only at hSw); go_simp) <;> with_reducible rfl
      (try simp only [List.getElem_toArray, List.getElem_cons_zero, List.getElem_cons_succ, Act.put, List.setIfInBounds_toArray, List.set_cons_zero, List.set_cons_succ])
      refine wpAnyH_ready (rs := [4, 12]) (by kernel_rfl) (by simp) ?_
      refine AllReadyH.cons (o := _) rfl (fun K hK => ?_) (AllReadyH.cons (o := _) rfl (fun K hK => ?_) AllReadyH.nil)
      · go_simp
        refine hK.out _ _ ?_ (fun hHeld => ?_)
        · exact trivial
        clear hK K
        (try simp only [List.getElem_toArray, List.getElem_cons_zero, List.getElem_cons_succ, Act.put, List.setIfInBounds_toArray, List.set_cons_zero, List.set_cons_succ])
        refine wpAnyH_ready (rs := [12]) (by kernel_rfl) (by simp) ?_
        refine AllReadyH.cons (o := _) rfl (fun K hK => ?_) AllReadyH.nil
        go_simp
        refine hK.out _ _ ?_ (fun hHeld => ?_)
        · exact trivial
        clear hK K
        (try simp only [List.getElem_toArray, List.getElem_cons_zero, List.getElem_cons_succ, Act.put, List.setIfInBounds_toArray, List.set_cons_zero, List.set_cons_succ])
        refine wpAnyH_ready (rs := [13]) (by kernel_rfl) (by simp) ?_
        refine AllReadyH.cons (o := _) rfl (fun K hK => ?_) AllReadyH.nil
        rw [if_pos (by rfl)]
        have ho6 : (Wc.alloc (.cells #[.string (touchNote i j)] 9)).ownsRow base 9 1 (.slice no S.notes.length nc) S.notes.length (strCells S.notes) := ownsRow_keep (H4.out.on) (HKR.out.alloc (.cells #[.string (touchNote i j)] 9)) (fun _ _ h => h)
        refine oper_app (.tmp 22) (.tmp 30) 44 44 rfl 9 (.string ⟨#[]⟩) 1 16 Tryz.underlying44 info9 rfl ho6 rfl ((Rd.new Wc 1 1 [.string (touchNote i j)] 9 rfl (by simp [Value.oneCell']) (by unfold maxLen; omega)).src Tryz.underlying44) rfl (by unfold maxLen; omega) (by omega) (Nat.le_trans H4.out.lt (HKR.out.alloc (.cells #[.string (touchNote i j)] 9)).size) (fun v' w7 happ => ?_)
        obtain ⟨ao7, cap7, rfl, _⟩ := ownsRow_shape happ.own
        have h6 := H4.out.keep (HKR.out.alloc (.cells #[.string (touchNote i j)] 9)) (fun _ _ h => h)
        have h7 := h6.setNotes (w1 := w7) (v' := .slice ao7 (S.notes.length + 1) cap7) (ls := S.notes ++ [touchNote i j]) happ.keep (by have := happ.own; simpa [strCells] using this) happ.fresh
        have hb7 := h6.blk.keep happ.keep h6.nne
        have d4 := hb7.cell 4
        have f4 := hb7.free 4
        simp [StV.cells] at d4 f4
        have HA := Lib.hid happ
        have H6 := Lib.hid h6
        have H7 := Lib.hid h7
        clear happ h6 h7 hb7
        (try dsimp only)
        refine hK.out _ _ ?_ (fun hHeld => ?_)
        · exact trivial
        clear hK K
        (try simp only [List.getElem_toArray, List.getElem_cons_zero, List.getElem_cons_succ, Act.put, List.setIfInBounds_toArray, List.set_cons_zero, List.set_cons_succ])
        refine wpAnyH_take (i := 14) (oi := _) (v := ?_) rfl (by kernel_rfl) (by kernel_rfl) (by kernel_rfl) (fun _ _ _ h => h) (Or.inl ⟨by rfl, ?_⟩) (by assumption) ?_
        rotate_left
        · (intro w hSw; (try dsimp only at hSw); go_simp) <;> with_reducible rfl
        (try simp only [List.getElem_toArray, List.getElem_cons_zero, List.getElem_cons_succ, Act.put, List.setIfInBounds_toArray, List.set_cons_zero, List.set_cons_succ])
        refine wpAnyH_take (i := 15) (oi := _) (v := ?_) rfl (by kernel_rfl) (by kernel_rfl) (by kernel_rfl) (fun _ _ _ h => h) (Or.inl ⟨by rfl, ?_⟩) (by assumption) ?_
        rotate_left
        · (intro w hSw; (try dsimp only at hSw); go_simp) <;> with_reducible rfl
        (try simp only [List.getElem_toArray, List.getElem_cons_zero, List.getElem_cons_succ, Act.put, List.setIfInBounds_toArray, List.set_cons_zero, List.set_cons_succ])
        refine wpAnyH_ready (rs := [16]) (by kernel_rfl) (by simp) ?_
        refine AllReadyH.cons (o := _) rfl (fun K hK => ?_) AllReadyH.nil
        go_simp
        refine hK.out _ _ ?_ (fun hHeld => ?_)
        · exact trivial
        clear hK K
        (try simp only [List.getElem_toArray, List.getElem_cons_zero, List.getElem_cons_succ, Act.put, List.setIfInBounds_toArray, List.set_cons_zero, List.set_cons_succ])
        refine wpAnyH_done (by kernel_rfl) ?_ _
        refine NoPanic.normal ?_
        go_wp2
        go_end0
        refine ⟨_, rfl, H7.out, ?_⟩
        refine HC4.out.trans ⟨rfl, rfl, fun k hk => ?_, (HKR.out.alloc (.cells #[.string (touchNote i j)] 9)).mono (fun _ _ h => h.elim) |>.trans (HA.out.keep.mono (T := fun k => base ≤ k ∧ StV.fp ⟨b, vb, vl, .slice co2 (S.contacts.length + 1) cc2, vt, .slice no S.notes.length nc⟩ k) (fun k _ e => ⟨H6.out.fp_ge.2.2.2 k e, .inr (.inr (.inr (.inr (.inr e))))⟩)) (fun _ _ h => h) |>.setCell _ _ (fun _ => ⟨H4.out.ge, .inl rfl⟩)⟩
        rcases hk with e | e | e | e | e | e
        · exact .inl (.inl e)
        · exact .inl (.inr (.inl e))
        · exact .inl (.inr (.inr (.inl e)))
        · exact .inl (.inr (.inr (.inr (.inl e))))
        · exact .inl (.inr (.inr (.inr (.inr (.inl e)))))
        · rcases HA.out.fresh with h1 | ⟨g, h1, h2⟩
          · exact .inl (.inr (.inr (.inr (.inr (.inr (h1.symm.trans e))))))
          · have h3 : g = k := Option.some.inj (h1.symm.trans e)
            have h4 := (HKR.out.alloc (.cells #[.string (touchNote i j)] 9)).size
            have h5 : (Wc.alloc (.cells #[.string (touchNote i j)] 9)).heap.size ≤ g := h2
            exact .inr (by omega)
      · go_simp
        refine hK.out _ _ ?_ (fun hHeld => ?_)
        · exact trivial
        clear hK K
        (try simp only [List.getElem_toArray, List.getElem_cons_zero, List.getElem_cons_succ, Act.put, List.setIfInBounds_toArray, List.set_cons_zero, List.set_cons_succ])
        refine wpAnyH_ready (rs := [4]) (by kernel_rfl) (by simp) ?_
        refine AllReadyH.cons (o := _) rfl (fun K hK => ?_) AllReadyH.nil
        go_simp
        refine hK.out _ _ ?_ (fun hHeld => ?_)
        · exact trivial
        clear hK K
        (try simp only [List.getElem_toArray, List.getElem_cons_zero, List.getElem_cons_succ, Act.put, List.setIfInBounds_toArray, List.set_cons_zero, List.set_cons_succ])
        refine wpAnyH_ready (rs := [13]) (by kernel_rfl) (by simp) ?_
        refine AllReadyH.cons (o := _) rfl (fun K hK => ?_) AllReadyH.nil
        rw [if_pos (by rfl)]
        have ho6 : (Wc.alloc (.cells #[.string (touchNote i j)] 9)).ownsRow base 9 1 (.slice no S.notes.length nc) S.notes.length (strCells S.notes) := ownsRow_keep (H4.out.on) (HKR.out.alloc (.cells #[.string (touchNote i j)] 9)) (fun _ _ h => h)
        refine oper_app (.tmp 22) (.tmp 30) 44 44 rfl 9 (.string ⟨#[]⟩) 1 16 Tryz.underlying44 info9 rfl ho6 rfl ((Rd.new Wc 1 1 [.string (touchNote i j)] 9 rfl (by simp [Value.oneCell']) (by unfold maxLen; omega)).src Tryz.underlying44) rfl (by unfold maxLen; omega) (by omega) (Nat.le_trans H4.out.lt (HKR.out.alloc (.cells #[.string (touchNote i j)] 9)).size) (fun v' w7 happ => ?_)
        obtain ⟨ao7, cap7, rfl, _⟩ := ownsRow_shape happ.own
        have h6 := H4.out.keep (HKR.out.alloc (.cells #[.string (touchNote i j)] 9)) (fun _ _ h => h)
        have h7 := h6.setNotes (w1 := w7) (v' := .slice ao7 (S.notes.length + 1) cap7) (ls := S.notes ++ [touchNote i j]) happ.keep (by have := happ.own; simpa [strCells] using this) happ.fresh
        have hb7 := h6.blk.keep happ.keep h6.nne
        have d4 := hb7.cell 4
        have f4 := hb7.free 4
        simp [StV.cells] at d4 f4
        have HA := Lib.hid happ
        have H6 := Lib.hid h6
        have H7 := Lib.hid h7
        clear happ h6 h7 hb7
        (try dsimp only)
        refine hK.out _ _ ?_ (fun hHeld => ?_)
        · exact trivial
        clear hK K
        (try simp only [List.getElem_toArray, List.getElem_cons_zero, List.getElem_cons_succ, Act.put, List.setIfInBounds_toArray, List.set_cons_zero, List.set_cons_succ])
        refine wpAnyH_take (i := 14) (oi := _) (v := ?_) rfl (by kernel_rfl) (by kernel_rfl) (by kernel_rfl) (fun _ _ _ h => h) (Or.inl ⟨by rfl, ?_⟩) (by assumption) ?_
        rotate_left
        · (intro w hSw; (try dsimp only at hSw); go_simp) <;> with_reducible rfl
        (try simp only [List.getElem_toArray, List.getElem_cons_zero, List.getElem_cons_succ, Act.put, List.setIfInBounds_toArray, List.set_cons_zero, List.set_cons_succ])
        refine wpAnyH_take (i := 15) (oi := _) (v := ?_) rfl (by kernel_rfl) (by kernel_rfl) (by kernel_rfl) (fun _ _ _ h => h) (Or.inl ⟨by rfl, ?_⟩) (by assumption) ?_
        rotate_left
        · (intro w hSw; (try dsimp only at hSw); go_simp) <;> with_reducible rfl
        (try simp only [List.getElem_toArray, List.getElem_cons_zero, List.getElem_cons_succ, Act.put, List.setIfInBounds_toArray, List.set_cons_zero, List.set_cons_succ])
        refine wpAnyH_ready (rs := [16]) (by kernel_rfl) (by simp) ?_
        refine AllReadyH.cons (o := _) rfl (fun K hK => ?_) AllReadyH.nil
        go_simp
        refine hK.out _ _ ?_ (fun hHeld => ?_)
        · exact trivial
        clear hK K
        (try simp only [List.getElem_toArray, List.getElem_cons_zero, List.getElem_cons_succ, Act.put, List.setIfInBounds_toArray, List.set_cons_zero, List.set_cons_succ])
        refine wpAnyH_done (by kernel_rfl) ?_ _
        refine NoPanic.normal ?_
        go_wp2
        go_end0
        refine ⟨_, rfl, H7.out, ?_⟩
        refine HC4.out.trans ⟨rfl, rfl, fun k hk => ?_, (HKR.out.alloc (.cells #[.string (touchNote i j)] 9)).mono (fun _ _ h => h.elim) |>.trans (HA.out.keep.mono (T := fun k => base ≤ k ∧ StV.fp ⟨b, vb, vl, .slice co2 (S.contacts.length + 1) cc2, vt, .slice no S.notes.length nc⟩ k) (fun k _ e => ⟨H6.out.fp_ge.2.2.2 k e, .inr (.inr (.inr (.inr (.inr e))))⟩)) (fun _ _ h => h) |>.setCell _ _ (fun _ => ⟨H4.out.ge, .inl rfl⟩)⟩
        rcases hk with e | e | e | e | e | e
        · exact .inl (.inl e)
        · exact .inl (.inr (.inl e))
        · exact .inl (.inr (.inr (.inl e)))
        · exact .inl (.inr (.inr (.inr (.inl e))))
        · exact .inl (.inr (.inr (.inr (.inr (.inl e)))))
        · rcases HA.out.fresh with h1 | ⟨g, h1, h2⟩
          · exact .inl (.inr (.inr (.inr (.inr (.inr (h1.symm.trans e))))))
          · have h3 : g = k := Option.some.inj (h1.symm.trans e)
            have h4 := (HKR.out.alloc (.cells #[.string (touchNote i j)] 9)).size
            have h5 : (Wc.alloc (.cells #[.string (touchNote i j)] 9)).heap.size ≤ g := h2
            exact .inr (by omega)
end Go.Proofs.YthdkamnclbfehaaGreatDoor

/- house.state.touch. -/
namespace Go.Proofs.YthdkamnclbfehaaGreatDoor
set_option linter.unusedSimpArgs false
set_option linter.unusedVariables false
set_option linter.unnecessarySimpa false
open Go.RowKit

def touchF (S : St) (a : FA) : Res :=
  if allLots S a.n then (if a.n.getD 0 0 = a.n.getD 1 0 then ⟨7, S, bs []⟩ else ⟨0, touchS S (a.n.getD 0 0) (a.n.getD 1 0), bs [116, 111, 117, 99, 104]⟩) else ⟨5, S, bs []⟩
def i64b (x : Int) : Prop := -9223372036854775808 ≤ x ∧ x ≤ 9223372036854775807

set_option maxHeartbeats 2000000 in
set_option maxRecDepth 100000 in
theorem touch_any {base : Nat} {w : World} {V : StV} {S : St} {vn : Value} {a : FA} (hG : GW base w) (h : OSt base w V S) (hl : S.small) (ha : Args base w vn a) (hn : a.n.length = 2) (hb : ∀ x ∈ a.n, i64b x) :
    Calls Tryz.prog 258 #[.pointer (some ⟨V.b, 0, none⟩), .agg #[vn, .string a.word]] w (RunPost base w V (touchF S a)) := by
  obtain ⟨x, y, hx⟩ : ∃ x y, a.n = [x, y] := by
    match a.n, hn with
    | [x, y], _ => exact ⟨x, y, rfl⟩
  obtain ⟨an, word, aok⟩ := a
  simp only at hx hn hb
  subst hx
  have hard := ha.rd
  rcases hard.2.2 with ⟨_, h1⟩ | ⟨nb, no, nc, rfl, hnc1, hnc2, hcells⟩
  · simp at h1
  have hn0 := hcells 0 (.int .i64 x) (by simp [icells])
  have hn1 := hcells 1 (.int .i64 y) (by simp [icells])
  rw [Nat.add_zero] at hn0
  have hnlt := World.block_lt_of_cell? w _ hn0
  change Calls Tryz.prog 258 #[.pointer (some ⟨V.b, 0, none⟩), .agg #[.slice (some ⟨nb, no, none⟩) 2 nc, .string word]] w (RunPost base w V (touchF S ⟨[x, y], word, aok⟩))
  simp only at hnlt
  have hnb : nb < base := ha.lt nb rfl
  obtain ⟨w0, hw0⟩ : ∃ w0, w0 = w.alloc (.cells #[.slice (some ⟨nb, no, none⟩) 2 nc, .string word] 134) := ⟨_, rfl⟩
  have hk0 : Keep (fun _ => False) w w0 := by rw [hw0]; exact (Keep.refl _ _).alloc _
  have hb0 : Blk w0 w.heap.size #[.slice (some ⟨nb, no, none⟩) 2 nc, .string word] 134 := by rw [hw0]; exact Blk.new _ _ _
  have h0 := h.keep hk0 (fun _ _ h => h)
  have HKR : Hid (Keep (fun k => base ≤ k ∧ V.fp k) w0 w0) := Lib.hid (Keep.refl _ _)
  have HC : Hid (∀ W, Keep (fun k => base ≤ k ∧ V.fp k) w0 W → W.cell? ⟨w.heap.size, 0, none⟩ = some (.slice (some ⟨nb, no, none⟩) 2 nc) ∧ W.cell? ⟨nb, no, none⟩ = some (.int .i64 x) ∧ W.cell? ⟨nb, no + 1, none⟩ = some (.int .i64 y)) :=
    Lib.hid fun W hk => by
      have hB := hb0.keep hk (fun e => by have := h.fp_lt _ e.2; omega)
      refine ⟨hB.cell 0, (hk.cell (p := ⟨nb, no, none⟩) (Nat.lt_of_lt_of_le hnlt hk0.size) (fun e => by have := e.1; simp at this; omega)).trans ((hk0.cell (p := ⟨nb, no, none⟩) hnlt (fun h => h)).trans hn0), (hk.cell (p := ⟨nb, no + 1, none⟩) (Nat.lt_of_lt_of_le hnlt hk0.size) (fun e => by have := e.1; simp at this; omega)).trans ((hk0.cell (p := ⟨nb, no + 1, none⟩) hnlt (fun h => h)).trans hn1)⟩
  obtain ⟨b0, b1, b2⟩ := HC.out w0 (Keep.refl _ _)
  rw [hw0] at b0 b1 b2
  have hth := there_any (h0.at h0.lt) hl.l ((show Rd w 1 (.slice (some ⟨nb, no, none⟩) 2 nc) [x, y].length (icells [x, y]) from hard).keep hk0 (fun _ _ h => h)) (by simp)
  have HG0 := Lib.hid (hG.keep hk0 (fun _ _ h => h))
  have H0 := Lib.hid h0; clear h0
  have H := Lib.hid h; clear h
  have HK0 := Lib.hid hk0; clear hk0
  have HW0 := Lib.hid hw0; clear hw0
  have HL := Lib.hid hl; clear hl
  have hbx := hb x (by simp)
  have hby := hb y (by simp)
  have HBX := Lib.hid hbx
  have HBY := Lib.hid hby
  clear hn0 hn1 hb0 hard hcells ha hn hb hbx hby
  cases hall : allLots S [x, y] with
  | false =>
    have HF := Lib.hid (show touchF S ⟨[x, y], word, aok⟩ = ⟨5, S, bs []⟩ by unfold touchF; simp only []; rw [hall]; rfl)
    rw [hall] at hth
    have HT := Lib.hid hth; clear hth hall
    go_enter Tryz.func258, Tryz.ntmps258
    go_wp2_with (go_at_call 262; rw [← HW0.out]; refine HT.out.mono ?_; rintro e w1 ⟨rfl, hk1⟩; have HK1 := Lib.hid hk1; clear hk1)
    go_ret2
    exact ⟨by rw [HF.out]; rfl, V, (fun e => by rw [HF.out] at e; cases e), (Chg.refl base w V).after (HK0.out.trans HK1.out (fun _ _ h => h))⟩
  | true =>
    rw [hall] at hth
    have HT := Lib.hid hth; clear hth
    by_cases hxy : x = y
    · have HF := Lib.hid (show touchF S ⟨[x, y], word, aok⟩ = ⟨7, S, bs []⟩ by unfold touchF; simp only []; rw [hall, if_pos rfl]; exact if_pos hxy)
      have exy : (x == y) = true := by simpa using hxy
      clear hall hxy
      go_enter Tryz.func258, Tryz.ntmps258
      go_wp2_with (go_at_call 262; rw [← HW0.out]; refine HT.out.mono ?_; rintro e w1 ⟨rfl, hk1⟩; have HK1 := Lib.hid hk1; obtain ⟨a0, a1, a2⟩ := HC.out w1 (hk1.mono (fun _ _ h => h.elim)); clear hk1)
      go_quiet (fail)
      go_wp2
      go_ret2
      exact ⟨by rw [HF.out]; rfl, V, (fun e => by rw [HF.out] at e; cases e), (Chg.refl base w V).after ((HK0.out.trans HK1.out (fun _ _ h => h)).trans ((Keep.refl (fun _ => False) w1).drewN nq) (fun _ _ h => h))⟩
    · have HF := Lib.hid (show touchF S ⟨[x, y], word, aok⟩ = ⟨0, touchS S x y, bs [116, 111, 117, 99, 104]⟩ by unfold touchF; simp only []; rw [hall, if_pos rfl]; exact if_neg hxy)
      have exy : (x == y) = false := by simpa using hxy
      clear hall hxy
      go_enter Tryz.func258, Tryz.ntmps258
      go_wp2_with (go_at_call 262; rw [← HW0.out]; refine HT.out.mono ?_; rintro e w1 ⟨rfl, hk1⟩; have HK1 := Lib.hid hk1; obtain ⟨a0, a1, a2⟩ := HC.out w1 (hk1.mono (fun _ _ h => h.elim)); clear hk1)
      go_quiet (fail)
      go_wp2
      have HKR : Hid (Keep (fun k => base ≤ k ∧ V.fp k) w0 ((w1.drewN nq).drew)) := Lib.hid (((HK1.out.drewN nq).drew).mono (fun _ _ h => h.elim))
      go_region_held3 (fun W => W.cell? ⟨w.heap.size, 0, none⟩ = some (.slice (some ⟨nb, no, none⟩) 2 nc) ∧ W.cell? ⟨nb, no, none⟩ = some (.int .i64 x) ∧ W.cell? ⟨nb, no + 1, none⟩ = some (.int .i64 y))
        (first | exact ⟨a0, a1, a2⟩ | (refine HC.out _ ?_; repeat (first | exact HKR.out | apply Keep.drew)))
        ((go_at_call 264; have hh := addTouch_any (i := x) (j := y) (HG0.out.keep ((HK1.out.drewN nq).drew) (fun _ _ h => h)) (H0.out.keep ((HK1.out.drewN nq).drew) (fun _ _ h => h)) HL.out.c HL.out.n HBX.out HBY.out; refine Calls.mono hh ?_; clear hh; rintro e W1 ⟨V1, rfl, ho1, hc1⟩; have HKR := Lib.hid (HKR.out.trans hc1.keep (fun _ _ h => h)); have HO1 := Lib.hid ho1; clear ho1; have HC1 := Lib.hid hc1; clear hc1; dsimp only))
      go_wp2
      go_ret2
      exact ⟨by rw [HF.out]; rfl, V1, fun _ => by rw [HF.out]; exact HO1.out, (HC1.out.before ((HK0.out.trans HK1.out (fun _ _ h => h)).drewN nq |>.drew))⟩
end Go.Proofs.YthdkamnclbfehaaGreatDoor

/- One lot of a state changed in place; the words of a command opened; house.state.shut. -/
namespace Go.Proofs.YthdkamnclbfehaaGreatDoor
set_option linter.unusedSimpArgs false
set_option linter.unusedVariables false
set_option linter.unnecessarySimpa false
open Go.RowKit

theorem ownsRow_set {w : World} {base : Nat} {e : TypeId} {size n g cap : Nat} {xs : List Value} (h : w.ownsRow base e size (.slice (some ⟨g, 0, none⟩) n cap) n xs) (k : Nat) (hk : k < xs.length) (u : Value) :
    (w.setCell ⟨g, k, none⟩ u).ownsRow base e size (.slice (some ⟨g, 0, none⟩) n cap) n (xs.set k u) := by
  obtain ⟨hl, h2⟩ := h
  refine ⟨by rw [List.length_set]; exact hl, ?_⟩
  rcases h2 with ⟨hv, _⟩ | ⟨g', c, cur, hv, hb, hgg, hnc, hcm, hcs, htake⟩
  · cases hv
  · cases hv
    refine .inr ⟨g, cap, cur.setIfInBounds k u, rfl, hb, ?_, hnc, hcm, by simp [hcs], ?_⟩
    · simp [World.setCell, Array.getElem?_modify, hgg]
    · rw [Array.toList_setIfInBounds, ← htake, List.take_set]
theorem lotCells_get (l : List Lot) (i f : Nat) (hi : i < l.length) (hf : f < 4) : (lotCells l)[i * 4 + f]? = (lotCell l[i])[f]? := by
  induction l generalizing i with
  | nil => exact absurd hi (by simp)
  | cons x l ih =>
    simp only [lotCells, List.flatMap_cons]
    cases i with
    | zero => rw [Nat.zero_mul, Nat.zero_add, List.getElem?_append_left (by simp [lotCell]; omega)]; rfl
    | succ i =>
      rw [List.getElem?_append_right (by simp [lotCell]; omega)]
      have : (i + 1) * 4 + f - (lotCell x).length = i * 4 + f := by simp [lotCell]; omega
      rw [this]
      exact ih i (by simpa using hi)
theorem lotCells_set (l : List Lot) (i f : Nat) (hi : i < l.length) (hf : f < 4) (x : Lot) (u : Value) (hx : lotCell x = (lotCell l[i]).set f u) : lotCells (l.set i x) = (lotCells l).set (i * 4 + f) u := by
  induction l generalizing i with
  | nil => exact absurd hi (by simp)
  | cons y l ih =>
    cases i with
    | zero =>
      simp only [lotCells, List.set_cons_zero, List.flatMap_cons, Nat.zero_mul, Nat.zero_add]
      rw [hx, List.set_append_left _ _ (by simp [lotCell]; omega)]
      rfl
    | succ i =>
      simp only [lotCells, List.set_cons_succ, List.flatMap_cons]
      rw [List.set_append_right _ _ (by simp [lotCell]; omega)]
      have : (i + 1) * 4 + f - (lotCell y).length = i * 4 + f := by simp [lotCell]; omega
      rw [this]
      have := ih i (by simpa using hi) (by simpa using hx)
      simp only [lotCells] at this
      rw [this]
/-- The row of lots, if there is one. -/
theorem OSt.lotRow {base : Nat} {w : World} {V : StV} {S : St} (h : OSt base w V S) (hp : 0 < S.lots.length) : ∃ g cap, V.vl = .slice (some ⟨g, 0, none⟩) S.lots.length cap ∧ g < w.heap.size ∧ base ≤ g ∧ g ≠ V.b := by
  rcases h.ol.2 with ⟨_, e⟩ | ⟨g, cap, cur, hv, hb, hgg, _⟩
  · omega
  · refine ⟨g, cap, hv, (Array.getElem?_eq_some_iff.1 hgg).1, hb, fun e => h.lne ?_⟩
    rw [hv, e]; rfl
theorem OSt.lotCell {base : Nat} {w : World} {V : StV} {S : St} (h : OSt base w V S) {g cap : Nat} (hv : V.vl = .slice (some ⟨g, 0, none⟩) S.lots.length cap) {i : Nat} (hi : i < S.lots.length) :
    (w.cell? ⟨g, i * 4, none⟩ = some (.string S.lots[i].spice) ∧ w.cell? ⟨g, i * 4 + 1, none⟩ = some (.int .i64 S.lots[i].grams) ∧ w.cell? ⟨g, i * 4 + 2, none⟩ = some (.int .i64 S.lots[i].bay) ∧ w.cell? ⟨g, i * 4 + 3, none⟩ = some (.bool S.lots[i].closed)) ∧ ∀ o, w.frozen? ⟨g, o, none⟩ = false := by
  have hr := ownsRow_rd h.ol (lotCells_one _)
  have hc : ∀ f u, f < 4 → (Go.Proofs.YthdkamnclbfehaaGreatDoor.lotCell S.lots[i])[f]? = some u → w.cell? ⟨g, i * 4 + f, none⟩ = some u := fun f u hf hu => by
    rcases hr.2.2 with ⟨_, e⟩ | ⟨g', o, c, e, _, _, hx⟩
    · omega
    · rw [hv] at e
      cases e
      have := hx (i * 4 + f) u (by rw [lotCells_get _ _ _ hi hf]; exact hu)
      rwa [Nat.zero_add] at this
  refine ⟨⟨hc 0 _ (by omega) rfl, hc 1 _ (by omega) rfl, hc 2 _ (by omega) rfl, hc 3 _ (by omega) rfl⟩, fun o => ?_⟩
  rcases h.ol.2 with ⟨e, _⟩ | ⟨g', cap', cur, e, _, hgg, _⟩
  · rw [hv] at e; cases e
  · rw [hv] at e; cases e
    simp [World.frozen?, hgg]
theorem OSt.setLot {base : Nat} {w : World} {V : StV} {S : St} (h : OSt base w V S) {g cap : Nat} (hv : V.vl = .slice (some ⟨g, 0, none⟩) S.lots.length cap) {i : Nat} (hi : i < S.lots.length) (f : Nat) (hf : f < 4) (x : Lot) (u : Value)
    (hx : Go.Proofs.YthdkamnclbfehaaGreatDoor.lotCell x = (Go.Proofs.YthdkamnclbfehaaGreatDoor.lotCell S.lots[i]).set f u) :
    OSt base (w.setCell ⟨g, i * 4 + f, none⟩ u) V { S with lots := S.lots.set i x } ∧ Chg base w V V (w.setCell ⟨g, i * 4 + f, none⟩ u) := by
  have hk : Keep (fun k => k = g) w (w.setCell ⟨g, i * 4 + f, none⟩ u) := (Keep.refl _ _).setCell _ _ (fun _ => rfl)
  have ho : V.vl.ownBlock = some g := by rw [hv]; rfl
  have hgne : g ≠ V.b := fun e => h.lne (e ▸ ho)
  refine ⟨⟨h.blk.keep hk (fun e => hgne e.symm), h.ge, h.rb.keep hk (fun b e e' => by have := h.bb b e; have := h.fp_ge.1 g ho; omega), h.bb, ?_, ownsRow_keep h.oc hk (fun b e e' => ownsRow_types h.ol h.oc (by decide) b (e' ▸ ho) e), ownsRow_keep h.ot hk (fun b e e' => ownsRow_types h.ol h.ot (by decide) b (e' ▸ ho) e), ownsRow_keep h.on hk (fun b e e' => ownsRow_types h.ol h.on (by decide) b (e' ▸ ho) e), h.ct⟩, rfl, rfl, fun _ e => .inl e, hk.mono (fun k _ e => ⟨h.fp_ge.1 k (e ▸ ho), .inr (.inr (.inl (e ▸ ho)))⟩)⟩
  have hol := h.ol
  rw [hv] at hol
  have := ownsRow_set hol (i * 4 + f) (by rw [lotCells_length]; omega) u
  rw [← lotCells_set _ _ _ hi hf x u hx] at this
  simp only [List.length_set, hv]
  exact this

/-- The words of a command, in the world in which its box has been laid. -/
theorem args_open {base : Nat} {w : World} {V : StV} {S : St} {vn : Value} {a : FA} (h : OSt base w V S) (ha : Args base w vn a) (hp : 0 < a.n.length) :
    ∃ nb no nc, vn = .slice (some ⟨nb, no, none⟩) a.n.length nc ∧ a.n.length ≤ nc ∧
      ∀ W, Keep (fun k => base ≤ k ∧ V.fp k) (w.alloc (.cells #[.slice (some ⟨nb, no, none⟩) a.n.length nc, .string a.word] 134)) W →
        W.cell? ⟨w.heap.size, 0, none⟩ = some (.slice (some ⟨nb, no, none⟩) a.n.length nc) ∧ W.cell? ⟨w.heap.size, 1, none⟩ = some (.string a.word) ∧ ∀ j, j < a.n.length → W.cell? ⟨nb, no + j, none⟩ = some (.int .i64 (a.n.getD j 0)) := by
  rcases ha.rd.2.2 with ⟨_, h1⟩ | ⟨nb, no, nc, rfl, hnc1, hnc2, hcells⟩
  · omega
  refine ⟨nb, no, nc, rfl, hnc1, fun W hk => ?_⟩
  have hk0 : Keep (fun _ => False) w (w.alloc (.cells #[.slice (some ⟨nb, no, none⟩) a.n.length nc, .string a.word] 134)) := (Keep.refl _ _).alloc _
  have hB := (Blk.new w #[.slice (some ⟨nb, no, none⟩) a.n.length nc, .string a.word] 134).keep hk (fun e => by have := h.fp_lt _ e.2; omega)
  refine ⟨hB.cell 0, hB.cell 1, fun j hj => ?_⟩
  have hn0 := hcells j _ (icells_get a.n j hj)
  have hlt := World.block_lt_of_cell? w _ hn0
  have hnb : nb < base := ha.lt nb rfl
  exact (hk.cell (p := ⟨nb, no + j, none⟩) (Nat.lt_of_lt_of_le hlt hk0.size) (fun e => by have := e.1; simp at this; omega)).trans ((hk0.cell (p := ⟨nb, no + j, none⟩) hlt (fun h => h)).trans hn0)

def shutF (S : St) (a : FA) : Res :=
  if hasLot S (a.n.getD 0 0) then
    match S.lots[(a.n.getD 0 0 - 1).toNat]? with
    | some x => if x.closed then ⟨7, S, bs []⟩ else ⟨0, { S with lots := S.lots.set (a.n.getD 0 0 - 1).toNat { x with bay := -1, closed := true } }, bs [99, 108, 111, 115, 101]⟩
    | none => ⟨5, S, bs []⟩
  else ⟨5, S, bs []⟩
end Go.Proofs.YthdkamnclbfehaaGreatDoor

/- Arguments of a law, opened: slices of numbers and of strings, with their lengths' bounds. -/
namespace Go.Proofs.YthdkamnclbfehaaGreatDoor
set_option linter.unusedSimpArgs false
set_option linter.unusedVariables false
set_option linter.unnecessarySimpa false
open Go Go.ChangeShapes Go.WideShapes Go.ChangeAt Go.WideMaps Go.WideElems Go.RowKit

set_option maxRecDepth 100000 in
theorem arg_len {H : Type} {enc : TypeId × Value → H} {W : World} {base : Nat} {t e : TypeId} {v : Value} {d : DataW H} {ps : List MemPlace} (ht : Tryz.prog.underlying t = some (.slice e)) (hb : 1 ≤ Tryz.prog.bytesOf e)
    (hval : Value.okWide Tryz.prog W .any base t v) (h : DataW.Trod enc Tryz.prog W 0 (fun _ => true) true t v d ps) (hwt : ∀ n ∈ d.weights Tryz.prog t, n ≤ reachBytes) : ∃ ao len cap, v = .slice ao len cap ∧ len ≤ 140737488355328 := by
  obtain ⟨ao, len, cap, rfl⟩ := okWide_slice ht hval
  obtain ⟨fuel, hf⟩ := h
  refine ⟨ao, len, cap, rfl, ?_⟩
  rcases Deep.open_slice ht hf with ⟨hcs, _⟩ | ⟨a, len', cap', m, n, D, Pl, hcs, _, hl, hm, hmm, hx, hel⟩
  · simp [Value.cells] at hcs
    obtain ⟨rfl, rfl, rfl⟩ := hcs
    exact Nat.zero_le _
  · simp [Value.cells] at hcs
    obtain ⟨rfl, rfl, rfl⟩ := hcs
    have hd : d = .slice ((List.range len).map D) ((List.range (m - len)).map fun j => D (len + j)) := (Prod.mk.inj hx).1
    have hw := hwt ((((List.range len).map D).length + ((List.range (m - len)).map fun j => D (len + j)).length) * Tryz.prog.bytesOf e) (by
      rw [hd]
      unfold DataW.weights
      rw [ht]
      exact List.mem_cons_self ..)
    simp only [List.length_map, List.length_range] at hw
    unfold reachBytes at hw
    have h2 : len * 1 ≤ (len + (m - len)) * Tryz.prog.bytesOf e := Nat.mul_le_mul (by omega) hb
    omega
theorem flat_ints (l : List Int) : (l.map fun n => [Value.int .i64 n]).flatten = icells l := by
  induction l with
  | nil => rfl
  | cons x l ih => simp only [List.map_cons, List.flatten_cons, ih]; rfl
theorem flat_strs (l : List ByteArray) : (l.map fun s => [Value.string s]).flatten = strCells l := by
  induction l with
  | nil => rfl
  | cons x l ih => simp only [List.map_cons, List.flatten_cons, ih]; rfl
theorem cellsInt : Tryz.prog.cellsOf 3 = 1 := by kernel_rfl
theorem cellsStr : Tryz.prog.cellsOf 9 = 1 := by kernel_rfl
theorem bytesInt : 1 ≤ Tryz.prog.bytesOf 3 := of_decide_eq_true (by kernel_rfl)
theorem bytesStr : 1 ≤ Tryz.prog.bytesOf 9 := of_decide_eq_true (by kernel_rfl)
theorem wf_i64b {n : Int} (h : (Lit.int .i64 n).wf = true) : i64b n := by
  simp only [Lit.wf, Bool.and_eq_true, decide_eq_true_eq] at h
  exact h
theorem str_weight {H : Type} {y : DataW H} {s : ByteArray} {t : TypeId} (hy : y = .lit (.string s.data.toList)) (hw : ∀ m ∈ y.weights Tryz.prog t, m ≤ reachBytes) : s.size ≤ 140737488355328 := by
  have := hw s.data.toList.length (by rw [hy]; unfold DataW.weights; exact List.mem_singleton.2 rfl)
  have e : s.data.toList.length = s.size := by simp
  unfold reachBytes at this
  omega
set_option maxRecDepth 100000 in
theorem ints_arg {H : Type} {enc : TypeId × Value → H} {W : World} {base : Nat} {t : TypeId} {v : Value} {d : DataW H} {ps : List MemPlace} (ht : Tryz.prog.underlying t = some (.slice 3))
    (hval : Value.okWide Tryz.prog W .any base t v) (h : DataW.Trod enc Tryz.prog W 0 (fun _ => true) true t v d ps) (hwt : ∀ n ∈ d.weights Tryz.prog t, n ≤ reachBytes) :
    ∃ l : List Int, (∀ n ∈ l, i64b n) ∧ l.length ≤ 140737488355328 ∧ Rd W 1 v l.length (icells l) := by
  obtain ⟨xss, hall, hlen, hrd⟩ := rd_arg ht cellsInt (by omega) hval h hwt (fun c => ∃ n : Int, c = [.int .i64 n] ∧ i64b n) (fun n cs y h hl hw => by
    obtain ⟨k, e, _, hk⟩ := DataW.trod_int Tryz.underlying3 h
    subst e
    exact ⟨⟨k, rfl, wf_i64b hk⟩, fun u hu => by rw [List.mem_singleton.1 hu]; rfl⟩)
  obtain ⟨l, rfl, hl⟩ := map_of (fun n : Int => [Value.int .i64 n]) _ xss hall
  rw [List.length_map, flat_ints] at hrd
  obtain ⟨ao, len, cap, hve, hb⟩ := arg_len ht bytesInt hval h hwt
  obtain ⟨ao', cap', hve', _⟩ := hrd.shape
  rw [hve] at hve'
  injection hve' with _ e _
  exact ⟨l, hl, by omega, hrd⟩
set_option maxRecDepth 100000 in
theorem strs_arg {H : Type} {enc : TypeId × Value → H} {W : World} {base : Nat} {t : TypeId} {v : Value} {d : DataW H} {ps : List MemPlace} (ht : Tryz.prog.underlying t = some (.slice 9))
    (hval : Value.okWide Tryz.prog W .any base t v) (h : DataW.Trod enc Tryz.prog W 0 (fun _ => true) true t v d ps) (hwt : ∀ n ∈ d.weights Tryz.prog t, n ≤ reachBytes) :
    ∃ l : List ByteArray, (∀ s ∈ l, s.size ≤ 140737488355328) ∧ l.length ≤ 140737488355328 ∧ Rd W 1 v l.length (strCells l) := by
  obtain ⟨xss, hall, hlen, hrd⟩ := rd_arg ht cellsStr (by omega) hval h hwt (fun c => ∃ s : ByteArray, c = [.string s] ∧ s.size ≤ 140737488355328) (fun n cs y h hl hw => by
    obtain ⟨s, e, hy, _⟩ := DataW.trod_string Tryz.underlying9 h
    subst e
    exact ⟨⟨s, rfl, str_weight (y := y.1) (by rw [hy]) hw⟩, fun u hu => by rw [List.mem_singleton.1 hu]; rfl⟩)
  obtain ⟨l, rfl, hl⟩ := map_of (fun s : ByteArray => [Value.string s]) _ xss hall
  rw [List.length_map, flat_strs] at hrd
  obtain ⟨ao, len, cap, hve, hb⟩ := arg_len ht bytesStr hval h hwt
  obtain ⟨ao', cap', hve', _⟩ := hrd.shape
  rw [hve] at hve'
  injection hve' with _ e _
  exact ⟨l, hl, by omega, hrd⟩
end Go.Proofs.YthdkamnclbfehaaGreatDoor

/- house.state.shut. -/
namespace Go.Proofs.YthdkamnclbfehaaGreatDoor
set_option linter.unusedSimpArgs false
set_option linter.unusedVariables false
set_option linter.unnecessarySimpa false
open Go.RowKit

theorem hasLot_at {S : St} {i : Int} (h : hasLot S i = true) : ∃ k : Nat, i = (k : Int) + 1 ∧ k < S.lots.length := by
  unfold hasLot at h
  simp at h
  exact ⟨(i - 1).toNat, by omega, by omega⟩
theorem lotPtr_at {V : StV} {g cap n k : Nat} (hv : V.vl = .slice (some ⟨g, 0, none⟩) n cap) : lotPtr V ((k : Int) + 1) = .pointer (some ⟨g, k * 4, none⟩) := by
  unfold lotPtr
  rw [hv]
  simp only []
  rw [show ((k : Int) + 1 - 1).toNat = k by omega, Nat.zero_add]

set_option maxHeartbeats 2000000 in
set_option maxRecDepth 100000 in
theorem shut_any {base : Nat} {w : World} {V : StV} {S : St} {vn : Value} {a : FA} (hG : GW base w) (h : OSt base w V S) (hl : S.small) (ha : Args base w vn a) (hn : a.n.length = 1) :
    Calls Tryz.prog 260 #[.pointer (some ⟨V.b, 0, none⟩), .agg #[vn, .string a.word]] w (RunPost base w V (shutF S a)) := by
  obtain ⟨nb, no, nc, rfl, hnc, hC⟩ := args_open h ha (by omega)
  have hd : ∃ x, a.n = [x] := List.length_eq_one_iff.1 hn
  obtain ⟨x, hx⟩ := hd
  obtain ⟨an, word, aok⟩ := a
  simp only at hx hn hnc hC
  subst hx
  change Calls Tryz.prog 260 #[.pointer (some ⟨V.b, 0, none⟩), .agg #[.slice (some ⟨nb, no, none⟩) 1 nc, .string word]] w (RunPost base w V (shutF S ⟨[x], word, aok⟩))
  have hC' : ∀ W, Keep (fun k => base ≤ k ∧ V.fp k) (w.alloc (.cells #[.slice (some ⟨nb, no, none⟩) 1 nc, .string word] 134)) W → W.cell? ⟨w.heap.size, 0, none⟩ = some (.slice (some ⟨nb, no, none⟩) 1 nc) ∧ W.cell? ⟨nb, no, none⟩ = some (.int .i64 x) := fun W hk => by
    obtain ⟨h1, _, h3⟩ := hC W hk
    exact ⟨h1, h3 0 (by simp)⟩
  obtain ⟨b0, b2⟩ := hC' _ (Keep.refl _ _)
  have hnc1 : 1 ≤ nc := hnc
  obtain ⟨w0, hw0⟩ : ∃ w0, w0 = w.alloc (.cells #[.slice (some ⟨nb, no, none⟩) 1 nc, .string word] 134) := ⟨_, rfl⟩
  have hk0 : Keep (fun _ => False) w w0 := by rw [hw0]; exact (Keep.refl _ _).alloc _
  have h0 := h.keep hk0 (fun _ _ h => h)
  have hlot := lot_any (i := x) (h0.at h0.lt) hl.l
  unfold LotPost at hlot
  have HW0 := Lib.hid hw0
  have HK0 := Lib.hid hk0; clear hk0
  clear hC hC' ha hnc hn
  cases hb : hasLot S x with
  | false =>
    have HF := Lib.hid (show shutF S ⟨[x], word, aok⟩ = ⟨5, S, bs []⟩ by unfold shutF; simp only [List.getD_cons_zero]; rw [hb]; rfl)
    rw [hb, if_neg (by simp)] at hlot
    have HLT := Lib.hid hlot; clear hlot hb h h0 hw0
    go_enter Tryz.func260, Tryz.ntmps260
    go_wp2_with (go_at_call 263; rw [← HW0.out]; refine HLT.out.mono ?_; rintro e w1 ⟨rfl, rfl⟩)
    go_ret2
    exact ⟨by rw [HF.out]; rfl, V, (fun e => by rw [HF.out] at e; cases e), (Chg.refl base w V).after HK0.out⟩
  | true =>
    obtain ⟨k, rfl, hk⟩ := hasLot_at hb
    obtain ⟨g, cap, hv, hglt, hgb, hgne⟩ := h.lotRow (by omega)
    rw [hb, if_pos rfl, lotPtr_at hv] at hlot
    have hget : S.lots[((k : Int) + 1 - 1).toNat]? = some S.lots[k] := by rw [show ((k : Int) + 1 - 1).toNat = k by omega]; exact List.getElem?_eq_getElem hk
    have HLT := Lib.hid hlot; clear hlot
    obtain ⟨⟨_, _, c2, c3⟩, hfr⟩ := h0.lotCell hv hk
    have f2 := hfr (k * 4 + 2)
    have f3 := hfr (k * 4 + 3)
    clear hfr
    cases hcl : S.lots[k].closed with
    | true =>
      have HF := Lib.hid (show shutF S ⟨[(k : Int) + 1], word, aok⟩ = ⟨7, S, bs []⟩ by unfold shutF; simp only [List.getD_cons_zero]; rw [hb, hget]; simp only [if_true]; rw [hcl]; rfl)
      rw [hcl] at c3
      clear hb h h0 hw0 hget
      go_enter Tryz.func260, Tryz.ntmps260
      go_wp2_with (go_at_call 263; rw [← HW0.out]; refine HLT.out.mono ?_; rintro e w1 ⟨rfl, rfl⟩)
      go_ret2
      exact ⟨by rw [HF.out]; rfl, V, (fun e => by rw [HF.out] at e; cases e), (Chg.refl base w V).after HK0.out⟩
    | false =>
      have HF := Lib.hid (show shutF S ⟨[(k : Int) + 1], word, aok⟩ = ⟨0, { S with lots := S.lots.set k { S.lots[k] with bay := -1, closed := true } }, bs [99, 108, 111, 115, 101]⟩ by unfold shutF; simp only [List.getD_cons_zero]; rw [hb, hget]; simp only [if_true]; rw [hcl, show ((k : Int) + 1 - 1).toNat = k by omega]; rfl)
      rw [hcl] at c3
      have H0 := Lib.hid h0; clear hb h h0 hw0 hget
      go_enter Tryz.func260, Tryz.ntmps260
      go_wp2_with (go_at_call 263; rw [← HW0.out]; refine HLT.out.mono ?_; rintro e w1 ⟨rfl, rfl⟩)
      go_ret2
      obtain ⟨h1, hc1⟩ := H0.out.setLot hv hk 3 (by omega) { S.lots[k] with closed := true } (.bool true) rfl
      obtain ⟨h2, hc2⟩ := h1.setLot (g := g) (cap := cap) (by simpa using hv) (i := k) (by simpa using hk) 2 (by omega) { S.lots[k] with bay := -1, closed := true } (.int .i64 (-1)) (by simp [lotCell])
      refine ⟨by rw [HF.out]; rfl, V, fun _ => ?_, (hc1.trans hc2).before HK0.out⟩
      rw [HF.out]
      simpa using h2
end Go.Proofs.YthdkamnclbfehaaGreatDoor

/- house.state.blend. -/
namespace Go.Proofs.YthdkamnclbfehaaGreatDoor
set_option linter.unusedSimpArgs false
set_option linter.unusedVariables false
set_option linter.unnecessarySimpa false
open Go.RowKit

def blendS (S : St) (i j q : Int) (x y : Lot) : St :=
  { S with lots := (S.lots.set (i - 1).toNat { x with grams := wrap64 (x.grams - q) }).set (j - 1).toNat { y with grams := wrap64 (y.grams - q) } }
def blendT (S : St) (i j q : Int) (x y : Lot) : St :=
  touchS (touchS (addS (blendS S i j q x y) ⟨bs [98, 108, 101, 110, 100], wrap64 (2 * q), -1, false⟩) ((S.lots.length : Int) + 1) i) ((S.lots.length : Int) + 1) j
def blendF (S : St) (a : FA) : Res :=
  if S.lots.length = 20 then ⟨9, S, bs []⟩
  else if allLots S [a.n.getD 0 0, a.n.getD 1 0] then
    (if a.n.getD 0 0 = a.n.getD 1 0 ∨ a.n.getD 2 0 = 0 then ⟨7, S, bs []⟩
     else match S.lots[(a.n.getD 0 0 - 1).toNat]?, S.lots[(a.n.getD 1 0 - 1).toNat]? with
      | some x, some y => if x.closed || (y.closed || decide (min x.grams y.grams < a.n.getD 2 0)) then ⟨7, S, bs []⟩
          else ⟨0, blendT S (a.n.getD 0 0) (a.n.getD 1 0) (a.n.getD 2 0) x y, bs [98, 108, 101, 110, 100] ++ (bs [32] ++ itoaB ((S.lots.length : Int) + 1))⟩
      | _, _ => ⟨5, S, bs []⟩)
  else ⟨5, S, bs []⟩

theorem touch_step {base b : Nat} {w : World} {V : StV} {S : St} {i j : Int} (hb : V.b = b) (hG : GW base w) (h : OSt base w V S) (hc : S.contacts.length ≤ 1000000000) (hn : S.notes.length ≤ 1000000000) (hi : i64b i) (hj : i64b j) :
    Calls Tryz.prog 264 #[.pointer (some ⟨b, 0, none⟩), .int .i64 i, .int .i64 j] w (TouchedPost base w V S i j) := by
  subst hb
  exact addTouch_any hG h hc hn hi hj
theorem OSt.lotCellX {base : Nat} {w : World} {V : StV} {S : St} (h : OSt base w V S) {g cap : Nat} (hv : V.vl = .slice (some ⟨g, 0, none⟩) S.lots.length cap) {i : Nat} {X : Lot} (hX : S.lots[i]? = some X) :
    (w.cell? ⟨g, i * 4, none⟩ = some (.string X.spice) ∧ w.cell? ⟨g, i * 4 + 1, none⟩ = some (.int .i64 X.grams) ∧ w.cell? ⟨g, i * 4 + 2, none⟩ = some (.int .i64 X.bay) ∧ w.cell? ⟨g, i * 4 + 3, none⟩ = some (.bool X.closed)) ∧ ∀ o, w.frozen? ⟨g, o, none⟩ = false := by
  obtain ⟨hi, rfl⟩ := List.getElem?_eq_some_iff.1 hX
  exact h.lotCell hv hi
theorem OSt.setLotX {base : Nat} {w : World} {V : StV} {S : St} (h : OSt base w V S) {g cap : Nat} (hv : V.vl = .slice (some ⟨g, 0, none⟩) S.lots.length cap) {i : Nat} {X : Lot} (hX : S.lots[i]? = some X) (f : Nat) (hf : f < 4) (x : Lot) (u : Value)
    (hx : Go.Proofs.YthdkamnclbfehaaGreatDoor.lotCell x = (Go.Proofs.YthdkamnclbfehaaGreatDoor.lotCell X).set f u) :
    OSt base (w.setCell ⟨g, i * 4 + f, none⟩ u) V { S with lots := S.lots.set i x } ∧ Chg base w V V (w.setCell ⟨g, i * 4 + f, none⟩ u) := by
  obtain ⟨hi, rfl⟩ := List.getElem?_eq_some_iff.1 hX
  exact h.setLot hv hi f hf x u hx

set_option maxHeartbeats 2500000 in
set_option maxRecDepth 100000 in
theorem blend_any {base : Nat} {w : World} {V : StV} {S : St} {vn : Value} {a : FA} (hG : GW base w) (h : OSt base w V S) (hl : S.small) (hcs : S.contacts.length ≤ 999999999) (hns : S.notes.length ≤ 999999999) (hl20 : S.lots.length ≤ 20) (ha : Args base w vn a) (hn : a.n.length = 3) (hbx : ∀ x ∈ a.n, i64b x) :
    Calls Tryz.prog 256 #[.pointer (some ⟨V.b, 0, none⟩), .agg #[vn, .string a.word]] w (RunPost base w V (blendF S a)) := by
  obtain ⟨nb, no, nc, rfl, hnc, hC⟩ := args_open h ha (by omega)
  obtain ⟨i, j, q, hx⟩ : ∃ i j q, a.n = [i, j, q] := by
    match a.n, hn with
    | [i, j, q], _ => exact ⟨i, j, q, rfl⟩
  obtain ⟨an, word, aok⟩ := a
  simp only at hx hn hnc hC hbx
  subst hx
  have hib := hbx i (by simp)
  have hjb := hbx j (by simp)
  have hqb := hbx q (by simp)
  change Calls Tryz.prog 256 #[.pointer (some ⟨V.b, 0, none⟩), .agg #[.slice (some ⟨nb, no, none⟩) 3 nc, .string word]] w (RunPost base w V (blendF S ⟨[i, j, q], word, aok⟩))
  obtain ⟨w0, hw0⟩ : ∃ w0, w0 = w.alloc (.cells #[.slice (some ⟨nb, no, none⟩) 3 nc, .string word] 134) := ⟨_, rfl⟩
  obtain ⟨b0, b1, b2⟩ := hC _ (Keep.refl _ _)
  have n0 := b2 0 (by simp)
  have n1 := b2 1 (by simp)
  have n2 := b2 2 (by simp)
  simp only [Nat.add_zero, List.getD_cons_zero, List.getD_cons_succ] at n0 n1 n2
  have b0' : (w.alloc (.cells #[.slice (some ⟨nb, no, none⟩) 3 nc, .string word] 134)).cell? ⟨w.heap.size, 0, none⟩ = some (.slice (some ⟨nb, no, none⟩) 3 nc) := b0
  have n0' : w0.cell? ⟨nb, no, none⟩ = some (.int .i64 i) := by rw [hw0]; exact n0
  have n1' : w0.cell? ⟨nb, no + 1, none⟩ = some (.int .i64 j) := by rw [hw0]; exact n1
  have n2' : w0.cell? ⟨nb, no + 2, none⟩ = some (.int .i64 q) := by rw [hw0]; exact n2
  rw [← hw0] at b0'
  have hnc1 : 3 ≤ nc := hnc
  have hk0 : Keep (fun _ => False) w w0 := by rw [hw0]; exact (Keep.refl _ _).alloc _
  have h0 := h.keep hk0 (fun _ _ h => h)
  obtain ⟨lo, lc, hvl, hlc, _⟩ := ownsRow_shape h.ol
  have c1 := h0.blk.cell 1
  simp [StV.cells] at c1
  rw [hvl] at c1
  have HI := Lib.hid hib; have HJ := Lib.hid hjb; have HQ := Lib.hid hqb; clear hib hjb hqb hbx
  have H0 := Lib.hid h0; clear h0
  have H := Lib.hid h; clear h
  have HL := Lib.hid hl; clear hl
  have HK0 := Lib.hid hk0; clear hk0
  have HW0 := Lib.hid hw0; clear hw0
  clear b0 b1 b2 n0 n1 n2 hC ha hnc hn
  by_cases h20 : S.lots.length = 20
  · have e20 : ((S.lots.length : Int) == 20) = true := by simp; omega
    have HF := Lib.hid (show blendF S ⟨[i, j, q], word, aok⟩ = ⟨9, S, bs []⟩ by unfold blendF; rw [if_pos h20])
    go_enter Tryz.func256, Tryz.ntmps256
    go_wp2
    rw [← HW0.out]
    go_quiet (fail)
    go_wp2
    go_ret2
    exact ⟨by rw [HF.out]; rfl, V, (fun e => by rw [HF.out] at e; cases e), (Chg.refl base w V).after (HK0.out.drewN _)⟩
  have e20 : ((S.lots.length : Int) == 20) = false := by simp; omega
  cases hall : allLots S [i, j] with
  | false =>
    have HF := Lib.hid (show blendF S ⟨[i, j, q], word, aok⟩ = ⟨5, S, bs []⟩ by unfold blendF; rw [if_neg h20]; simp only [List.getD_cons_zero, List.getD_cons_succ]; rw [hall]; rfl)
    go_enter Tryz.func256, Tryz.ntmps256
    go_wp2
    rw [← HW0.out]
    go_quiet (fail)
    have HALL := Lib.hid hall; clear hall
    go_wp2_with (go_at_call 262; have kk := (((Keep.refl (fun _ => False) w0).drewN nq).alloc (.cells #[.int .i64 i, .int .i64 j] 3)); have hh := there_any (l := [i, j]) ((H0.out.keep kk (fun _ _ h => h)).at (Nat.le_trans H0.out.lt kk.size)) HL.out.l (Rd.new (w0.drewN nq) 1 2 (icells [i, j]) 3 rfl (icells_one _) (by unfold maxLen; omega)) (by simp); rw [HALL.out] at hh; refine Calls.mono hh ?_; clear hh; rintro e w1 ⟨rfl, hk1⟩; have HK1 := Lib.hid (kk.trans hk1 (fun _ _ h => h)); clear hk1 kk)
    go_ret2
    exact ⟨by rw [HF.out]; rfl, V, (fun e => by rw [HF.out] at e; cases e), (Chg.refl base w V).after (HK0.out.trans HK1.out (fun _ _ h => h))⟩
  | true =>
    have hij : hasLot S i = true ∧ hasLot S j = true := by unfold allLots at hall; simpa using hall
    obtain ⟨k1, rfl, hk1⟩ := hasLot_at hij.1
    obtain ⟨k2, rfl, hk2⟩ := hasLot_at hij.2
    clear hij
    obtain ⟨g, cap, hv, hglt, hgb, hgne⟩ := H.out.lotRow (by omega)
    obtain ⟨X, hX⟩ : ∃ X, S.lots[k1]? = some X := ⟨_, List.getElem?_eq_getElem hk1⟩
    obtain ⟨Y, hY⟩ : ∃ Y, S.lots[k2]? = some Y := ⟨_, List.getElem?_eq_getElem hk2⟩
    have hg1 : S.lots[((k1 : Int) + 1 - 1).toNat]? = some X := by rw [show ((k1 : Int) + 1 - 1).toNat = k1 by omega]; exact hX
    have hg2 : S.lots[((k2 : Int) + 1 - 1).toNat]? = some Y := by rw [show ((k2 : Int) + 1 - 1).toNat = k2 by omega]; exact hY
    have HLT : Hid (∀ W, Keep (fun _ => False) w0 W → ∀ k, k < S.lots.length → Calls Tryz.prog 263 #[.pointer (some ⟨V.b, 0, none⟩), .int .i64 ((k : Int) + 1)] W fun e w' => e = .returned (.pointer (some ⟨g, k * 4, none⟩)) ∧ W = w') := Lib.hid fun W hk k hkl => by
      have hh := lot_any (i := (k : Int) + 1) ((H0.out.keep hk (fun _ _ h => h)).at (Nat.le_trans H0.out.lt hk.size)) HL.out.l
      unfold LotPost at hh
      rw [show hasLot S ((k : Int) + 1) = true by unfold hasLot; rw [decide_eq_true (by omega), decide_eq_true (by omega)]; rfl, if_pos rfl, lotPtr_at hv] at hh
      exact hh
    have hF0 : blendF S ⟨[(k1 : Int) + 1, (k2 : Int) + 1, q], word, aok⟩ = if (k1 : Int) + 1 = (k2 : Int) + 1 ∨ q = 0 then ⟨7, S, bs []⟩ else
        (if X.closed || (Y.closed || decide (min X.grams Y.grams < q)) then ⟨7, S, bs []⟩ else ⟨0, blendT S ((k1 : Int) + 1) ((k2 : Int) + 1) q X Y, bs [98, 108, 101, 110, 100] ++ (bs [32] ++ itoaB ((S.lots.length : Int) + 1))⟩) := by
      unfold blendF
      rw [if_neg h20]
      simp only [List.getD_cons_zero, List.getD_cons_succ]
      rw [hall, if_pos rfl, hg1, hg2]
    have HALL := Lib.hid hall; clear hall
    have HK1L := Lib.hid hk1
    have HK2L := Lib.hid hk2
    clear hg1 hg2 hvl
    have HX := Lib.hid hX; clear hX
    have HY := Lib.hid hY; clear hY
    by_cases h7 : (k1 : Int) + 1 = (k2 : Int) + 1 ∨ q = 0
    · rw [if_pos h7] at hF0
      have HF := Lib.hid hF0; clear hF0
      by_cases hk : k1 = k2
      · subst hk
        clear h7
        go_enter Tryz.func256, Tryz.ntmps256
        go_wp2
        rw [← HW0.out]
        go_quiet (fail)
        go_wp2_with (first
          | (go_at_call 262; have kk := (((Keep.refl (fun _ => False) w0).drewN nq).alloc (.cells #[.int .i64 ((k1 : Int) + 1), .int .i64 ((k1 : Int) + 1)] 3)); have hh := there_any (l := [((k1 : Int) + 1), ((k1 : Int) + 1)]) ((H0.out.keep kk (fun _ _ h => h)).at (Nat.le_trans H0.out.lt kk.size)) HL.out.l (Rd.new (w0.drewN nq) 1 2 (icells [((k1 : Int) + 1), ((k1 : Int) + 1)]) 3 rfl (icells_one _) (by unfold maxLen; omega)) (by simp); rw [HALL.out] at hh; refine Calls.mono hh ?_; clear hh; rintro e w1 ⟨rfl, hk1⟩; have HK1 := Lib.hid (kk.trans hk1 (fun _ _ h => h)); clear hk1 kk)
          | (go_at_call 263; refine Calls.mono (HLT.out w1 HK1.out _ (by first | exact HK1L.out | exact HK2L.out)) ?_; rintro e w' ⟨rfl, rfl⟩)
          | (go_at_call 263; refine Calls.mono (HLT.out w1 HK1.out _ (by first | exact HK1L.out | exact HK2L.out)) ?_; rintro e w' ⟨rfl, rfl⟩))
        go_ret2
        exact ⟨by rw [HF.out]; rfl, V, (fun e => by rw [HF.out] at e; cases e), (Chg.refl base w V).after (HK0.out.trans HK1.out (fun _ _ h => h))⟩
      · obtain rfl : q = 0 := by omega
        have hne2 : ((k1 : Int) == (k2 : Int)) = false := by simp; omega
        clear h7
        go_enter Tryz.func256, Tryz.ntmps256
        go_wp2
        rw [← HW0.out]
        go_quiet (fail)
        go_wp2_with (first
          | (go_at_call 262; have kk := (((Keep.refl (fun _ => False) w0).drewN nq).alloc (.cells #[.int .i64 ((k1 : Int) + 1), .int .i64 ((k2 : Int) + 1)] 3)); have hh := there_any (l := [((k1 : Int) + 1), ((k2 : Int) + 1)]) ((H0.out.keep kk (fun _ _ h => h)).at (Nat.le_trans H0.out.lt kk.size)) HL.out.l (Rd.new (w0.drewN nq) 1 2 (icells [((k1 : Int) + 1), ((k2 : Int) + 1)]) 3 rfl (icells_one _) (by unfold maxLen; omega)) (by simp); rw [HALL.out] at hh; refine Calls.mono hh ?_; clear hh; rintro e w1 ⟨rfl, hk1⟩; have HK1 := Lib.hid (kk.trans hk1 (fun _ _ h => h)); clear hk1 kk)
          | (go_at_call 263; refine Calls.mono (HLT.out w1 HK1.out _ (by first | exact HK1L.out | exact HK2L.out)) ?_; rintro e w' ⟨rfl, rfl⟩))
        go_ret2
        exact ⟨by rw [HF.out]; rfl, V, (fun e => by rw [HF.out] at e; cases e), (Chg.refl base w V).after (HK0.out.trans HK1.out (fun _ _ h => h))⟩
    · rw [if_neg h7] at hF0
      have hq0 : (q == 0) = false := by simp; omega
      have hne2 : ((k1 : Int) == (k2 : Int)) = false := by simp; omega
      have hkne : k1 ≠ k2 := by omega
      clear h7
      by_cases hcx : X.closed = true
      · have HF := Lib.hid (show blendF S ⟨[(k1 : Int) + 1, (k2 : Int) + 1, q], word, aok⟩ = ⟨7, S, bs []⟩ by rw [hF0, hcx]; rfl)
        have HCX := Lib.hid hcx; clear hcx hF0
        go_enter Tryz.func256, Tryz.ntmps256
        go_wp2
        rw [← HW0.out]
        go_quiet (fail)
        go_wp2_with (first
          | (go_at_call 262; have kk := (((Keep.refl (fun _ => False) w0).drewN nq).alloc (.cells #[.int .i64 ((k1 : Int) + 1), .int .i64 ((k2 : Int) + 1)] 3)); have hh := there_any (l := [((k1 : Int) + 1), ((k2 : Int) + 1)]) ((H0.out.keep kk (fun _ _ h => h)).at (Nat.le_trans H0.out.lt kk.size)) HL.out.l (Rd.new (w0.drewN nq) 1 2 (icells [((k1 : Int) + 1), ((k2 : Int) + 1)]) 3 rfl (icells_one _) (by unfold maxLen; omega)) (by simp); rw [HALL.out] at hh; refine Calls.mono hh ?_; clear hh; rintro e w1 ⟨rfl, hk1⟩; have HK1 := Lib.hid (kk.trans hk1 (fun _ _ h => h)); clear hk1 kk; obtain ⟨⟨_, x1, _, x3⟩, fr⟩ := (H0.out.keep HK1.out (fun _ _ h => h)).lotCellX hv HX.out; obtain ⟨⟨_, y1, _, y3⟩, _⟩ := (H0.out.keep HK1.out (fun _ _ h => h)).lotCellX hv HY.out; rw [HCX.out] at x3)
          | (go_at_call 263; refine Calls.mono (HLT.out w1 HK1.out _ (by first | exact HK1L.out | exact HK2L.out)) ?_; rintro e w' ⟨rfl, rfl⟩))
        go_quiet (fail)
        go_wp2
        go_ret2
        exact ⟨by rw [HF.out]; rfl, V, (fun e => by rw [HF.out] at e; cases e), (Chg.refl base w V).after ((HK0.out.trans HK1.out (fun _ _ h => h)).drewN _)⟩
      have hcx' : X.closed = false := by simpa using hcx
      by_cases hcy : Y.closed = true
      · have HF := Lib.hid (show blendF S ⟨[(k1 : Int) + 1, (k2 : Int) + 1, q], word, aok⟩ = ⟨7, S, bs []⟩ by rw [hF0, hcx', hcy]; rfl)
        have HCX := Lib.hid hcx'; have HCY := Lib.hid hcy; clear hcx hcx' hcy hF0
        go_enter Tryz.func256, Tryz.ntmps256
        go_wp2
        rw [← HW0.out]
        go_quiet (fail)
        go_wp2_with (first
          | (go_at_call 262; have kk := (((Keep.refl (fun _ => False) w0).drewN nq).alloc (.cells #[.int .i64 ((k1 : Int) + 1), .int .i64 ((k2 : Int) + 1)] 3)); have hh := there_any (l := [((k1 : Int) + 1), ((k2 : Int) + 1)]) ((H0.out.keep kk (fun _ _ h => h)).at (Nat.le_trans H0.out.lt kk.size)) HL.out.l (Rd.new (w0.drewN nq) 1 2 (icells [((k1 : Int) + 1), ((k2 : Int) + 1)]) 3 rfl (icells_one _) (by unfold maxLen; omega)) (by simp); rw [HALL.out] at hh; refine Calls.mono hh ?_; clear hh; rintro e w1 ⟨rfl, hk1⟩; have HK1 := Lib.hid (kk.trans hk1 (fun _ _ h => h)); clear hk1 kk; obtain ⟨⟨_, x1, _, x3⟩, fr⟩ := (H0.out.keep HK1.out (fun _ _ h => h)).lotCellX hv HX.out; obtain ⟨⟨_, y1, _, y3⟩, _⟩ := (H0.out.keep HK1.out (fun _ _ h => h)).lotCellX hv HY.out; rw [HCX.out] at x3; rw [HCY.out] at y3)
          | (go_at_call 263; refine Calls.mono (HLT.out w1 HK1.out _ (by first | exact HK1L.out | exact HK2L.out)) ?_; rintro e w' ⟨rfl, rfl⟩))
        go_quiet (fail)
        go_wp2
        go_ret2
        exact ⟨by rw [HF.out]; rfl, V, (fun e => by rw [HF.out] at e; cases e), (Chg.refl base w V).after ((HK0.out.trans HK1.out (fun _ _ h => h)).drewN _)⟩
      have hcy' : Y.closed = false := by simpa using hcy
      by_cases hm : min X.grams Y.grams < q
      · have HF := Lib.hid (show blendF S ⟨[(k1 : Int) + 1, (k2 : Int) + 1, q], word, aok⟩ = ⟨7, S, bs []⟩ by rw [hF0, hcx', hcy', decide_eq_true hm]; rfl)
        have HCX := Lib.hid hcx'; have HCY := Lib.hid hcy'; clear hcx hcx' hcy hcy' hF0
        have hmd : decide (min X.grams Y.grams < q) = true := decide_eq_true hm
        clear hm
        go_enter Tryz.func256, Tryz.ntmps256
        go_wp2
        rw [← HW0.out]
        go_quiet (fail)
        go_wp2_with (first
          | (go_at_call 262; have kk := (((Keep.refl (fun _ => False) w0).drewN nq).alloc (.cells #[.int .i64 ((k1 : Int) + 1), .int .i64 ((k2 : Int) + 1)] 3)); have hh := there_any (l := [((k1 : Int) + 1), ((k2 : Int) + 1)]) ((H0.out.keep kk (fun _ _ h => h)).at (Nat.le_trans H0.out.lt kk.size)) HL.out.l (Rd.new (w0.drewN nq) 1 2 (icells [((k1 : Int) + 1), ((k2 : Int) + 1)]) 3 rfl (icells_one _) (by unfold maxLen; omega)) (by simp); rw [HALL.out] at hh; refine Calls.mono hh ?_; clear hh; rintro e w1 ⟨rfl, hk1⟩; have HK1 := Lib.hid (kk.trans hk1 (fun _ _ h => h)); clear hk1 kk; obtain ⟨⟨_, x1, _, x3⟩, fr⟩ := (H0.out.keep HK1.out (fun _ _ h => h)).lotCellX hv HX.out; obtain ⟨⟨_, y1, _, y3⟩, _⟩ := (H0.out.keep HK1.out (fun _ _ h => h)).lotCellX hv HY.out; rw [HCX.out] at x3; rw [HCY.out] at y3)
          | (go_at_call 263; refine Calls.mono (HLT.out w1 HK1.out _ (by first | exact HK1L.out | exact HK2L.out)) ?_; rintro e w' ⟨rfl, rfl⟩))
        go_quiet (fail)
        go_wp2
        go_ret2
        exact ⟨by rw [HF.out]; rfl, V, (fun e => by rw [HF.out] at e; cases e), (Chg.refl base w V).after ((HK0.out.trans HK1.out (fun _ _ h => h)).drewN _)⟩
      have HF := Lib.hid (show blendF S ⟨[(k1 : Int) + 1, (k2 : Int) + 1, q], word, aok⟩ = ⟨0, blendT S ((k1 : Int) + 1) ((k2 : Int) + 1) q X Y, bs [98, 108, 101, 110, 100] ++ (bs [32] ++ itoaB ((S.lots.length : Int) + 1))⟩ by rw [hF0, hcx', hcy', decide_eq_false hm]; rfl)
      have HCX := Lib.hid hcx'; have HCY := Lib.hid hcy'; clear hcx hcx' hcy hcy' hF0
      have hmd : decide (min X.grams Y.grams < q) = false := decide_eq_false hm
      clear hm
      have hn41 : k1 * 4 + 1 ≠ k2 * 4 + 1 := by omega
      have hn42 : k2 * 4 + 1 ≠ k1 * 4 + 1 := by omega
      have hit : (9223372036854775807 < 5 + (1 + (itoaB ((S.lots.length : Int) + 1)).size)) = False := eq_false (by have := itoaB_size ((S.lots.length : Int) + 1) (by omega) (by omega); omega)
      go_enter Tryz.func256, Tryz.ntmps256
      go_wp2
      rw [← HW0.out]
      go_quiet (fail)
      go_wp2_with (first
        | (go_at_call 262; have kk := (((Keep.refl (fun _ => False) w0).drewN nq).alloc (.cells #[.int .i64 ((k1 : Int) + 1), .int .i64 ((k2 : Int) + 1)] 3)); have hh := there_any (l := [((k1 : Int) + 1), ((k2 : Int) + 1)]) ((H0.out.keep kk (fun _ _ h => h)).at (Nat.le_trans H0.out.lt kk.size)) HL.out.l (Rd.new (w0.drewN nq) 1 2 (icells [((k1 : Int) + 1), ((k2 : Int) + 1)]) 3 rfl (icells_one _) (by unfold maxLen; omega)) (by simp); rw [HALL.out] at hh; refine Calls.mono hh ?_; clear hh; rintro e w1 ⟨rfl, hk1⟩; have HK1 := Lib.hid (kk.trans hk1 (fun _ _ h => h)); clear hk1 kk; obtain ⟨⟨_, x1, _, x3⟩, fr⟩ := (H0.out.keep HK1.out (fun _ _ h => h)).lotCellX hv HX.out; obtain ⟨⟨_, y1, _, y3⟩, _⟩ := (H0.out.keep HK1.out (fun _ _ h => h)).lotCellX hv HY.out; rw [HCX.out] at x3; rw [HCY.out] at y3; have fx1 := fr (k1 * 4 + 1); have fy1 := fr (k2 * 4 + 1))
        | (go_at_call 263; refine Calls.mono (HLT.out w1 HK1.out _ (by first | exact HK1L.out | exact HK2L.out)) ?_; rintro e w' ⟨rfl, rfl⟩))
      go_quiet (fail)
      have hlenB : (blendS S ((k1 : Int) + 1) ((k2 : Int) + 1) q X Y).lots.length = S.lots.length := by simp [blendS]
      have hlenC : (addS (blendS S ((k1 : Int) + 1) ((k2 : Int) + 1) q X Y) ⟨⟨#[98, 108, 101, 110, 100]⟩, wrap64 (2 * q), -1, false⟩).lots.length = S.lots.length + 1 := by simp [addS, blendS]
      have hlenD : (touchS (addS (blendS S ((k1 : Int) + 1) ((k2 : Int) + 1) q X Y) ⟨⟨#[98, 108, 101, 110, 100]⟩, wrap64 (2 * q), -1, false⟩) ((S.lots.length : Int) + 1) ((k1 : Int) + 1)).lots.length = S.lots.length + 1 := by simp [touchS, addS, blendS]
      go_wp2_with (first
        | (go_at_call 261; have h2 := (H0.out.keep HK1.out (fun _ _ h => h)).keep ((Keep.refl (fun _ => False) w1).drewN nq) (fun _ _ h => h); obtain ⟨h3, hc3⟩ := h2.setLotX hv HX.out 1 (by omega) { X with grams := wrap64 (X.grams - q) } (.int .i64 (wrap64 (X.grams - q))) rfl; obtain ⟨h4, hc4⟩ := h3.setLotX (g := g) (cap := cap) (by simpa using hv) (i := k2) (X := Y) (by rw [List.getElem?_set_ne hkne]; exact HY.out) 1 (by omega) { Y with grams := wrap64 (Y.grams - q) } (.int .i64 (wrap64 (Y.grams - q))) rfl; have h4' : OSt base (((w1.drewN nq).setCell ⟨g, k1 * 4 + 1, none⟩ (.int .i64 (wrap64 (X.grams - q)))).setCell ⟨g, k2 * 4 + 1, none⟩ (.int .i64 (wrap64 (Y.grams - q)))) V (blendS S ((k1 : Int) + 1) ((k2 : Int) + 1) q X Y) := (by unfold blendS; rw [show ((k1 : Int) + 1 - 1).toNat = k1 by omega, show ((k2 : Int) + 1 - 1).toNat = k2 by omega]; exact h4); have hcw := (hc3.trans hc4).before ((HK0.out.trans HK1.out (fun _ _ h => h)).drewN nq); have hh := add_any (x := ⟨⟨#[98, 108, 101, 110, 100]⟩, wrap64 (2 * q), -1, false⟩) (hG.keep hcw.keep (fun i hi e => by have := e.1; omega)) h4' (by rw [hlenB]; omega); refine Calls.mono hh ?_; clear hh; rintro e w5 ⟨V5, rfl, ho5, hc5⟩; rw [hlenB]; have hc05 := hcw.trans hc5; obtain ⟨l5, q5, hv5, _⟩ := ownsRow_shape ho5.ol; have c5 := ho5.blk.cell 1; simp [StV.cells] at c5; rw [hv5, hlenC, hc5.b] at c5; have HTO : Hid (∀ jj, (jj = ((k1 : Int) + 1) ∨ jj = ((k2 : Int) + 1)) → Calls Tryz.prog 264 #[.pointer (some ⟨V.b, 0, none⟩), .int .i64 ((S.lots.length : Int) + 1), .int .i64 jj] w5 (TouchedPost base w5 V5 (addS (blendS S ((k1 : Int) + 1) ((k2 : Int) + 1) q X Y) ⟨⟨#[98, 108, 101, 110, 100]⟩, wrap64 (2 * q), -1, false⟩) ((S.lots.length : Int) + 1) jj)) := Lib.hid (fun jj hjj => touch_step hc5.b (hG.keep hc05.keep (fun i hi e => by have := e.1; omega)) ho5 (by simp [addS, blendS]; omega) (by simp [addS, blendS]; omega) (by unfold i64b; omega) (by rcases hjj with rfl | rfl; exact HI.out; exact HJ.out)); have HNEXT : Hid True := Lib.hid trivial; have HC5 := Lib.hid hc05; have HO5 := Lib.hid ho5; clear h2 h3 h4 hc3 hc4 h4' hcw hc5 ho5 hv5 hc05)
        | (go_at_call 264; have hno5 := HNEXT.out; clear HNEXT; refine Calls.mono (HTO.out _ (by simp)) ?_; rintro e w6 ⟨V6, rfl, ho6, hc6⟩; have hb6 : V6.b = V.b := hc6.b.trans HC5.out.b; have hc06 := HC5.out.trans hc6; obtain ⟨l6, q6, hv6, _⟩ := ownsRow_shape ho6.ol; have c6 := ho6.blk.cell 1; simp [StV.cells] at c6; rw [hv6, hb6, hlenD] at c6; have HTP : Hid (∀ jj, (jj = ((k1 : Int) + 1) ∨ jj = ((k2 : Int) + 1)) → Calls Tryz.prog 264 #[.pointer (some ⟨V.b, 0, none⟩), .int .i64 ((S.lots.length : Int) + 1), .int .i64 jj] w6 (TouchedPost base w6 V6 (touchS (addS (blendS S ((k1 : Int) + 1) ((k2 : Int) + 1) q X Y) ⟨⟨#[98, 108, 101, 110, 100]⟩, wrap64 (2 * q), -1, false⟩) ((S.lots.length : Int) + 1) ((k1 : Int) + 1)) ((S.lots.length : Int) + 1) jj)) := Lib.hid (fun jj hjj => touch_step hb6 (hG.keep hc06.keep (fun i hi e => by have := e.1; omega)) ho6 (by simp [touchS, addS, blendS]; omega) (by simp [touchS, addS, blendS]; omega) (by unfold i64b; omega) (by rcases hjj with rfl | rfl; exact HI.out; exact HJ.out)); have HC6 := Lib.hid hc06; have HO6 := Lib.hid ho6; clear hc6 ho6 hv6 hc06 hno5)
        | (go_at_call 264; refine Calls.mono (HTP.out _ (by simp)) ?_; rintro e w7 ⟨V7, rfl, ho7, hc7⟩; have HC7 := Lib.hid (HC6.out.trans hc7); have HO7 := Lib.hid ho7; clear ho7 hc7))
      go_ret2
      exact ⟨by rw [HF.out]; rfl, V7, fun _ => by rw [HF.out]; exact HO7.out, HC7.out⟩
end Go.Proofs.YthdkamnclbfehaaGreatDoor
