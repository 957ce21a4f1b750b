/- history.locks.hinders: who hinders an operation. -/
import Derived.Test.YthdkamnclbfehaaGreatDoorSerialM8
import Derived.Test.YthdkamnclbfehaaGreatDoorSerialM9
import Derived.Test.YthdkamnclbfehaaGreatDoorSerialM19
import Derived.Test.YthdkamnclbfehaaGreatDoorSerialM10
import Derived.Deep.LoopGhost
import Derived.Deep.DeepCutAuto
import Derived.StillTailTactics
import Derived.Test.YthdkamnclbfehaaGreatDoorSerialM5
/- history.locks.hinders: who hinders an operation. -/
namespace Go.Proofs.YthdkamnclbfehaaGreatDoor
set_option linter.unusedSimpArgs false
set_option linter.unusedVariables false
set_option linter.unnecessarySimpa false
open Go.RowKit
def HindP (x txn kind : Int) (f : Int → Option Value) (y : Int) : Prop := (x ≠ 0 ∧ x ≠ txn ∧ y = x) ∨ (kind = 1 ∧ (kI y).wf = true ∧ (f y).isSome = true ∧ y ≠ txn)
def HindPost (w : World) (x txn kind : Int) (f : Int → Option Value) (n : Nat) (e : Ending) (w' : World) : Prop :=
  ∃ v l, e = .returned v ∧ w'.ownsRow w.heap.size 3 1 v l.length (icells l) ∧ (∀ y, y ∈ l ↔ HindP x txn kind f y) ∧ l.length ≤ n + 1 ∧ Keep (fun _ => False) w w'
set_option maxHeartbeats 1600000 in
set_option maxRecDepth 100000 in
theorem hinders_some {w : World} {r b n k : Nat} {x txn kind : Int} {f : Int → Option Value} (hk : k < 6) (hm : w.cell? ⟨r, k, none⟩ = some (.map (some b))) (hx : w.cell? ⟨r, 6 + k, none⟩ = some (.int .i64 x)) (hf : MapAt w b n f) (hn : n ≤ 1000) :
    Calls Tryz.prog 150 #[.pointer (some ⟨r, 0, none⟩), .agg #[.int .i64 txn, .int .i64 kind, .int .i64 k]] w (HindPost w x txn kind f n) := by
  have hk6 : ((k : Int) < 6) = True := eq_true (by omega)
  have hk0 : ((0 : Int) ≤ (k : Int)) = True := eq_true (by omega)
  have hr : r < w.heap.size := World.block_lt_of_cell? _ _ hm
  have HF := Lib.hid hf; clear hf
  have HK := Lib.hid hk; clear hk
  go_enter Tryz.func150, Tryz.ntmps150
  go_wp2_with fail
  obtain ⟨w1, hw1⟩ : ∃ w1, w1 = w.alloc (.cells #[.int .i64 txn, .int .i64 kind, .int .i64 k] 146) := ⟨_, rfl⟩
  have HK1 : Hid (Keep (fun _ => False) w w1) := Lib.hid (by rw [hw1]; exact (Keep.refl _ _).alloc _)
  have HB1 : Hid (Blk w1 w.heap.size #[.int .i64 txn, .int .i64 kind, .int .i64 k] 146) := Lib.hid (by rw [hw1]; exact Blk.new _ _ _)
  have c0 : w1.cell? ⟨w.heap.size, 0, none⟩ = some (.int .i64 txn) := HB1.out.cell 0
  have c1 : w1.cell? ⟨w.heap.size, 1, none⟩ = some (.int .i64 kind) := HB1.out.cell 1
  have c2 : w1.cell? ⟨w.heap.size, 2, none⟩ = some (.int .i64 k) := HB1.out.cell 2
  have hm1 : w1.cell? ⟨r, k, none⟩ = some (.map (some b)) := (HK1.out.cell (p := ⟨r, k, none⟩) hr (fun h => h)).trans hm
  have hx1 : w1.cell? ⟨r, 6 + k, none⟩ = some (.int .i64 x) := (HK1.out.cell (p := ⟨r, 6 + k, none⟩) hr (fun h => h)).trans hx
  rw [← hw1]
  have HM := Lib.hid hm; clear hw1 hm hx
  go_quiet (fail)
  go_upto_region 3 with fail
  go_cut [22] from 8 to 26 (fun s22 wx => s22 = .bool (x != 0 && x != txn) ∧ Keep (fun _ => False) w1 wx)
  case first =>
    cases h0 : (x != 0) with
    | false => go_wp2_with fail; go_meet; exact ⟨by rw [h0]; rfl, (Keep.refl _ _).drewN _⟩
    | true =>
      cases h1 : (x != txn) with
      | false => go_wp2_with fail; go_meet; exact ⟨by rw [h0, h1]; rfl, (Keep.refl _ _).drewN _⟩
      | true => go_wp2_with fail; go_meet; exact ⟨by rw [h0, h1]; rfl, (Keep.refl _ _).drewN _⟩
  case rest =>
    obtain ⟨rfl, hk2⟩ := hcut
    obtain ⟨w2, hw2⟩ : ∃ w2, w2 = wc := ⟨_, rfl⟩
    rw [← hw2] at hk2 ⊢; clear hw2
    have d0 : w2.cell? ⟨w.heap.size, 0, none⟩ = some (.int .i64 txn) := (HB1.out.keep hk2 (fun h => h)).cell 0
    have d1 : w2.cell? ⟨w.heap.size, 1, none⟩ = some (.int .i64 kind) := (HB1.out.keep hk2 (fun h => h)).cell 1
    have d2 : w2.cell? ⟨w.heap.size, 2, none⟩ = some (.int .i64 k) := (HB1.out.keep hk2 (fun h => h)).cell 2
    have HB2 := Lib.hid (HB1.out.keep hk2 (fun h => h))
    have HK2 := Lib.hid (HK1.out.trans hk2 (fun _ _ h => h))
    clear hk2
    go_upto_if 22 with fail
    go_cut [5] from 8 to 26 (fun s5 wx => ∃ l : List Int, wx.ownsRow w.heap.size 3 1 s5 l.length (icells l) ∧ (∀ y, y ∈ l ↔ (x ≠ 0 ∧ x ≠ txn ∧ y = x)) ∧ l.length ≤ 1 ∧ Keep (fun _ => False) w2 wx)
    case first =>
      cases hb : (x != 0 && x != txn) with
      | false =>
        go_wp2_with fail
        go_meet
        refine ⟨[], World.ownsRow_nil _ _ _ _, fun y => ?_, by simp, Keep.refl _ _⟩
        simp only [List.not_mem_nil, false_iff]
        rintro ⟨q1, q2, q3⟩
        simp [q1, q2] at hb
      | true =>
        have HBT := Lib.hid hb
        have hsz := HK2.out.size
        go_wp2_with (at_builtin; refine wpList_app (w := w2.alloc (.cells #[.int .i64 x] 3)) rfl (.tmp 23) (.tmp 25) 34 34 rfl 3 (.int .i64 0) 1 8 Tryz.underlying34 info3 rfl (World.ownsRow_nil _ w.heap.size 3 1) rfl (Src.new (P := Tryz.prog) Tryz.underlying34 w2 1 [.int .i64 x] 3 rfl (by simp [Value.oneCell'])) rfl (by unfold maxLen; omega) (by omega) (Nat.le_trans hsz ((Keep.refl (fun _ => False) w2).alloc (.cells #[.int .i64 x] 3)).size) (fun v' w7 happ => ?_))
        go_meet
        refine ⟨[x], by simpa [icells] using happ.own, fun y => ?_, by simp, ((Keep.refl (fun _ => False) w2).alloc _).trans happ.keep (fun _ _ h => by cases h)⟩
        have hb2 := HBT.out
        simp only [Bool.and_eq_true, bne_iff_ne] at hb2
        simp [hb2.1, hb2.2]
    case rest =>
      obtain ⟨l0, ho0, hl0, hn0, hk3⟩ := hcut
      obtain ⟨w3, hw3⟩ : ∃ w3, w3 = wc := ⟨_, rfl⟩
      rw [← hw3] at ho0 hk3 ⊢; clear hw3
      have HK3 := Lib.hid (HK2.out.trans hk3 (fun _ _ h => h))
      have HB3 := Lib.hid ((HB1.out.keep (Keep.refl (fun _ => False) _) (fun h => h)))
      have e0 : w3.cell? ⟨w.heap.size, 0, none⟩ = some (.int .i64 txn) := (hk3.cell (p := ⟨w.heap.size, 0, none⟩) (World.block_lt_of_cell? _ _ d0) (fun h => h)).trans d0
      have e1 : w3.cell? ⟨w.heap.size, 1, none⟩ = some (.int .i64 kind) := (hk3.cell (p := ⟨w.heap.size, 1, none⟩) (World.block_lt_of_cell? _ _ d1) (fun h => h)).trans d1
      have e2 : w3.cell? ⟨w.heap.size, 2, none⟩ = some (.int .i64 k) := (hk3.cell (p := ⟨w.heap.size, 2, none⟩) (World.block_lt_of_cell? _ _ d2) (fun h => h)).trans d2
      have hm3 : w3.cell? ⟨r, k, none⟩ = some (.map (some b)) := (HK3.out.cell (p := ⟨r, k, none⟩) hr (fun h => h)).trans HM.out
      obtain ⟨w4, cnt, hrun, hrg, hcnt, hk4, hs4⟩ := ((HF.out.keep HK3.out (fun h => h)).keep ((Keep.refl (fun _ => False) w3).drew) (fun h => h)).range Tryz.underlying194
      have HRG := Lib.hid hrg
      have HK4 := Lib.hid (hk3.trans (((Keep.refl (fun _ => False) w3).drew).trans hk4 (fun _ _ h => h)) (fun _ _ h => h))
      have HO4 := Lib.hid (ownsRow_keep ho0 (((Keep.refl (fun _ => False) w3).drew).trans hk4 (fun _ _ h => h)) (fun _ _ h => h))
      have HL0 := Lib.hid hl0
      have HW23 := Lib.hid hk3.size
      clear hk3 hk4 hrg ho0 hl0 c0 c1 c2 d0 d1 d2 hm1 hx1
      go_upto_region 5 with fail
      go_still_tail 7, (by kernel_rfl)
      change wpList _ _ _ _ _ w3.drew
      go_wp2_with fail
      go_loopw [5] (fun v wr => ∃ (l : List Int) (left : Int → Bool) (cnt : Nat), RangeAt wr b w3.heap.size n f left cnt ∧ wr.ownsRow w.heap.size 3 1 v l.length (icells l) ∧ l.length + cnt ≤ n + 1 ∧
        (∀ y, y ∈ l ↔ (x ≠ 0 ∧ x ≠ txn ∧ y = x) ∨ (kind = 1 ∧ (kI y).wf = true ∧ (f y).isSome = true ∧ left y = false ∧ y ≠ txn)) ∧ Keep (fun _ => False) w wr ∧ Blk wr w.heap.size #[.int .i64 txn, .int .i64 kind, .int .i64 k] 146)
        (fun _ wr => wr.rangeLeft b w3.heap.size)
      case atStart =>
        refine ⟨l0, _, cnt, HRG.out, HO4.out, by omega, fun y => (HL0.out y).trans ⟨fun h => .inl h, fun h => h.elim id ?_⟩, HK2.out.trans HK4.out (fun _ _ h => h), HB2.out.keep HK4.out (fun h => h)⟩
        rintro ⟨_, _, h1, h2, _⟩
        rw [h1] at h2; cases h2
      case round =>
        obtain ⟨l, left, cnt2, hrg, hown, hlen, hl, hkw, hbk⟩ := hrel
        have hge : w.heap.size ≤ w3.heap.size := HK3.out.size
        have HOW := Lib.hid hown; have HL := Lib.hid hl; have HKW := Lib.hid hkw
        obtain ⟨ov, oc, rfl, hol, _⟩ := ownsRow_shape hown
        rcases hrg.next 0 with ⟨h0, hlf, hrun⟩ | ⟨y, v, w5, cnt3, hwf, hly, hfy, hrun, hrg5, hlt, hk5, hs5, hen⟩
        · have HLF := Lib.hid hlf
          clear hl hkw hbk hrg hlf hown
          go_wp2_with fail
          go_ret
          refine ⟨_, l, rfl, HOW.out, fun y => (HL.out y).trans ⟨fun h => h.elim .inl (fun q => .inr ⟨q.1, q.2.1, q.2.2.1, q.2.2.2.2⟩), fun h => h.elim .inl (fun q => .inr ⟨q.1, q.2.1, q.2.2.1, HLF.out y q.2.1, q.2.2.2⟩)⟩, by omega, HKW.out⟩
        · have hne : w.heap.size ≠ w3.heap.size := by have := HB2.out.lt; have := HK4.out.size; have := HW23.out; omega
          have hb5 := hbk.keep hk5 hne
          have f0 := hb5.cell 0
          have f1 := hb5.cell 1
          simp at f0 f1
          have HR5 := Lib.hid hrg5; have HK5 := Lib.hid hk5
          have HO5 := Lib.hid (ownsRow_keep HOW.out hk5 (fun g hg e => by
            obtain ⟨cur, fz, hc⟩ := ownsRow_cells HOW.out hg
            obtain ⟨D, lf, ⟨es, clock, since, seen, c0, hm, F, e2, e3, hr, _⟩, _⟩ := hrg
            have e' : g = w3.heap.size := e
            rw [e', hr] at hc; cases hc))
          have HLY := Lib.hid hly; have HFY := Lib.hid hfy; have HWF := Lib.hid hwf
          have hlft := hrg.left_eq
          have HB5 := Lib.hid hb5
          have HLT := Lib.hid (And.intro hlft hlt)
          have HKW5 := Lib.hid (hkw.trans hk5 (fun i hi e => by have e' : i = w3.heap.size := e; omega))
          have hs5' : w.heap.size ≤ w5.heap.size := HKW5.out.size
          clear hl hkw hbk hrg hown hrg5 hk5 hb5 hly hfy hwf hlft hlt hs5
          cases hkd : (kind == 1) with
          | false =>
            go_wp2_with fail
            go_roundw
            case rel =>
              refine ⟨l, _, cnt3, HR5.out, HO5.out, by have := HLT.out.2; omega, fun z => (HL.out z).trans ?_, HKW5.out, HB5.out⟩
              have hk1 : kind ≠ 1 := by simpa using hkd
              simp [hk1]
            case measure => rw [HR5.out.left_eq, HLT.out.1]; exact HLT.out.2
          | true =>
            have hk1 : kind = 1 := by simpa using hkd
            have HK1' := Lib.hid hk1
            clear hk1
            cases hyt : (y != txn) with
            | false =>
              have hy1 : y = txn := by simpa using hyt
              have HY := Lib.hid hy1; clear hy1
              go_wp2_with fail
              go_roundw
              case rel =>
                refine ⟨l, _, cnt3, HR5.out, HO5.out, by have := HLT.out.2; omega, fun z => (HL.out z).trans ?_, HKW5.out, HB5.out⟩
                constructor
                · rintro (h | ⟨q1, q2, q3, q4, q5⟩)
                  · exact .inl h
                  · exact .inr ⟨q1, q2, q3, by rw [q4]; rfl, q5⟩
                · rintro (h | ⟨q1, q2, q3, q4, q5⟩)
                  · exact .inl h
                  · refine .inr ⟨q1, q2, q3, ?_, q5⟩
                    have : (z == y) = false := by rw [HY.out]; simpa using q5
                    simpa [this] using q4
              case measure => rw [HR5.out.left_eq, HLT.out.1]; exact HLT.out.2
            | true =>
              have hy1 : y ≠ txn := by simpa using hyt
              have HY := Lib.hid hy1; clear hy1
              go_wp2_with (at_builtin; refine wpList_app (w := w5.alloc (.cells #[.int .i64 y] 3)) rfl (.tmp 48) (.tmp 50) 34 34 rfl 3 (.int .i64 0) 1 8 Tryz.underlying34 info3 rfl (HO5.out.alloc _) rfl (Src.new (P := Tryz.prog) Tryz.underlying34 w5 1 [.int .i64 y] 3 rfl (by simp [Value.oneCell'])) rfl (by unfold maxLen; omega) (by omega) (Nat.le_trans hs5' ((Keep.refl (fun _ => False) w5).alloc (.cells #[.int .i64 y] 3)).size) (fun v' w7 happ => ?_))
              have hk57 := ((Keep.refl (fun _ => False) w5).alloc (.cells #[.int .i64 y] 3))
              go_roundw
              case rel =>
                have hlen2 := HLT.out.2
                refine ⟨l ++ [y], _, cnt3, (HR5.out.keep hk57 (fun h => h) (fun h => h)).keepRow (HO5.out.alloc _) happ.keep, by simpa [icells] using happ.own, by simp; omega, fun z => ?_, (HKW5.out.trans hk57 (fun _ _ h => h)).trans happ.keep (fun i hi e => by have := (ownsRow_lt HO5.out i e).1; omega), (HB5.out.keep hk57 (fun h => h)).keep happ.keep (fun e => ownsRow_blk HO5.out HB5.out (by decide) e)⟩
                rw [List.mem_append, HL.out z]
                constructor
                · rintro ((h | ⟨q1, q2, q3, q4, q5⟩) | h)
                  · exact .inl h
                  · exact .inr ⟨q1, q2, q3, by rw [q4]; rfl, q5⟩
                  · have hz : z = y := by simpa using h
                    subst hz
                    exact .inr ⟨HK1'.out, HWF.out, by rw [HFY.out]; rfl, by simp, HY.out⟩
                · rintro (h | ⟨q1, q2, q3, q4, q5⟩)
                  · exact .inl (.inl h)
                  · by_cases hzy : z = y
                    · exact .inr (by simp [hzy])
                    · refine .inl (.inr ⟨q1, q2, q3, ?_, q5⟩)
                      have : (z == y) = false := by simpa using hzy
                      simpa [this] using q4
              case measure =>
                rw [((HR5.out.keep hk57 (fun h => h) (fun h => h)).keepRow (HO5.out.alloc _) happ.keep).left_eq, HLT.out.1]; exact HLT.out.2
set_option maxHeartbeats 1600000 in
set_option maxRecDepth 100000 in
theorem hinders_nil {w : World} {r n k : Nat} {x txn kind : Int} (hk : k < 6) (hm : w.cell? ⟨r, k, none⟩ = some (.map none)) (hx : w.cell? ⟨r, 6 + k, none⟩ = some (.int .i64 x)) :
    Calls Tryz.prog 150 #[.pointer (some ⟨r, 0, none⟩), .agg #[.int .i64 txn, .int .i64 kind, .int .i64 k]] w (HindPost w x txn kind (fun _ => none) n) := by
  have hk6 : ((k : Int) < 6) = True := eq_true (by omega)
  have hk0 : ((0 : Int) ≤ (k : Int)) = True := eq_true (by omega)
  have hr : r < w.heap.size := World.block_lt_of_cell? _ _ hm
  have HK := Lib.hid hk; clear hk
  go_enter Tryz.func150, Tryz.ntmps150
  go_wp2_with fail
  obtain ⟨w1, hw1⟩ : ∃ w1, w1 = w.alloc (.cells #[.int .i64 txn, .int .i64 kind, .int .i64 k] 146) := ⟨_, rfl⟩
  have HK1 : Hid (Keep (fun _ => False) w w1) := Lib.hid (by rw [hw1]; exact (Keep.refl _ _).alloc _)
  have HB1 : Hid (Blk w1 w.heap.size #[.int .i64 txn, .int .i64 kind, .int .i64 k] 146) := Lib.hid (by rw [hw1]; exact Blk.new _ _ _)
  have c0 : w1.cell? ⟨w.heap.size, 0, none⟩ = some (.int .i64 txn) := HB1.out.cell 0
  have c1 : w1.cell? ⟨w.heap.size, 1, none⟩ = some (.int .i64 kind) := HB1.out.cell 1
  have c2 : w1.cell? ⟨w.heap.size, 2, none⟩ = some (.int .i64 k) := HB1.out.cell 2
  have hm1 : w1.cell? ⟨r, k, none⟩ = some (.map none) := (HK1.out.cell (p := ⟨r, k, none⟩) hr (fun h => h)).trans hm
  have hx1 : w1.cell? ⟨r, 6 + k, none⟩ = some (.int .i64 x) := (HK1.out.cell (p := ⟨r, 6 + k, none⟩) hr (fun h => h)).trans hx
  rw [← hw1]
  have HM := Lib.hid hm; clear hw1 hm hx
  go_quiet (fail)
  go_upto_region 3 with fail
  go_cut [22] from 8 to 26 (fun s22 wx => s22 = .bool (x != 0 && x != txn) ∧ Keep (fun _ => False) w1 wx)
  case first =>
    cases h0 : (x != 0) with
    | false => go_wp2_with fail; go_meet; exact ⟨by rw [h0]; rfl, (Keep.refl _ _).drewN _⟩
    | true =>
      cases h1 : (x != txn) with
      | false => go_wp2_with fail; go_meet; exact ⟨by rw [h0, h1]; rfl, (Keep.refl _ _).drewN _⟩
      | true => go_wp2_with fail; go_meet; exact ⟨by rw [h0, h1]; rfl, (Keep.refl _ _).drewN _⟩
  case rest =>
    obtain ⟨rfl, hk2⟩ := hcut
    obtain ⟨w2, hw2⟩ : ∃ w2, w2 = wc := ⟨_, rfl⟩
    rw [← hw2] at hk2 ⊢; clear hw2
    have d0 : w2.cell? ⟨w.heap.size, 0, none⟩ = some (.int .i64 txn) := (HB1.out.keep hk2 (fun h => h)).cell 0
    have d1 : w2.cell? ⟨w.heap.size, 1, none⟩ = some (.int .i64 kind) := (HB1.out.keep hk2 (fun h => h)).cell 1
    have d2 : w2.cell? ⟨w.heap.size, 2, none⟩ = some (.int .i64 k) := (HB1.out.keep hk2 (fun h => h)).cell 2
    have HB2 := Lib.hid (HB1.out.keep hk2 (fun h => h))
    have HK2 := Lib.hid (HK1.out.trans hk2 (fun _ _ h => h))
    clear hk2
    go_upto_if 22 with fail
    go_cut [5] from 8 to 26 (fun s5 wx => ∃ l : List Int, wx.ownsRow w.heap.size 3 1 s5 l.length (icells l) ∧ (∀ y, y ∈ l ↔ (x ≠ 0 ∧ x ≠ txn ∧ y = x)) ∧ l.length ≤ 1 ∧ Keep (fun _ => False) w2 wx)
    case first =>
      cases hb : (x != 0 && x != txn) with
      | false =>
        go_wp2_with fail
        go_meet
        refine ⟨[], World.ownsRow_nil _ _ _ _, fun y => ?_, by simp, Keep.refl _ _⟩
        simp only [List.not_mem_nil, false_iff]
        rintro ⟨q1, q2, q3⟩
        simp [q1, q2] at hb
      | true =>
        have HBT := Lib.hid hb
        have hsz := HK2.out.size
        go_wp2_with (at_builtin; refine wpList_app (w := w2.alloc (.cells #[.int .i64 x] 3)) rfl (.tmp 23) (.tmp 25) 34 34 rfl 3 (.int .i64 0) 1 8 Tryz.underlying34 info3 rfl (World.ownsRow_nil _ w.heap.size 3 1) rfl (Src.new (P := Tryz.prog) Tryz.underlying34 w2 1 [.int .i64 x] 3 rfl (by simp [Value.oneCell'])) rfl (by unfold maxLen; omega) (by omega) (Nat.le_trans hsz ((Keep.refl (fun _ => False) w2).alloc (.cells #[.int .i64 x] 3)).size) (fun v' w7 happ => ?_))
        go_meet
        refine ⟨[x], by simpa [icells] using happ.own, fun y => ?_, by simp, ((Keep.refl (fun _ => False) w2).alloc _).trans happ.keep (fun _ _ h => by cases h)⟩
        have hb2 := HBT.out
        simp only [Bool.and_eq_true, bne_iff_ne] at hb2
        simp [hb2.1, hb2.2]
    case rest =>
      obtain ⟨l0, ho0, hl0, hn0, hk3⟩ := hcut
      obtain ⟨w3, hw3⟩ : ∃ w3, w3 = wc := ⟨_, rfl⟩
      rw [← hw3] at ho0 hk3 ⊢; clear hw3
      have HK3 := Lib.hid (HK2.out.trans hk3 (fun _ _ h => h))
      have HB3 := Lib.hid ((HB1.out.keep (Keep.refl (fun _ => False) _) (fun h => h)))
      have e0 : w3.cell? ⟨w.heap.size, 0, none⟩ = some (.int .i64 txn) := (hk3.cell (p := ⟨w.heap.size, 0, none⟩) (World.block_lt_of_cell? _ _ d0) (fun h => h)).trans d0
      have e1 : w3.cell? ⟨w.heap.size, 1, none⟩ = some (.int .i64 kind) := (hk3.cell (p := ⟨w.heap.size, 1, none⟩) (World.block_lt_of_cell? _ _ d1) (fun h => h)).trans d1
      have e2 : w3.cell? ⟨w.heap.size, 2, none⟩ = some (.int .i64 k) := (hk3.cell (p := ⟨w.heap.size, 2, none⟩) (World.block_lt_of_cell? _ _ d2) (fun h => h)).trans d2
      have hm3 : w3.cell? ⟨r, k, none⟩ = some (.map none) := (HK3.out.cell (p := ⟨r, k, none⟩) hr (fun h => h)).trans HM.out
      have hrun := run_range_nilMap (P := Tryz.prog) w3.drew 194 3 4 Tryz.underlying194
      obtain ⟨w4, hw4⟩ : ∃ w4, w4 = w3.drew.alloc (.mapIter none 0 #[] 0) := ⟨_, rfl⟩
      have hnx : ∀ ty, (Instr.next (.pointer (some ⟨w3.heap.size, 0, none⟩)) false ty).run Tryz.prog w4 = .ok (.tuple #[.bool false]) w4 := fun ty => by rw [hw4]; exact run_next_nilMap w3.drew ty 0 0 #[]
      have hk4 : Keep (fun _ => False) w3 w4 := by rw [hw4]; exact ((Keep.refl (fun _ => False) w3).drew).alloc _
      have HK4 := Lib.hid (HK3.out.trans hk4 (fun _ _ h => h))
      have HO4 := Lib.hid (ownsRow_keep ho0 hk4 (fun _ _ h => h))
      have HL0 := Lib.hid hl0
      rw [← hw4] at hrun
      clear hk3 hk4 ho0 hl0 c0 c1 c2 d0 d1 d2 hm1 hx1 hw4
      go_upto_region 5 with fail
      go_still_tail 7, (by kernel_rfl)
      change wpList _ _ _ _ _ w3.drew
      go_wp2_with fail
      refine wp_loop_rounds 1 ?_
      rw [rounds_succ]
      go_wp2_with fail
      go_ret
      refine ⟨_, l0, rfl, HO4.out, fun y => (HL0.out y).trans ⟨fun h => .inl h, fun h => h.elim id ?_⟩, by omega, HK4.out⟩
      rintro ⟨_, _, h1, _⟩
      cases h1
def MapOr (w : World) (mb : Option Nat) (n : Nat) (f : Int → Option Value) : Prop := (mb = none ∧ f = fun _ => none) ∨ ∃ b, mb = some b ∧ MapAt w b n f
theorem hinders_any {w : World} {r n k : Nat} {mb : Option Nat} {x txn kind : Int} {f : Int → Option Value} (hk : k < 6) (hm : w.cell? ⟨r, k, none⟩ = some (.map mb)) (hx : w.cell? ⟨r, 6 + k, none⟩ = some (.int .i64 x)) (hf : MapOr w mb n f) (hn : n ≤ 1000) :
    Calls Tryz.prog 150 #[.pointer (some ⟨r, 0, none⟩), .agg #[.int .i64 txn, .int .i64 kind, .int .i64 k]] w (HindPost w x txn kind f n) := by
  rcases hf with ⟨rfl, rfl⟩ | ⟨b, rfl, hf⟩
  · exact hinders_nil hk hm hx
  · exact hinders_some hk hm hx hf hn
end Go.Proofs.YthdkamnclbfehaaGreatDoor
/- history.locks: the locks as they lie in memory; release, take. -/
namespace Go.Proofs.YthdkamnclbfehaaGreatDoor
set_option linter.unusedSimpArgs false
set_option linter.unusedVariables false
set_option linter.unnecessarySimpa false
open Go.RowKit
def lockCells (mb : Nat → Option Nat) (ex : Nat → Int) (rest : List Value) : Array Value :=
  #[.map (mb 0), .map (mb 1), .map (mb 2), .map (mb 3), .map (mb 4), .map (mb 5), .int .i64 (ex 0), .int .i64 (ex 1), .int .i64 (ex 2), .int .i64 (ex 3), .int .i64 (ex 4), .int .i64 (ex 5)] ++ rest.toArray
theorem lock_map {mb : Nat → Option Nat} {ex : Nat → Int} {rest : List Value} {j : Nat} (h : j < 6) : (lockCells mb ex rest)[j]? = some (.map (mb j)) := by
  match j, h with
  | 0, _ | 1, _ | 2, _ | 3, _ | 4, _ | 5, _ => simp [lockCells, Array.getElem?_append]
theorem lock_ex {mb : Nat → Option Nat} {ex : Nat → Int} {rest : List Value} {j : Nat} (h : j < 6) : (lockCells mb ex rest)[6 + j]? = some (.int .i64 (ex j)) := by
  match j, h with
  | 0, _ | 1, _ | 2, _ | 3, _ | 4, _ | 5, _ => simp [lockCells, Array.getElem?_append]
theorem lock_set_ex {mb : Nat → Option Nat} {ex : Nat → Int} {rest : List Value} {j : Nat} (h : j < 6) (v : Int) : (lockCells mb ex rest).setIfInBounds (6 + j) (.int .i64 v) = lockCells mb (fun i => if i = j then v else ex i) rest := by
  match j, h with
  | 0, _ | 1, _ | 2, _ | 3, _ | 4, _ | 5, _ => simp [lockCells, Array.setIfInBounds_append]
theorem lock_set_map {mb : Nat → Option Nat} {ex : Nat → Int} {rest : List Value} {j : Nat} (h : j < 6) (v : Option Nat) : (lockCells mb ex rest).setIfInBounds j (.map v) = lockCells (fun i => if i = j then v else mb i) ex rest := by
  match j, h with
  | 0, _ | 1, _ | 2, _ | 3, _ | 4, _ | 5, _ => simp [lockCells, Array.setIfInBounds_append]
structure Lk (w : World) (r : Nat) (mb : Nat → Option Nat) (ex : Nat → Int) (f : Nat → Int → Option Value) (N : Nat) (rest : List Value) : Prop where
  blk : Blk w r (lockCells mb ex rest) 200
  maps : ∀ i, i < 6 → MapOr w (mb i) N (f i)
  apart : ∀ i j b, i < 6 → j < 6 → mb i = some b → mb j = some b → i = j
theorem MapOr.keep {S : Nat → Prop} {w w' : World} {mb : Option Nat} {n : Nat} {f : Int → Option Value} (h : MapOr w mb n f) (k : Keep S w w') (hS : ∀ b, mb = some b → ¬ S b) : MapOr w' mb n f := by
  rcases h with h | ⟨b, rfl, h⟩
  · exact .inl h
  · exact .inr ⟨b, rfl, h.keep k (hS b rfl)⟩
theorem MapOr.mono {w : World} {mb : Option Nat} {n m : Nat} {f : Int → Option Value} (h : MapOr w mb n f) (hn : n ≤ m) : MapOr w mb m f := by
  rcases h with h | ⟨b, rfl, h⟩
  · exact .inl h
  · exact .inr ⟨b, rfl, h.mono hn⟩
theorem MapAt.ne_cells {w : World} {b n : Nat} {f : Int → Option Value} (h : MapAt w b n f) {g : Nat} {cs : Array Value} {t : TypeId} {fz : Nat × Nat} (hg : w.heap[g]? = some (.cells cs t fz)) : b ≠ g := by
  intro e; subst e
  obtain ⟨D, ⟨es, clock, hm, _⟩, _⟩ := h
  rw [hg] at hm; cases hm
theorem Lk.keep {S : Nat → Prop} {w w' : World} {r N : Nat} {mb : Nat → Option Nat} {ex : Nat → Int} {f : Nat → Int → Option Value} {rest : List Value} (h : Lk w r mb ex f N rest) (k : Keep S w w') (hr : ¬ S r) (hS : ∀ i b, i < 6 → mb i = some b → ¬ S b) : Lk w' r mb ex f N rest :=
  ⟨h.blk.keep k hr, fun i hi => (h.maps i hi).keep k (fun b hb => hS i b hi hb), h.apart⟩
theorem Lk.mono {w : World} {r N M : Nat} {mb : Nat → Option Nat} {ex : Nat → Int} {f : Nat → Int → Option Value} {rest : List Value} (h : Lk w r mb ex f N rest) (hn : N ≤ M) : Lk w r mb ex f M rest :=
  ⟨h.blk, fun i hi => (h.maps i hi).mono hn, h.apart⟩
theorem Lk.setEx {w : World} {r N : Nat} {mb : Nat → Option Nat} {ex : Nat → Int} {f : Nat → Int → Option Value} {rest : List Value} (h : Lk w r mb ex f N rest) {j : Nat} (hj : j < 6) (v : Int) :
    Lk (w.setCell ⟨r, 6 + j, none⟩ (.int .i64 v)) r mb (fun i => if i = j then v else ex i) f N rest := by
  have k : Keep (fun k => k = r) w (w.setCell ⟨r, 6 + j, none⟩ (.int .i64 v)) := (Keep.refl _ _).setCell _ _ (fun _ => rfl)
  refine ⟨by rw [← lock_set_ex hj]; exact h.blk.set _ _, fun i hi => (h.maps i hi).keep k (fun b hb e => ?_), h.apart⟩
  rcases h.maps i hi with ⟨e1, _⟩ | ⟨b', e1, hm⟩
  · rw [e1] at hb; cases hb
  · rw [e1] at hb; cases hb; exact hm.ne_cells h.blk e
theorem Lk.upd {w w' : World} {r N b : Nat} {mb : Nat → Option Nat} {ex : Nat → Int} {f : Nat → Int → Option Value} {rest : List Value} (h : Lk w r mb ex f N rest) {j : Nat} (hj : j < 6) (hb : mb j = some b) (k : Keep (fun k => k = b) w w') {g : Int → Option Value} (hm : MapAt w' b N g) :
    Lk w' r mb ex (fun i => if i = j then g else f i) N rest := by
  have hbm : MapAt w b N (f j) := by
    rcases h.maps j hj with ⟨e1, _⟩ | ⟨b', e1, hm⟩
    · rw [e1] at hb; cases hb
    · rw [e1] at hb; cases hb; exact hm
  refine ⟨h.blk.keep k (fun e => hbm.ne_cells h.blk e.symm), fun i hi => ?_, h.apart⟩
  by_cases e : i = j
  · subst e; rw [if_pos rfl]; exact .inr ⟨b, hb, hm⟩
  · rw [if_neg e]; exact (h.maps i hi).keep k (fun c hc e2 => e (h.apart i j b hi hj (by rw [hc]; exact congrArg some e2) hb))
theorem Lk.setMap {w : World} {r N b : Nat} {mb : Nat → Option Nat} {ex : Nat → Int} {f : Nat → Int → Option Value} {rest : List Value} (h : Lk w r mb ex f N rest) {j : Nat} (hj : j < 6) {g : Int → Option Value} (hm : MapAt w b N g) (hb : ∀ i, i < 6 → mb i ≠ some b) :
    Lk (w.setCell ⟨r, j, none⟩ (.map (some b))) r (fun i => if i = j then some b else mb i) ex (fun i => if i = j then g else f i) N rest := by
  have k : Keep (fun k => k = r) w (w.setCell ⟨r, j, none⟩ (.map (some b))) := (Keep.refl _ _).setCell _ _ (fun _ => rfl)
  refine ⟨by rw [← lock_set_map hj]; exact h.blk.set _ _, fun i hi => ?_, fun i1 i2 c h1 h2 e1 e2 => ?_⟩
  · by_cases e : i = j
    · subst e; rw [if_pos rfl, if_pos rfl]; exact .inr ⟨b, rfl, hm.keep k (hm.ne_cells h.blk)⟩
    · rw [if_neg e, if_neg e]
      refine (h.maps i hi).keep k (fun c hc e2 => ?_)
      rcases h.maps i hi with ⟨e1, _⟩ | ⟨b', e1, hm'⟩
      · rw [e1] at hc; cases hc
      · rw [e1] at hc; cases hc; exact hm'.ne_cells h.blk e2
  · by_cases a1 : i1 = j <;> by_cases a2 : i2 = j
    · rw [a1, a2]
    · rw [if_pos a1] at e1; rw [if_neg a2] at e2; cases e1; exact absurd e2 (hb i2 h2)
    · rw [if_neg a1] at e1; rw [if_pos a2] at e2; cases e2; exact absurd e1 (hb i1 h1)
    · rw [if_neg a1] at e1; rw [if_neg a2] at e2; exact h.apart _ _ _ h1 h2 e1 e2
theorem MapOr.drop {w : World} {mb : Option Nat} {n : Nat} {f : Int → Option Value} (h : MapOr w mb n f) {x : Int} (hx : (kI x).wf = true) (ty : TypeId) :
    ∃ w', (Builtin.delete_ #[194, 3] ty #[.map mb, .int .i64 x]).run Tryz.prog w = .ok (.tuple #[]) w' ∧ MapOr w' mb n (fun y => if y = x then none else f y) ∧ Keep (fun k => mb = some k) w w' := by
  rcases h with ⟨rfl, rfl⟩ | ⟨b, rfl, h⟩
  · exact ⟨w, Go.Maps.drop_nil keyI Tryz.underlying194 (keyOfI hx) ty, .inl ⟨rfl, by funext y; simp⟩, Keep.refl _ _⟩
  · obtain ⟨w', hrun, hm, hk, _⟩ := h.drop Tryz.underlying194 hx ty
    exact ⟨w', hrun, .inr ⟨b, rfl, hm⟩, hk.mono (fun k _ e => by rw [e])⟩
theorem Lk.updOr {w w' : World} {r N : Nat} {mb : Nat → Option Nat} {ex : Nat → Int} {f : Nat → Int → Option Value} {rest : List Value} (h : Lk w r mb ex f N rest) {j : Nat} (hj : j < 6) (k : Keep (fun k => mb j = some k) w w') {g : Int → Option Value} (hm : MapOr w' (mb j) N g) :
    Lk w' r mb ex (fun i => if i = j then g else f i) N rest := by
  have hr : mb j ≠ some r := fun e => by
    rcases h.maps j hj with ⟨e1, _⟩ | ⟨b', e1, hm⟩
    · rw [e1] at e; cases e
    · rw [e1] at e; cases e; exact hm.ne_cells h.blk rfl
  refine ⟨h.blk.keep k hr, fun i hi => ?_, h.apart⟩
  by_cases e : i = j
  · subst e; rw [if_pos rfl]; exact hm
  · rw [if_neg e]; exact (h.maps i hi).keep k (fun c hc e2 => e (h.apart i j c hi hj hc e2))
def relEx (ex : Nat → Int) (t : Int) (j : Nat) : Nat → Int := fun i => if i < j ∧ ex i = t then 0 else ex i
def relF (f : Nat → Int → Option Value) (t : Int) (j : Nat) : Nat → Int → Option Value := fun i y => if i < j ∧ y = t then none else f i y
def LkPost (w : World) (r : Nat) (mb : Nat → Option Nat) (ex' : Nat → Int) (f' : Nat → Int → Option Value) (N : Nat) (rest : List Value) (e : Ending) (w' : World) : Prop :=
  e = .returned (.tuple #[]) ∧ ∃ mb', Lk w' r mb' ex' f' N rest ∧ (∀ i, i < 6 → mb' i = mb i ∨ ∃ b, mb' i = some b ∧ w.heap.size ≤ b) ∧ Keep (fun k => k = r ∨ ∃ i, i < 6 ∧ mb i = some k) w w'
set_option maxHeartbeats 1600000 in
set_option maxRecDepth 100000 in
theorem release_any {w : World} {r N : Nat} {mb : Nat → Option Nat} {ex : Nat → Int} {f : Nat → Int → Option Value} {rest : List Value} {t : Int} (h : Lk w r mb ex f N rest) (ht : (kI t).wf = true) :
    Calls Tryz.prog 149 #[.pointer (some ⟨r, 0, none⟩), .int .i64 t] w (LkPost w r mb (relEx ex t 6) (relF f t 6) N rest) := by
  have H := Lib.hid h; clear h
  have HT := Lib.hid ht; clear ht
  go_enter Tryz.func149, Tryz.ntmps149
  go_wp2_with fail
  go_loopw [5] (fun v wr => ∃ j : Nat, j ≤ 6 ∧ v = .int .i64 j ∧ Lk wr r mb (relEx ex t j) (relF f t j) N rest ∧ Keep (fun k => k = r ∨ ∃ i, i < 6 ∧ mb i = some k) w wr) (fun v _ => 6 - (intOf v).toNat)
  case atStart =>
    refine ⟨0, by omega, rfl, ?_, Keep.refl _ _⟩
    have e1 : relEx ex t 0 = ex := by funext i; simp [relEx]
    have e2 : relF f t 0 = f := by funext i y; simp [relF]
    rw [e1, e2]; exact H.out
  case round =>
    obtain ⟨j, hj, rfl, hlk, hkw⟩ := hrel
    by_cases hj6 : j < 6
    · have hjt : ((j : Int) < 6) = True := eq_true (by omega)
      have hj0 : ((0 : Int) ≤ (j : Int)) = True := eq_true (by omega)
      have c0 : wr.cell? ⟨r, j, none⟩ = some (.map (mb j)) := by rw [hlk.blk.cell]; exact lock_map hj6
      obtain ⟨w2, hrun, hm2, hk2⟩ := (hlk.maps j hj6).drop HT.out 0
      have hlk2 := hlk.updOr hj6 hk2 hm2
      have c1 : w2.cell? ⟨r, 6 + j, none⟩ = some (.int .i64 (ex j)) := by rw [hlk2.blk.cell, lock_ex hj6]; simp [relEx]
      have g1 := hlk2.blk.free (6 + j)
      have HJ6 := Lib.hid hj6
      have HKW := Lib.hid (hkw.trans hk2 (fun i _ e => .inr ⟨j, hj6, e⟩))
      have HL2 := Lib.hid hlk2
      have ef : (fun i => if i = j then (fun y => if y = t then none else relF f t j j y) else relF f t j i) = relF f t (j + 1) := by
        funext i y
        by_cases e : i = j
        · subst e; simp [relF]
        · have : (i < j + 1) ↔ i < j := by omega
          simp [relF, e, this]
      have EF := Lib.hid ef; clear hlk hkw hm2 hk2 hlk2 hj6 ef
      have hw1 : IntKind.i64.wrap ((j : Int) + 1) = ((j + 1 : Nat) : Int) := by rw [show ((j : Int) + 1) = ((j + 1 : Nat) : Int) by omega]; exact IntWalk.i64_in _ (by omega)
      cases he : (ex j == t) with
      | false =>
        go_wp2_with fail
        go_roundw
        case rel =>
          refine ⟨j + 1, by have := HJ6.out; omega, rfl, ?_, HKW.out⟩
          rw [← EF.out]
          have ee : relEx ex t (j + 1) = relEx ex t j := by
            funext i
            by_cases e : i = j
            · subst e; have : ¬ ex i = t := by simpa using he
              simp [relEx, this]
            · have : (i < j + 1) ↔ i < j := by omega
              simp [relEx, this]
          rw [ee]; exact HL2.out
        case measure => have := HJ6.out; simp [intOf]; omega
      | true =>
        go_wp2_with fail
        go_roundw
        case rel =>
          refine ⟨j + 1, by have := HJ6.out; omega, rfl, ?_, HKW.out.setCell _ _ (fun _ => .inl rfl)⟩
          rw [← EF.out]
          have ee : relEx ex t (j + 1) = fun i => if i = j then 0 else relEx ex t j i := by
            funext i
            by_cases e : i = j
            · subst e; have : ex i = t := by simpa using he
              simp [relEx, this]
            · have : (i < j + 1) ↔ i < j := by omega
              simp [relEx, this, e]
          rw [ee]; exact HL2.out.setEx HJ6.out 0
        case measure => have := HJ6.out; simp [intOf]; omega
    · have hjt : ((j : Int) < 6) = False := eq_false (by omega)
      have hj6' : j = 6 := by omega
      have HJ := Lib.hid hj6'
      have HL := Lib.hid hlk; have HKW := Lib.hid hkw; clear hlk hkw hj6' hj6 hj
      go_wp2_with fail
      go_end0
      exact ⟨rfl, mb, by rw [← HJ.out]; exact HL.out, fun i _ => .inl rfl, HKW.out⟩
end Go.Proofs.YthdkamnclbfehaaGreatDoor
/- history.locks.take: an operation gets its lock. -/
namespace Go.Proofs.YthdkamnclbfehaaGreatDoor
set_option linter.unusedSimpArgs false
set_option linter.unusedVariables false
set_option linter.unnecessarySimpa false
open Go.RowKit
set_option maxHeartbeats 1600000 in
set_option maxRecDepth 100000 in
theorem take_w {w : World} {r N k : Nat} {mb : Nat → Option Nat} {ex : Nat → Int} {f : Nat → Int → Option Value} {rest : List Value} {txn : Int} (h : Lk w r mb ex f N rest) (hk : k < 6) :
    Calls Tryz.prog 177 #[.pointer (some ⟨r, 0, none⟩), .agg #[.int .i64 txn, .int .i64 1, .int .i64 k]] w (LkPost w r mb (fun i => if i = k then txn else ex i) f (N + 1) rest) := by
  have hk6 : ((k : Int) < 6) = True := eq_true (by omega)
  have hk0 : ((0 : Int) ≤ (k : Int)) = True := eq_true (by omega)
  obtain ⟨w1, hw1⟩ : ∃ w1, w1 = w.alloc (.cells #[.int .i64 txn, .int .i64 1, .int .i64 k] 146) := ⟨_, rfl⟩
  have hK1 : Keep (fun _ => False) w w1 := by rw [hw1]; exact (Keep.refl _ _).alloc _
  have hB1 : Blk w1 w.heap.size #[.int .i64 txn, .int .i64 1, .int .i64 k] 146 := by rw [hw1]; exact Blk.new _ _ _
  have h1 := h.keep hK1 (fun e => e) (fun _ _ _ _ e => e)
  have c0 : w1.cell? ⟨w.heap.size, 0, none⟩ = some (.int .i64 txn) := hB1.cell 0
  have c1 : w1.cell? ⟨w.heap.size, 1, none⟩ = some (.int .i64 1) := hB1.cell 1
  have c2 : w1.cell? ⟨w.heap.size, 2, none⟩ = some (.int .i64 k) := hB1.cell 2
  have d1 : w1.cell? ⟨r, 6 + k, none⟩ = some (.int .i64 (ex k)) := by rw [h1.blk.cell, lock_ex hk]
  have g1 := h1.blk.free (6 + k)
  have H1 := Lib.hid h1; have HK1 := Lib.hid hK1; have HK := Lib.hid hk; have HW := Lib.hid hw1; clear h h1 hK1 hB1 hk hw1
  go_enter Tryz.func177, Tryz.ntmps177
  go_upto_region 1 with fail
  rw [← HW.out]
  go_wp2_with fail
  go_still_tail 8, (by kernel_rfl)
  change wpList _ _ _ _ _ w1.drew
  go_wp2
  go_end0
  exact ⟨rfl, mb, (((H1.out.keep ((Keep.refl (fun _ => False) w1).drew) (fun e => e) (fun _ _ _ _ e => e)).setEx HK.out txn).mono (by omega)), fun i _ => .inl rfl, ((HK1.out.drew).mono (fun _ _ e => e.elim)).setCell _ _ (fun _ => .inl rfl)⟩
theorem Blk.ne {w : World} {b b' : Nat} {cs cs' : Array Value} {t t' : TypeId} (h : Blk w b cs t) (h' : Blk w b' cs' t') (hne : t ≠ t') : b ≠ b' := by
  intro e
  subst e
  unfold Blk at h h'
  rw [h] at h'
  have e2 := Option.some.inj h'
  injection e2 with _ e3
  exact hne e3
def Slot (W : World) (r k : Nat) : Prop := (W.cell? ⟨r, k, none⟩).isSome = true ∧ W.frozen? ⟨r, k, none⟩ = false
theorem Slot.keep {S : Nat → Prop} {W W' : World} {r k : Nat} (h : Slot W r k) (hk : Keep S W W') (hS : ¬ S r) : Slot W' r k := by
  obtain ⟨u, hu⟩ := Option.isSome_iff_exists.1 h.1
  have hlt : r < W.heap.size := World.block_lt_of_cell? W _ hu
  exact ⟨by rw [hk.cell (p := ⟨r, k, none⟩) hlt hS]; exact h.1, by rw [hk.frozen (p := ⟨r, k, none⟩) hlt hS]; exact h.2⟩
theorem Slot.drew {W : World} {r k : Nat} (h : Slot W r k) : Slot W.drew r k := h
theorem Slot.drewN {W : World} {r k : Nat} (h : Slot W r k) (n : Nat) : Slot (W.drewN n) r k := h
theorem Slot.alloc {W : World} {r k : Nat} (h : Slot W r k) (o : Obj) : Slot (W.alloc o) r k := h.keep ((Keep.refl (fun _ => False) W).alloc o) (fun e => e)
theorem Slot.set {W : World} {r k : Nat} (h : Slot W r k) (v : Value) : Slot (W.setCell ⟨r, k, none⟩ v) r k := by
  refine ⟨?_, by rw [World.frozen?_setCell]; exact h.2⟩
  rw [World.cell?_setCell_same' _ _ _ h.1]; rfl
theorem map_nil_eq (W : World) : (Op.equal 194 (.map none) (.map none)).run Tryz.prog W = .ok true W := by kernel_rfl
theorem map_some_eq (W : World) (b : Nat) : (Op.equal 194 (.map (some b)) (.map none)).run Tryz.prog W = .ok false W := by kernel_rfl
theorem map_nil_eq' (W : World) : (binOp .eql 194 (.map none) (.map none)).run Tryz.prog W = .ok (.bool true) W := by kernel_rfl
theorem map_some_eq' (W : World) (b : Nat) : (binOp .eql 194 (.map (some b)) (.map none)).run Tryz.prog W = .ok (.bool false) W := by kernel_rfl
set_option maxHeartbeats 1600000 in
set_option maxRecDepth 100000 in
theorem take_r {w : World} {r N k : Nat} {mb : Nat → Option Nat} {ex : Nat → Int} {f : Nat → Int → Option Value} {rest : List Value} {txn kind : Int} (h : Lk w r mb ex f N rest) (hk : k < 6) (hkind : (kind == 1) = false) (ht : (kI txn).wf = true) (hN : N ≤ 1000) :
    Calls Tryz.prog 177 #[.pointer (some ⟨r, 0, none⟩), .agg #[.int .i64 txn, .int .i64 kind, .int .i64 k]] w (LkPost w r mb ex (fun i => if i = k then (fun y => if y = txn then some (.bool true) else f k y) else f i) (N + 1) rest) := by
  have hk6 : ((k : Int) < 6) = True := eq_true (by omega)
  have hk0 : ((0 : Int) ≤ (k : Int)) = True := eq_true (by omega)
  obtain ⟨w1, hw1⟩ : ∃ w1, w1 = w.alloc (.cells #[.int .i64 txn, .int .i64 kind, .int .i64 k] 146) := ⟨_, rfl⟩
  have hK1 : Keep (fun _ => False) w w1 := by rw [hw1]; exact (Keep.refl _ _).alloc _
  have hB1 : Blk w1 w.heap.size #[.int .i64 txn, .int .i64 kind, .int .i64 k] 146 := by rw [hw1]; exact Blk.new _ _ _
  have h1 := h.keep hK1 (fun e => e) (fun _ _ _ _ e => e)
  have c0 : w1.cell? ⟨w.heap.size, 0, none⟩ = some (.int .i64 txn) := hB1.cell 0
  have c1 : w1.cell? ⟨w.heap.size, 1, none⟩ = some (.int .i64 kind) := hB1.cell 1
  have c2 : w1.cell? ⟨w.heap.size, 2, none⟩ = some (.int .i64 k) := hB1.cell 2
  have d0 : w1.cell? ⟨r, k, none⟩ = some (.map (mb k)) := by rw [h1.blk.cell, lock_map hk]
  have H1 := Lib.hid h1; have HB1 := Lib.hid hB1; have HK1 := Lib.hid hK1; have HK := Lib.hid hk; have HW := Lib.hid hw1
  have HM := h1.maps k hk
  clear h h1 hK1 hB1 hk hw1
  rcases HM with ⟨hmb, hf⟩ | ⟨b, hmb, hm⟩
  · rw [hmb] at d0
    have HMB := Lib.hid hmb; have HFN := Lib.hid hf; clear hmb hf
    have q0 := fun W => map_nil_eq W
    have q1 := fun W => map_nil_eq' W
    go_enter Tryz.func177, Tryz.ntmps177
    go_upto_region 1 with fail
    rw [← HW.out]
    go_wp2_with fail
    go_quiet (fail)
    go_wp2_with fail
    have HC : Hid (∀ W, Keep (fun k => k = r) w1 W → W.cell? ⟨w.heap.size, 2, none⟩ = some (.int .i64 k)) := Lib.hid fun W hk => (HB1.out.keep hk (HB1.out.ne H1.out.blk (by decide))).cell 2
    obtain ⟨w2, hw2⟩ : ∃ w2, w2 = w1.drewN nq := ⟨_, rfl⟩
    have HK12 : Hid (Keep (fun k => k = r) w1 w2) := Lib.hid (by rw [hw2]; exact (Keep.refl _ _).drewN _)
    have H2 : Hid (Lk w2 r mb ex f N rest) := Lib.hid (by rw [hw2]; exact H1.out.keep ((Keep.refl (fun _ => False) _).drewN _) (fun e => e) (fun _ _ _ _ e => e))
    rw [← hw2]
    clear hw2 c0 c1 c2 d0
    go_cut [] from 23 to 29 (fun wx => ∃ b, w1.heap.size ≤ b ∧ Lk wx r (fun i => if i = k then some b else mb i) ex (fun i => if i = k then (fun _ => none) else f i) N rest ∧ Keep (fun k => k = r) w1 wx)
    case first =>
      rename_i Jq Kq hJq hKq
      refine region_letters fun Q1 hQ1 => ?_
      have HQ1 := Lib.hid hQ1; clear hQ1
      refine wp_region_noPanic ?_
      refine wp_region_held_drew (S := (fun W => W.cell? ⟨w.heap.size, 2, none⟩ = some (.int .i64 k))) (by kernel_rfl) (HC.out _ HK12.out.drew) (fun hHeld => ?_)
      refine wpAnyH_letter fun ac0 HQA0 => ?_
      have HS : Hid (ac0.tmps.size = 39) := Lib.hid (by rw [HQA0.out]; kernel_rfl)
      have e0 : ac0.tmps[0]?.getD undef = .pointer (some ⟨r, 0, none⟩) := by rw [HQA0.out]; kernel_rfl
      have e3 : ac0.tmps[3]?.getD undef = .pointer (some ⟨w.heap.size, 0, none⟩) := by rw [HQA0.out]; kernel_rfl
      refine wpAnyH_take (i := 0) (oi := _) (v := ?_) rfl (by kernel_rfl) (by kernel_rfl) (by kernel_rfl) (fun _ _ _ h => h) (Or.inl ⟨by rfl, ?_⟩) hHeld ?_
      rotate_left
      · (intro w hSw; obtain q0 := hSw; go_simp) <;> with_reducible rfl
      refine wpAnyH_letter fun ac1 HQA1 => ?_; replace e0 := po HQA1 e0; replace e3 := po HQA1 e3; have e23 := put_at HQA1 HS.out (by decide); replace HS := Lib.hid (put_sz HQA1 HS.out)
      refine wpAnyH_take (i := 1) (oi := _) (v := ?_) rfl (by kernel_rfl) (by kernel_rfl) (by kernel_rfl) (fun _ _ _ h => h) (Or.inl ⟨by rfl, ?_⟩) hHeld ?_
      rotate_left
      · (intro w hSw; obtain q0 := hSw; go_simp) <;> with_reducible rfl
      refine wpAnyH_letter fun ac2 HQA2 => ?_; replace e0 := po HQA2 e0; replace e3 := po HQA2 e3; replace e23 := po HQA2 e23; have e24 := put_at HQA2 HS.out (by decide); replace HS := Lib.hid (put_sz HQA2 HS.out)
      refine wpAnyH_take (i := 2) (oi := _) (v := ?_) rfl (by kernel_rfl) (by kernel_rfl) (by kernel_rfl) (fun _ _ _ h => h) (Or.inl ⟨by rfl, ?_⟩) hHeld ?_
      rotate_left
      · (intro w hSw; obtain q0 := hSw; go_simp) <;> with_reducible rfl
      refine wpAnyH_letter fun ac3 HQA3 => ?_; replace e0 := po HQA3 e0; replace e3 := po HQA3 e3; replace e23 := po HQA3 e23; replace e24 := po HQA3 e24; have e25 := put_at HQA3 HS.out (by decide); replace HS := Lib.hid (put_sz HQA3 HS.out)
      refine wpAnyH_take (i := 4) (oi := _) (v := ?_) rfl (by kernel_rfl) (by kernel_rfl) (by kernel_rfl) (fun _ _ _ h => h) (Or.inl ⟨by rfl, ?_⟩) hHeld ?_
      rotate_left
      · (intro w hSw; obtain q0 := hSw; go_simp) <;> with_reducible rfl
      refine wpAnyH_letter fun ac4 HQA4 => ?_; replace e0 := po HQA4 e0; replace e3 := po HQA4 e3; replace e23 := po HQA4 e23; replace e24 := po HQA4 e24; replace e25 := po HQA4 e25; have e27 := put_at HQA4 HS.out (by decide); replace HS := Lib.hid (put_sz HQA4 HS.out)
      refine wpAnyH_take (i := 5) (oi := _) (v := ?_) rfl (by kernel_rfl) (by kernel_rfl) (by kernel_rfl) (fun _ _ _ h => h) (Or.inl ⟨by rfl, ?_⟩) hHeld ?_
      rotate_left
      · (intro w hSw; obtain q0 := hSw; go_simp) <;> with_reducible rfl
      refine wpAnyH_letter fun ac5 HQA5 => ?_; replace e0 := po HQA5 e0; replace e3 := po HQA5 e3; replace e23 := po HQA5 e23; replace e24 := po HQA5 e24; replace e25 := po HQA5 e25; replace e27 := po HQA5 e27; have e28 := put_at HQA5 HS.out (by decide); replace HS := Lib.hid (put_sz HQA5 HS.out); refine wpAnyH_ready (rs := [3]) (by kernel_rfl) (by simp) ?_; refine AllReadyH.cons (o := _) rfl (fun K hK => ?_) AllReadyH.nil
      have hmm := @run_makeMap Tryz.prog
      go_simp
      refine hK.out _ _ ?_ (fun hHeld => ?_)
      · first | exact HC.out _ (HK12.out.alloc _).drew | exact HC.out _ (HK12.out.drew.alloc _)
      clear hK K; refine wpAnyH_letter fun ac6 HQA6 => ?_; replace e0 := po HQA6 e0; replace e3 := po HQA6 e3; replace e23 := po HQA6 e23; replace e24 := po HQA6 e24; replace e25 := po HQA6 e25; replace e27 := po HQA6 e27; replace e28 := po HQA6 e28; have e26 := put_at HQA6 HS.out (by decide); replace HS := Lib.hid (put_sz HQA6 HS.out)
      have h3 := H2.out.keep (((Keep.refl (fun _ => False) w2).alloc (.map #[] 0)).drew) (fun e => e) (fun _ _ _ _ e => e)
      have d0 : (w2.alloc (.map #[] 0)).drew.cell? ⟨r, k, none⟩ = some (.map (mb k)) := by rw [h3.blk.cell, lock_map HK.out]
      have g0 := h3.blk.free k
      have HM3 : Hid (MapAt ((w2.alloc (.map #[] 0)).drew) w2.heap.size N (fun _ => none)) := Lib.hid ((MapAt.made w2).mono (Nat.zero_le _))
      have HK23 := Lib.hid ((HK12.out.alloc (.map #[] 0)).drew)
      obtain ⟨w3, hw3⟩ : ∃ w3, w3 = (w2.alloc (.map #[] 0)).drew := ⟨_, rfl⟩
      rw [← hw3] at h3 d0 g0 HM3 HK23 hHeld ⊢
      have H3 := Lib.hid h3; clear h3 hw3
      refine wpAnyH_take (i := 6) (oi := _) (v := ?_) rfl (by kernel_rfl) (by kernel_rfl) (by kernel_rfl) (fun _ _ _ h => h) (Or.inl ⟨by rfl, ?_⟩) hHeld ?_
      rotate_left
      · (intro w hSw; obtain q0 := hSw; go_simp) <;> with_reducible rfl
      refine wpAnyH_letter fun ac7 HQA7 => ?_; replace e0 := po HQA7 e0; replace e3 := po HQA7 e3; replace e23 := po HQA7 e23; replace e24 := po HQA7 e24; replace e25 := po HQA7 e25; replace e27 := po HQA7 e27; replace e28 := po HQA7 e28; replace e26 := po HQA7 e26; have e29 := put_at HQA7 HS.out (by decide); replace HS := Lib.hid (put_sz HQA7 HS.out); refine wpAnyH_ready (rs := [7]) (by kernel_rfl) (by simp) ?_; refine AllReadyH.cons (o := _) rfl (fun K hK => ?_) AllReadyH.nil
      go_simp
      refine hK.out _ _ ?_ (fun hHeld => ?_)
      · exact HC.out _ (HK23.out.setCell _ _ (fun _ => rfl))
      clear hK K
      refine wpAnyH_done (by kernel_rfl) ?_ _
      refine NoPanic.normal ?_
      rw [HQ1.out]
      have g0 := uE0 ac0 [23, 24, 25, 26, 27, 28, 29]
      have g1 := uE HQA1 g0 (by rfl); have g2 := uE HQA2 g1 (by rfl); have g3 := uE HQA3 g2 (by rfl); have g4 := uE HQA4 g3 (by rfl); have g5 := uE HQA5 g4 (by rfl); have g6 := uE HQA6 g5 (by rfl); have g7 := uE HQA7 g6 (by rfl)
      obtain ⟨f, hf⟩ := g7
      rw [HQA0.out] at hf
      refine hKq _ _ (Met.intro (hJq _ _ ?_))
      refine ⟨f 23, f 24, f 25, f 26, f 27, f 28, f 29, ⟨w2.heap.size, HK12.out.size, H3.out.setMap HK.out HM3.out (fun i hi e => ?_), HK23.out.setCell _ _ (fun _ => rfl)⟩, hf.trans (by kernel_rfl)⟩
      rcases H2.out.maps i hi with ⟨e1, _⟩ | ⟨b', e1, hm⟩
      · rw [e1] at e; cases e
      · rw [e1] at e; cases e; exact absurd hm.lt (Nat.lt_irrefl _)
    case rest =>
      obtain ⟨b4, hb4, h4, hk4⟩ := hcut
      obtain ⟨mb4, hmb4⟩ : ∃ m : Nat → Option Nat, m = fun i => if i = k then some b4 else mb i := ⟨_, rfl⟩
      obtain ⟨f4, hf4⟩ : ∃ m : Nat → Int → Option Value, m = fun i => if i = k then (fun _ => none) else f i := ⟨_, rfl⟩
      rw [← hmb4, ← hf4] at h4
      have hch : ∀ i, i < 6 → mb4 i = mb i ∨ ∃ b, mb4 i = some b ∧ w.heap.size ≤ b := by
        intro i hi
        rw [hmb4]
        by_cases e : i = k
        · right; exact ⟨b4, by simp [e], Nat.le_trans HK1.out.size hb4⟩
        · left; simp [e]
      have HCH := Lib.hid hch; clear hch
      obtain ⟨w4, hw4⟩ : ∃ w4, w4 = wc := ⟨_, rfl⟩
      rw [← hw4] at h4 hk4 ⊢
      clear hw4; have H4 := Lib.hid h4
      have HK4 := Lib.hid (HK1.out.size)
      have HB4 := Lib.hid (HB1.out.keep hk4 (HB1.out.ne H1.out.blk (by decide)))
      have HMB4 : Hid (mb4 k = some b4) := Lib.hid (by rw [hmb4]; simp)
      have HF4 := Lib.hid hf4
      have HM4 : Hid (MapAt w4 b4 N (fun _ => none)) := Lib.hid (by
        rcases h4.maps k HK.out with ⟨e1, _⟩ | ⟨b', e1, hm⟩
        · rw [hmb4] at e1; simp at e1
        · rw [hmb4] at e1; simp at e1; subst e1; rw [hf4] at hm; simpa using hm)
      have HFG : Hid (∀ y, (fun _ => none : Int → Option Value) y = f k y) := Lib.hid (by rw [HFN.out]; intro y; rfl)
      have HN := Lib.hid hN; have HT := Lib.hid ht; have HKK := Lib.hid hk4; have HBG := Lib.hid hb4; clear h4 hk4 hb4 hN ht hmb4 hf4
      have e0 : w4.cell? ⟨w.heap.size, 0, none⟩ = some (.int .i64 txn) := HB4.out.cell 0
      have e2 : w4.cell? ⟨w.heap.size, 2, none⟩ = some (.int .i64 k) := HB4.out.cell 2
      have x0 : w4.cell? ⟨r, k, none⟩ = some (.map (some b4)) := by rw [H4.out.blk.cell, lock_map HK.out]; exact congrArg (fun z => some (Value.map z)) HMB4.out
      obtain ⟨w5, hrun, hm5, hk5, _⟩ := (HM4.out.keep ((Keep.refl (fun _ => False) w4).drew) (fun e => e)).store Tryz.underlying194 (by have := HN.out; unfold maxLen; omega) HT.out (.bool true)
      have HM5 := Lib.hid hm5
      have HK5 := Lib.hid (((Keep.refl (fun k => k = b4) w4).drew).trans hk5 (fun _ _ e => e))
      clear hm5 hk5
      go_upto_region 5 with fail
      go_still_tail 9, (by kernel_rfl)
      change wpList _ _ _ _ _ w4.drew
      go_wp2
      go_end0
      refine ⟨rfl, mb4, ?_, HCH.out, (((HK1.out.mono (fun _ _ e => e.elim)).trans HKK.out (fun i hi e => Or.inl e)).trans HK5.out (fun i hi e => by have := HK4.out; have := HBG.out; have e' : i = b4 := e; omega))⟩
      have hu := (H4.out.mono (Nat.le_succ N)).upd HK.out HMB4.out HK5.out HM5.out
      have ef : (fun i => if i = k then (fun y => if y = txn then some (.bool true) else (fun _ => none : Int → Option Value) y) else f4 i) = (fun i => if i = k then (fun y => if y = txn then some (.bool true) else f k y) else f i) := by
        funext i y
        by_cases e : i = k
        · subst e
          by_cases hy : y = txn
          · simp [hy]
          · simp [hy]; (try exact HFG.out y)
        · simp [e, HF4.out]
      rw [ef] at hu
      exact hu
  · rw [hmb] at d0
    have HMB4 := Lib.hid hmb
    have q0 := fun W => map_some_eq W b
    have q1 := fun W => map_some_eq' W b
    have HMM := Lib.hid hm; clear hmb hm
    go_enter Tryz.func177, Tryz.ntmps177
    go_upto_region 1 with fail
    rw [← HW.out]
    go_wp2_with fail
    go_quiet (fail)
    go_wp2_with fail
    obtain ⟨w4, hw4⟩ : ∃ w4, w4 = w1.drewN nq := ⟨_, rfl⟩
    obtain ⟨b4, hb4⟩ : ∃ b4, b4 = b := ⟨_, rfl⟩
    rw [← hb4] at HMB4 HMM ⊢
    have HKK : Hid (Keep (fun _ => False) w1 w4) := Lib.hid (by rw [hw4]; exact (Keep.refl _ _).drewN _)
    rw [← hw4]
    clear hw4 c0 c1 c2 d0 q0 q1 hb4
    have H4 := Lib.hid (H1.out.keep HKK.out (fun e => e) (fun _ _ _ _ e => e))
    have HB4 := Lib.hid (HB1.out.keep HKK.out (fun e => e))
    have HM4 := Lib.hid (HMM.out.keep HKK.out (fun e => e))
    have HFG : Hid (∀ y, f k y = f k y) := Lib.hid (fun y => rfl)
    have HN := Lib.hid hN; have HT := Lib.hid ht; clear hN ht
    have e0 : w4.cell? ⟨w.heap.size, 0, none⟩ = some (.int .i64 txn) := HB4.out.cell 0
    have e2 : w4.cell? ⟨w.heap.size, 2, none⟩ = some (.int .i64 k) := HB4.out.cell 2
    have x0 : w4.cell? ⟨r, k, none⟩ = some (.map (some b4)) := by rw [H4.out.blk.cell, lock_map HK.out]; exact congrArg (fun z => some (Value.map z)) HMB4.out
    obtain ⟨w5, hrun, hm5, hk5, _⟩ := (HM4.out.keep ((Keep.refl (fun _ => False) w4).drew) (fun e => e)).store Tryz.underlying194 (by have := HN.out; unfold maxLen; omega) HT.out (.bool true)
    have HM5 := Lib.hid hm5
    have HK5 := Lib.hid (((Keep.refl (fun k => k = b4) w4).drew).trans hk5 (fun _ _ e => e))
    clear hm5 hk5
    go_upto_region 5 with fail
    go_still_tail 9, (by kernel_rfl)
    change wpList _ _ _ _ _ w4.drew
    go_wp2
    go_end0
    refine ⟨rfl, mb, ?_, (fun i hi => .inl rfl), (((HK1.out.trans HKK.out (fun _ _ e => e)).mono (fun _ _ e => e.elim)).trans HK5.out (fun i hi e => .inr ⟨k, HK.out, by have e' : i = b4 := e; rw [e']; exact HMB4.out⟩))⟩
    have hu := (H4.out.mono (Nat.le_succ N)).upd HK.out HMB4.out HK5.out HM5.out
    have ef : (fun i => if i = k then (fun y => if y = txn then some (.bool true) else f k y) else f i) = (fun i => if i = k then (fun y => if y = txn then some (.bool true) else f k y) else f i) := by
      funext i y
      by_cases e : i = k
      · subst e
        by_cases hy : y = txn
        · simp [hy]
        · simp [hy]; (try exact HFG.out y)
      · simp [e]
    rw [ef] at hu
    exact hu
end Go.Proofs.YthdkamnclbfehaaGreatDoor
/- history.run: the state of Lock, and how it lies in memory. -/
namespace Go.Proofs.YthdkamnclbfehaaGreatDoor
set_option linter.unusedSimpArgs false
set_option linter.unusedVariables false
set_option linter.unnecessarySimpa false
open Go.RowKit
theorem pair_le {α : Type} [DecidableEq α] : ∀ (l ks : List α), l.Pairwise (fun a b => a ≠ b) → (∀ x ∈ l, x ∈ ks) → l.length ≤ ks.length
  | [], _, _, _ => Nat.zero_le _
  | x :: l, ks, h, hm => by
    have hx : x ∈ ks := hm x (by simp)
    have h1 := (List.pairwise_cons.1 h)
    have h2 := pair_le l (ks.erase x) h1.2 (fun y hy => (List.mem_erase_of_ne (h1.1 y hy).symm).2 (hm y (by simp [hy])))
    rw [List.length_erase_of_mem hx] at h2
    have : 0 < ks.length := List.length_pos_of_mem hx
    simp only [List.length_cons]
    omega
theorem MapAt.tight {w : World} {b n : Nat} {f : Int → Option Value} (h : MapAt w b n f) (hk : ∀ y, (kI y).wf = true → (f y).isSome = true → 1 ≤ y ∧ y ≤ 6) : MapAt w b 6 f := by
  obtain ⟨D, ⟨es, clock, hb, F, hs, hD⟩, h1, h2⟩ := h
  refine ⟨D, ⟨es, clock, hb, F, ?_, hD⟩, h1, h2⟩
  have hap := Go.Maps.fit_apart keyI F
  have hmem : ∀ z ∈ (es.toList.map (WideElems.rg Tryz.prog 3 rawE)).map Prod.fst, z ∈ [kI 1, kI 2, kI 3, kI 4, kI 5, kI 6] := by
    intro z hz
    obtain ⟨p, hp, rfl⟩ := List.mem_map.1 hz
    obtain ⟨x, hx, rfl⟩ := List.mem_map.1 hp
    obtain ⟨y0, hy0⟩ := F.reads x hx
    obtain ⟨a, ha, hz, hwf⟩ := Go.Maps.keyOf_int_inv Tryz.underlying3 (WideElems.rd_key hy0)
    have e1 : (WideElems.rg Tryz.prog 3 rawE x).1 = kI a := by rw [WideElems.rg_of hy0]; exact hz
    have hhas : Go.Maps.has D (kI a) = true := by
      rw [hD]
      exact List.any_eq_true.2 ⟨WideElems.rg Tryz.prog 3 rawE x, Go.mem_sorted.2 hp, by rw [e1]; exact WideAt.sameKey_self (kI_key hwf)⟩
    have h3 := h1 a hwf
    rw [hhas] at h3
    obtain ⟨q1, q2⟩ := hk a hwf h3.symm
    rw [e1]
    have : a = 1 ∨ a = 2 ∨ a = 3 ∨ a = 4 ∨ a = 5 ∨ a = 6 := by omega
    rcases this with rfl | rfl | rfl | rfl | rfl | rfl <;> simp
  letI : DecidableEq Lit := Classical.typeDecidableEq Lit
  have hl := pair_le _ [kI 1, kI 2, kI 3, kI 4, kI 5, kI 6] (List.pairwise_map.2 hap) hmem
  simpa using hl
abbrev LOp := Int × Int × Int
def opC (o : LOp) : List Value := [.int .i64 o.1, .int .i64 o.2.1, .int .i64 o.2.2]
def opsC (l : List LOp) : List Value := l.flatMap opC
def heldC (l : List (LOp × Int)) : List Value := l.flatMap (fun x => opC x.1 ++ [.int .i64 x.2])
def OpOK (o : LOp) : Prop := 1 ≤ o.1 ∧ o.1 ≤ 6 ∧ 0 ≤ o.2.1 ∧ o.2.1 ≤ 3 ∧ 0 ≤ o.2.2 ∧ o.2.2 ≤ 5
structure LS where
  done : List LOp
  ab : List Int
  ex : Nat → Int
  sh : Nat → Int → Bool
  wt : Int → List (LOp × Int)
structure WtAt (base : Nat) (w : World) (bw : Nat) (vw : Int → Option Value) (wt : Int → List (LOp × Int)) : Prop where
  map : MapAt w bw 6 vw
  ge : base ≤ bw
  emp : ∀ t, (kI t).wf = true → vw t = none → wt t = []
  win : ∀ t v, (kI t).wf = true → vw t = some v → Win w base 204 4 v (wt t).length (heldC (wt t))
  apart : ∀ t u v v' g, (kI t).wf = true → (kI u).wf = true → vw t = some v → vw u = some v' → v.ownBlock = some g → v'.ownBlock = some g → t = u
  keys : ∀ t v, (kI t).wf = true → vw t = some v → 1 ≤ t ∧ t ≤ 6
structure RunV where
  mb : Nat → Option Nat
  f : Nat → Int → Option Value
  vd : Value
  va : Value
  bw : Nat
  vw : Int → Option Value
structure RunAt (base : Nat) (w : World) (r : Nat) (V : RunV) (s : LS) : Prop where
  lk : Lk w r V.mb s.ex V.f 6 [V.vd, V.va, .map (some V.bw)]
  sh : ∀ i y, i < 6 → (kI y).wf = true → (V.f i y).isSome = s.sh i y
  keys : ∀ i y, i < 6 → (kI y).wf = true → s.sh i y = true → 1 ≤ y ∧ y ≤ 6
  exs : ∀ i, i < 6 → 0 ≤ s.ex i ∧ s.ex i ≤ 6
  done : w.ownsRow base 146 3 V.vd s.done.length (opsC s.done)
  ab : w.ownsRow base 3 1 V.va s.ab.length (icells s.ab)
  wt : WtAt base w V.bw V.vw s.wt
  ne : ∀ i, i < 6 → V.mb i ≠ some V.bw
  ge : base ≤ r
  mge : ∀ i b, i < 6 → V.mb i = some b → base ≤ b
theorem kI_wf {t : Int} (h1 : 0 ≤ t) (h2 : t ≤ 100) : (kI t).wf = true := by
  unfold kI
  exact WalkArith.wf_i64 (by omega)
theorem opsC_snoc (l : List LOp) (o : LOp) : opsC (l ++ [o]) = opsC l ++ opC o := by simp [opsC]
theorem opsC_one (l : List LOp) : ∀ u ∈ opsC l, u.oneCell' = true := by
  intro u hu
  simp only [opsC, List.mem_flatMap] at hu
  obtain ⟨o, _, h⟩ := hu
  simp [opC] at h
  rcases h with rfl | rfl | rfl <;> rfl
theorem heldC_snoc (l : List (LOp × Int)) (x : LOp × Int) : heldC (l ++ [x]) = heldC l ++ (opC x.1 ++ [.int .i64 x.2]) := by simp [heldC]
theorem heldC_cons (l : List (LOp × Int)) (x : LOp × Int) : heldC (x :: l) = (opC x.1 ++ [.int .i64 x.2]) ++ heldC l := by simp [heldC]
def RunV.fp (V : RunV) (r : Nat) (k : Nat) : Prop := k = r ∨ k = V.bw ∨ V.vd.ownBlock = some k ∨ V.va.ownBlock = some k ∨ (∃ i, i < 6 ∧ V.mb i = some k) ∨ ∃ t v, (kI t).wf = true ∧ V.vw t = some v ∧ v.ownBlock = some k
theorem WtAt.keep {S : Nat → Prop} {base : Nat} {w w' : World} {bw : Nat} {vw : Int → Option Value} {wt : Int → List (LOp × Int)} (h : WtAt base w bw vw wt) (k : Keep S w w') (hb : ¬ S bw) (hv : ∀ t v g, (kI t).wf = true → vw t = some v → v.ownBlock = some g → ¬ S g) : WtAt base w' bw vw wt :=
  ⟨h.map.keep k hb, h.ge, h.emp, fun t v ht e => (h.win t v ht e).keep k (fun g hg => hv t v g ht e hg), h.apart, h.keys⟩
theorem RunAt.keep {S : Nat → Prop} {base : Nat} {w w' : World} {r : Nat} {V : RunV} {s : LS} (h : RunAt base w r V s) (k : Keep S w w') (hS : ∀ b, V.fp r b → ¬ S b) : RunAt base w' r V s :=
  ⟨h.lk.keep k (hS r (.inl rfl)) (fun i b hi e => hS b (.inr (.inr (.inr (.inr (.inl ⟨i, hi, e⟩)))))), h.sh, h.keys, h.exs, ownsRow_keep h.done k (fun g hg => hS g (.inr (.inr (.inl hg)))), ownsRow_keep h.ab k (fun g hg => hS g (.inr (.inr (.inr (.inl hg))))),
   h.wt.keep k (hS _ (.inr (.inl rfl))) (fun t v g ht e hg => hS g (.inr (.inr (.inr (.inr (.inr ⟨t, v, ht, e, hg⟩)))))), h.ne, h.ge, h.mge⟩
theorem RunAt.idle {base : Nat} {w w' : World} {r : Nat} {V : RunV} {s : LS} (h : RunAt base w r V s) (k : Keep (fun _ => False) w w') : RunAt base w' r V s := h.keep k (fun _ _ e => e)
end Go.Proofs.YthdkamnclbfehaaGreatDoor
/- history.run: what its steps do to the state. -/
namespace Go.Proofs.YthdkamnclbfehaaGreatDoor
set_option linter.unusedSimpArgs false
set_option linter.unusedVariables false
set_option linter.unnecessarySimpa false
open Go.RowKit
def Hd (s : LS) (o : LOp) (y : Int) : Prop := (s.ex o.2.2.toNat ≠ 0 ∧ s.ex o.2.2.toNat ≠ o.1 ∧ y = s.ex o.2.2.toNat) ∨ (o.2.1 = 1 ∧ (kI y).wf = true ∧ s.sh o.2.2.toNat y = true ∧ y ≠ o.1)
def Hdd (s : LS) (o : LOp) : Prop := o.2.1 ≤ 1 ∧ ∃ y, Hd s o y
def takeS (s : LS) (o : LOp) : LS := if o.2.1 = 1 then { s with ex := fun i => if i = o.2.2.toNat then o.1 else s.ex i } else { s with sh := fun i y => if i = o.2.2.toNat ∧ y = o.1 then true else s.sh i y }
def relS (s : LS) (t : Int) : LS := { s with ex := relEx s.ex t 6, sh := fun i y => if i < 6 ∧ y = t then false else s.sh i y }
def actS (s : LS) (o : LOp) : LS := if o.2.1 ≤ 1 then takeS s o else relS s o.1
def updW (wt : Int → List (LOp × Int)) (t : Int) (l : List (LOp × Int)) : Int → List (LOp × Int) := fun u => if u = t then l else wt u
def doS (s : LS) (t : Int) (o : LOp) (rest : List (LOp × Int)) : LS := { actS s o with done := s.done ++ [o], wt := updW s.wt t rest }
def abortS (s : LS) (t : Int) : LS := { relS s t with done := s.done ++ [(t, 3, 0)], ab := s.ab ++ [t], wt := updW s.wt t [] }
theorem actS_same (s : LS) (o : LOp) : (actS s o).done = s.done ∧ (actS s o).ab = s.ab ∧ (actS s o).wt = s.wt := by
  unfold actS takeS relS; split
  · split <;> exact ⟨rfl, rfl, rfl⟩
  · exact ⟨rfl, rfl, rfl⟩
theorem Win_cells {w : World} {base : Nat} {e : TypeId} {size : Nat} {v : Value} {n : Nat} {xs : List Value} (h : Win w base e size v n xs) {g : Nat} (hg : v.ownBlock = some g) : ∃ cur fz, w.heap[g]? = some (.cells cur e fz) := by
  rcases h.2 with ⟨rfl, _⟩ | ⟨g', o, cap, cur, rfl, hb, hh, _⟩
  · cases hg
  · cases hg; exact ⟨cur, _, hh⟩
theorem MapOr.tight {w : World} {mb : Option Nat} {n : Nat} {f : Int → Option Value} (h : MapOr w mb n f) (hk : ∀ y, (kI y).wf = true → (f y).isSome = true → 1 ≤ y ∧ y ≤ 6) : MapOr w mb 6 f := by
  rcases h with h | ⟨b, rfl, h⟩
  · exact .inl h
  · exact .inr ⟨b, rfl, h.tight hk⟩
theorem MapOr.at {w : World} {mb : Option Nat} {n b : Nat} {f : Int → Option Value} (h : MapOr w mb n f) (e : mb = some b) : MapAt w b n f := by
  rcases h with ⟨e1, _⟩ | ⟨b', e1, h⟩
  · rw [e] at e1; cases e1
  · rw [e] at e1; cases e1; exact h
theorem RunAt.locks {base N : Nat} {w w' : World} {r : Nat} {V : RunV} {s : LS} (h : RunAt base w r V s) {mb' : Nat → Option Nat} {ex' : Nat → Int} {f' : Nat → Int → Option Value} {sh' : Nat → Int → Bool}
    (hl : Lk w' r mb' ex' f' N [V.vd, V.va, .map (some V.bw)]) (hmb : ∀ i, i < 6 → mb' i = V.mb i ∨ ∃ b, mb' i = some b ∧ w.heap.size ≤ b) (hk : Keep (fun k => k = r ∨ ∃ i, i < 6 ∧ V.mb i = some k) w w')
    (hsh : ∀ i y, i < 6 → (kI y).wf = true → (f' i y).isSome = sh' i y) (hkeys : ∀ i y, i < 6 → (kI y).wf = true → sh' i y = true → 1 ≤ y ∧ y ≤ 6) (hexs : ∀ i, i < 6 → 0 ≤ ex' i ∧ ex' i ≤ 6) (hb : base ≤ w.heap.size) :
    RunAt base w' r { V with mb := mb', f := f' } { s with ex := ex', sh := sh' } := by
  have hcell : ∀ g cur t fz, w.heap[g]? = some (.cells cur t fz) → t ≠ 200 → ¬ (g = r ∨ ∃ i, i < 6 ∧ V.mb i = some g) := by
    intro g cur t fz hg ht
    rintro (e | ⟨i, hi, e⟩)
    · subst e
      have hb := h.lk.blk
      unfold Blk at hb
      rw [hg] at hb
      have e2 := Option.some.inj hb
      injection e2 with _ e3
      exact ht e3
    · exact ((h.lk.maps i hi).at e).ne_cells hg rfl
  have hbw : ¬ (V.bw = r ∨ ∃ i, i < 6 ∧ V.mb i = some V.bw) := by
    rintro (e | ⟨i, hi, e⟩)
    · exact h.wt.map.ne_cells h.lk.blk e
    · exact h.ne i hi e
  refine ⟨⟨hl.blk, fun i hi => (hl.maps i hi).tight (fun y hy e => hkeys i y hi hy ((hsh i y hi hy).symm.trans e)), hl.apart⟩, hsh, hkeys, hexs, ?_, ?_, ?_, ?_, h.ge, ?_⟩
  · exact ownsRow_keep h.done hk (fun g hg => by obtain ⟨cur, fz, hc⟩ := ownsRow_cells h.done hg; exact hcell g cur _ fz hc (by decide))
  · exact ownsRow_keep h.ab hk (fun g hg => by obtain ⟨cur, fz, hc⟩ := ownsRow_cells h.ab hg; exact hcell g cur _ fz hc (by decide))
  · exact h.wt.keep hk hbw (fun t v g ht e hg => by obtain ⟨cur, fz, hc⟩ := Win_cells (h.wt.win t v ht e) hg; exact hcell g cur _ fz hc (by decide))
  · intro i hi e
    rcases hmb i hi with e1 | ⟨b, e1, hb⟩
    · exact h.ne i hi (e1.symm.trans e)
    · have e2 : b = V.bw := Option.some.inj (e1.symm.trans e)
      have := h.wt.map.lt
      omega
  · intro i b hi e
    rcases hmb i hi with e1 | ⟨b', e1, hb'⟩
    · exact h.mge i b hi (e1.symm.trans e)
    · have e2 : b' = b := Option.some.inj (e1.symm.trans e)
      omega
theorem RunAt.fp_ge {base : Nat} {w : World} {r : Nat} {V : RunV} {s : LS} (h : RunAt base w r V s) {k : Nat} (hk : V.fp r k) : base ≤ k ∧ k < w.heap.size := by
  rcases hk with rfl | rfl | e | e | ⟨i, hi, e⟩ | ⟨t, v, ht, e, hg⟩
  · exact ⟨h.ge, h.lk.blk.lt⟩
  · exact ⟨h.wt.ge, h.wt.map.lt⟩
  · exact ownsRow_lt h.done k e
  · exact ownsRow_lt h.ab k e
  · exact ⟨h.mge i k hi e, ((h.lk.maps i hi).at e).lt⟩
  · exact (h.wt.win t v ht e).lt k hg
theorem hind_of {base : Nat} {w : World} {r : Nat} {V : RunV} {s : LS} (h : RunAt base w r V s) {o : LOp} (ho : OpOK o) (y : Int) : HindP (s.ex o.2.2.toNat) o.1 o.2.1 (V.f o.2.2.toNat) y ↔ Hd s o y := by
  have hi : o.2.2.toNat < 6 := by have := ho.2.2.2.2; omega
  unfold HindP Hd
  constructor
  · rintro (q | ⟨q1, q2, q3, q4⟩)
    · exact .inl q
    · exact .inr ⟨q1, q2, (h.sh _ y hi q2).symm.trans q3, q4⟩
  · rintro (q | ⟨q1, q2, q3, q4⟩)
    · exact .inl q
    · exact .inr ⟨q1, q2, (h.sh _ y hi q2).trans q3, q4⟩
end Go.Proofs.YthdkamnclbfehaaGreatDoor
/- history.run: writes into the state. -/
namespace Go.Proofs.YthdkamnclbfehaaGreatDoor
set_option linter.unusedSimpArgs false
set_option linter.unusedVariables false
set_option linter.unnecessarySimpa false
open Go.RowKit
theorem lock_rest {mb : Nat → Option Nat} {ex : Nat → Int} {rest : List Value} {j : Nat} : (lockCells mb ex rest)[12 + j]? = rest[j]? := by
  unfold lockCells
  rw [Array.getElem?_append_right (by simp)]
  simp
theorem lock_set_rest {mb : Nat → Option Nat} {ex : Nat → Int} {rest : List Value} {j : Nat} (v : Value) : (lockCells mb ex rest).setIfInBounds (12 + j) v = lockCells mb ex (rest.set j v) := by
  unfold lockCells
  rw [Array.setIfInBounds_append_right (by simp)]
  simp
theorem Lk.setRest {w : World} {r N : Nat} {mb : Nat → Option Nat} {ex : Nat → Int} {f : Nat → Int → Option Value} {rest : List Value} (h : Lk w r mb ex f N rest) (j : Nat) (v : Value) :
    Lk (w.setCell ⟨r, 12 + j, none⟩ v) r mb ex f N (rest.set j v) := by
  have k : Keep (fun k => k = r) w (w.setCell ⟨r, 12 + j, none⟩ v) := (Keep.refl _ _).setCell _ _ (fun _ => rfl)
  refine ⟨by rw [← lock_set_rest]; exact h.blk.set _ _, fun i hi => (h.maps i hi).keep k (fun b hb e => ?_), h.apart⟩
  exact ((h.maps i hi).at hb).ne_cells h.blk e
theorem RunAt.notLk {base : Nat} {w : World} {r : Nat} {V : RunV} {s : LS} (h : RunAt base w r V s) {g : Nat} {cur : Array Value} {t : TypeId} {fz : Nat × Nat} (hg : w.heap[g]? = some (.cells cur t fz)) (ht : t ≠ 200) : g ≠ r ∧ g ≠ V.bw ∧ ∀ i, i < 6 → V.mb i ≠ some g := by
  refine ⟨fun e => ?_, fun e => h.wt.map.ne_cells hg e.symm, fun i hi e => ((h.lk.maps i hi).at e).ne_cells hg rfl⟩
  subst e
  have hb := h.lk.blk
  unfold Blk at hb
  rw [hg] at hb
  have e2 := Option.some.inj hb
  injection e2 with _ e3
  exact ht e3
theorem cells_ne {w : World} {g g' : Nat} {c c' : Array Value} {t t' : TypeId} {z z' : Nat × Nat} (h : w.heap[g]? = some (.cells c t z)) (h' : w.heap[g']? = some (.cells c' t' z')) (hne : t ≠ t') : g ≠ g' := by
  intro e; subst e; rw [h] at h'
  have e2 := Option.some.inj h'
  injection e2 with _ e3
  exact hne e3
theorem RunAt.pushDone {base : Nat} {w w7 : World} {r : Nat} {V : RunV} {s : LS} (h : RunAt base w r V s) {v' : Value} {o : LOp} (hk : Keep (fun k => V.vd.ownBlock = some k) w w7) (hown : w7.ownsRow base 146 3 v' (s.done.length + 1) (opsC (s.done ++ [o]))) :
    RunAt base (w7.setCell ⟨r, 12, none⟩ v') r { V with vd := v' } { s with done := s.done ++ [o] } := by
  have hd : ∀ g, V.vd.ownBlock = some g → g ≠ r ∧ g ≠ V.bw ∧ ∀ i, i < 6 → V.mb i ≠ some g := fun g hg => by
    obtain ⟨cur, fz, hc⟩ := ownsRow_cells h.done hg; exact h.notLk hc (by decide)
  have hl7 : Lk w7 r V.mb s.ex V.f 6 [V.vd, V.va, .map (some V.bw)] := h.lk.keep hk (fun e => (hd r e).1 rfl) (fun i b hi e e2 => (hd b e2).2.2 i hi e)
  have hk8 : Keep (fun k => k = r) w7 (w7.setCell ⟨r, 12, none⟩ v') := (Keep.refl _ _).setCell _ _ (fun _ => rfl)
  have hab7 := ownsRow_keep h.ab hk (fun g hg e => by
    obtain ⟨c1, z1, q1⟩ := ownsRow_cells h.ab hg; obtain ⟨c2, z2, q2⟩ := ownsRow_cells h.done e; exact cells_ne q1 q2 (by decide) rfl)
  have hwt7 := h.wt.keep hk (fun e => (hd _ e).2.1 rfl) (fun t v g ht e hg e2 => by
    obtain ⟨c1, z1, q1⟩ := Win_cells (h.wt.win t v ht e) hg; obtain ⟨c2, z2, q2⟩ := ownsRow_cells h.done e2; exact cells_ne q1 q2 (by decide) rfl)
  have hr7 := hl7.blk
  unfold Blk at hr7
  refine ⟨hl7.setRest 0 v', h.sh, h.keys, h.exs, ?_, ?_, ?_, h.ne, h.ge, h.mge⟩
  · show (w7.setCell ⟨r, 12, none⟩ v').ownsRow base 146 3 v' (s.done ++ [o]).length (opsC (s.done ++ [o]))
    rw [List.length_append]
    exact ownsRow_keep hown hk8 (fun g hg e => by obtain ⟨c1, z1, q1⟩ := ownsRow_cells hown hg; exact cells_ne q1 hr7 (by decide) e)
  · exact ownsRow_keep hab7 hk8 (fun g hg e => by obtain ⟨c1, z1, q1⟩ := ownsRow_cells hab7 hg; exact cells_ne q1 hr7 (by decide) e)
  · exact hwt7.keep hk8 (fun e => hwt7.map.ne_cells hr7 e) (fun t v g ht e hg e2 => by obtain ⟨c1, z1, q1⟩ := Win_cells (hwt7.win t v ht e) hg; exact cells_ne q1 hr7 (by decide) e2)
theorem RunAt.pushAb {base : Nat} {w w7 : World} {r : Nat} {V : RunV} {s : LS} (h : RunAt base w r V s) {v' : Value} {t : Int} (hk : Keep (fun k => V.va.ownBlock = some k) w w7) (hown : w7.ownsRow base 3 1 v' (s.ab.length + 1) (icells (s.ab ++ [t]))) :
    RunAt base (w7.setCell ⟨r, 13, none⟩ v') r { V with va := v' } { s with ab := s.ab ++ [t] } := by
  have hd : ∀ g, V.va.ownBlock = some g → g ≠ r ∧ g ≠ V.bw ∧ ∀ i, i < 6 → V.mb i ≠ some g := fun g hg => by
    obtain ⟨cur, fz, hc⟩ := ownsRow_cells h.ab hg; exact h.notLk hc (by decide)
  have hl7 : Lk w7 r V.mb s.ex V.f 6 [V.vd, V.va, .map (some V.bw)] := h.lk.keep hk (fun e => (hd r e).1 rfl) (fun i b hi e e2 => (hd b e2).2.2 i hi e)
  have hk8 : Keep (fun k => k = r) w7 (w7.setCell ⟨r, 13, none⟩ v') := (Keep.refl _ _).setCell _ _ (fun _ => rfl)
  have hdn7 := ownsRow_keep h.done hk (fun g hg e => by
    obtain ⟨c1, z1, q1⟩ := ownsRow_cells h.done hg; obtain ⟨c2, z2, q2⟩ := ownsRow_cells h.ab e; exact cells_ne q1 q2 (by decide) rfl)
  have hwt7 := h.wt.keep hk (fun e => (hd _ e).2.1 rfl) (fun t v g ht e hg e2 => by
    obtain ⟨c1, z1, q1⟩ := Win_cells (h.wt.win t v ht e) hg; obtain ⟨c2, z2, q2⟩ := ownsRow_cells h.ab e2; exact cells_ne q1 q2 (by decide) rfl)
  have hr7 := hl7.blk
  unfold Blk at hr7
  refine ⟨hl7.setRest 1 v', h.sh, h.keys, h.exs, ?_, ?_, ?_, h.ne, h.ge, h.mge⟩
  · exact ownsRow_keep hdn7 hk8 (fun g hg e => by obtain ⟨c1, z1, q1⟩ := ownsRow_cells hdn7 hg; exact cells_ne q1 hr7 (by decide) e)
  · show (w7.setCell ⟨r, 13, none⟩ v').ownsRow base 3 1 v' (s.ab ++ [t]).length (icells (s.ab ++ [t]))
    rw [List.length_append]
    exact ownsRow_keep hown hk8 (fun g hg e => by obtain ⟨c1, z1, q1⟩ := ownsRow_cells hown hg; exact cells_ne q1 hr7 (by decide) e)
  · exact hwt7.keep hk8 (fun e => hwt7.map.ne_cells hr7 e) (fun t v g ht e hg e2 => by obtain ⟨c1, z1, q1⟩ := Win_cells (hwt7.win t v ht e) hg; exact cells_ne q1 hr7 (by decide) e2)
theorem RunAt.setWt {base : Nat} {w w' : World} {r : Nat} {V : RunV} {s : LS} (h : RunAt base w r V s) {t : Int} (ht : 1 ≤ t ∧ t ≤ 6) {v' : Value} {l : List (LOp × Int)} {n : Nat} (hm : MapAt w' V.bw n (fun y => if y = t then some v' else V.vw y))
    (hk : Keep (fun k => k = V.bw ∨ ∃ v0, V.vw t = some v0 ∧ v0.ownBlock = some k) w w') (hwin : Win w' base 204 4 v' l.length (heldC l)) (hap : ∀ u v g, (kI u).wf = true → u ≠ t → V.vw u = some v → v.ownBlock = some g → v'.ownBlock ≠ some g) :
    RunAt base w' r { V with vw := fun y => if y = t then some v' else V.vw y } { s with wt := updW s.wt t l } := by
  have htw : (kI t).wf = true := kI_wf (by omega) (by omega)
  have hcell : ∀ g cur t' fz, w.heap[g]? = some (.cells cur t' fz) → t' ≠ 204 → ¬ (g = V.bw ∨ ∃ v0, V.vw t = some v0 ∧ v0.ownBlock = some g) := by
    intro g cur t' fz hg hne
    rintro (e | ⟨v0, e, hg0⟩)
    · exact h.wt.map.ne_cells hg e.symm
    · obtain ⟨c1, z1, q1⟩ := Win_cells (h.wt.win t v0 htw e) hg0
      exact cells_ne hg q1 hne rfl
  have hr := h.lk.blk
  unfold Blk at hr
  refine ⟨h.lk.keep hk (hcell r _ _ _ hr (by decide)) (fun i b hi e => ?_), h.sh, h.keys, h.exs, ?_, ?_, ⟨?_, h.wt.ge, ?_, ?_, ?_, ?_⟩, h.ne, h.ge, h.mge⟩
  · rintro (e2 | ⟨v0, e2, hg0⟩)
    · exact h.ne i hi (by rw [e, e2])
    · obtain ⟨c1, z1, q1⟩ := Win_cells (h.wt.win t v0 htw e2) hg0
      exact ((h.lk.maps i hi).at e).ne_cells q1 rfl
  · exact ownsRow_keep h.done hk (fun g hg => by obtain ⟨cur, fz, hc⟩ := ownsRow_cells h.done hg; exact hcell g cur _ fz hc (by decide))
  · exact ownsRow_keep h.ab hk (fun g hg => by obtain ⟨cur, fz, hc⟩ := ownsRow_cells h.ab hg; exact hcell g cur _ fz hc (by decide))
  · refine hm.tight (fun y hy e => ?_)
    by_cases ey : y = t
    · subst ey; exact ht
    · simp only [if_neg ey] at e
      obtain ⟨v, hv⟩ := Option.isSome_iff_exists.1 e
      exact h.wt.keys y v hy hv
  · intro u hu e
    unfold updW
    by_cases eu : u = t
    · simp [eu] at e
    · simp only [if_neg eu] at e ⊢; exact h.wt.emp u hu e
  · intro u v hu e
    unfold updW
    by_cases eu : u = t
    · simp only [if_pos eu] at e ⊢; cases e; exact hwin
    · simp only [if_neg eu] at e ⊢
      refine (h.wt.win u v hu e).keep hk (fun g hg => ?_)
      rintro (e2 | ⟨v0, e2, hg0⟩)
      · obtain ⟨c1, z1, q1⟩ := Win_cells (h.wt.win u v hu e) hg
        exact h.wt.map.ne_cells q1 e2.symm
      · exact eu (h.wt.apart u t v v0 g hu htw e e2 hg hg0)
  · intro u1 u2 v1 v2 g hu1 hu2 e1 e2 g1 g2
    by_cases a1 : u1 = t <;> by_cases a2 : u2 = t
    · rw [a1, a2]
    · simp only [if_pos a1] at e1; simp only [if_neg a2] at e2; cases e1; exact absurd g1 (hap u2 v2 g hu2 a2 e2 g2)
    · simp only [if_neg a1] at e1; simp only [if_pos a2] at e2; cases e2; exact absurd g2 (hap u1 v1 g hu1 a1 e1 g1)
    · simp only [if_neg a1] at e1; simp only [if_neg a2] at e2; exact h.wt.apart u1 u2 v1 v2 g hu1 hu2 e1 e2 g1 g2
  · intro u v hu e
    by_cases eu : u = t
    · subst eu; exact ht
    · simp only [if_neg eu] at e; exact h.wt.keys u v hu e
end Go.Proofs.YthdkamnclbfehaaGreatDoor
/- history.run.try: the first operation that a transaction holds back. -/
namespace Go.Proofs.YthdkamnclbfehaaGreatDoor
set_option linter.unusedSimpArgs false
set_option linter.unusedVariables false
set_option linter.unnecessarySimpa false
open Go.RowKit
theorem evalsL {a : Act} {k : Nat} {v : Value} (h : a.tmps[k]?.getD undef = v) : a.eval (.tmp k) = v := by rw [← h]; simp [Act.eval]
theorem zero202 (W : World) : (zeroValue 202).run Tryz.prog W = .ok (.slice none 0 0) W := by kernel_rfl
theorem info146 : (Tryz.prog.info? 146).map (fun i => (i.zero, i.size, i.bytes)) = some (some (.agg #[.int .i64 0, .int .i64 0, .int .i64 0]), 3, 24) := by kernel_rfl
theorem run_tail (W : World) (g o n cap : Nat) (hn : 1 ≤ n) : (Instr.slice 202 (.slice (some ⟨g, o, none⟩) n cap) (some (.int .i64 1)) none none).run Tryz.prog W = .ok (.slice (some ⟨g, if cap = 1 then o else o + 4, none⟩) (n - 1) (cap - 1)) W := by
  rw [run_slice_l W 202 (some ⟨g, o, none⟩) n cap (by kernel_rfl) .i64 1 (by omega) (by omega)]
  have h1 : (sizeOf (Tryz.prog.elem 202)).run Tryz.prog W = .ok 4 W := by kernel_rfl
  rw [h1]
  simp only [Result.andThen_ok, sliced]
  by_cases hc : cap = 1
  · subst hc; simp
  · simp [hc, add_lit]
theorem Win.tail' {w : World} {base : Nat} {e : TypeId} {size : Nat} {g o n cap : Nat} {xs : List Value} (h : Win w base e size (.slice (some ⟨g, o, none⟩) (n + 1) cap) (n + 1) xs) : Win w base e size (.slice (some ⟨g, if cap = 1 then o else o + size, none⟩) n (cap - 1)) n (xs.drop size) := by
  by_cases hc : cap = 1
  · rw [if_pos hc]
    have ht := h.tail
    rcases h.2 with ⟨hv, _⟩ | ⟨g', o', cap', cur, hv, hb, hg, hnc, hcm, hcs, htk⟩
    · cases hv
    · cases hv
      have hn : n = 0 := by omega
      subst hn
      refine ⟨ht.1, .inr ⟨g, o, cap - 1, cur, rfl, hb, hg, by omega, by omega, ?_, ?_⟩⟩
      · rw [hc]; simp; omega
      · have := ht.1; simp at this; rw [hc] at *; simp; omega
  · rw [if_neg hc]; exact h.tail
def LkTryPost (base : Nat) (w : World) (r : Nat) (s : LS) (t : Int) (o : LOp) (rest : List (LOp × Int)) (e : Ending) (w' : World) : Prop :=
  (Hdd s o ∧ e = .returned (.bool false) ∧ Keep (fun _ => False) w w') ∨ (¬ Hdd s o ∧ e = .returned (.bool true) ∧ (∃ V', RunAt base w' r V' (doS s t o rest)) ∧ Keep (fun k => base ≤ k) w w')
theorem wt_first {base : Nat} {w : World} {r : Nat} {V : RunV} {s : LS} (h : RunAt base w r V s) {t : Int} (ht : 1 ≤ t ∧ t ≤ 6) {x : LOp × Int} {rest : List (LOp × Int)} (hw : s.wt t = x :: rest) :
    ∃ g o cap, V.vw t = some (.slice (some ⟨g, o, none⟩) (rest.length + 1) cap) ∧ rest.length + 1 ≤ cap ∧ Win w base 204 4 (.slice (some ⟨g, o, none⟩) (rest.length + 1) cap) (rest.length + 1) (heldC (x :: rest)) := by
  have htw : (kI t).wf = true := kI_wf (by omega) (by omega)
  cases hv : V.vw t with
  | none => have := h.wt.emp t htw hv; rw [hw] at this; cases this
  | some v =>
    have hwin := h.wt.win t v htw hv
    rw [hw] at hwin
    rcases hwin.shape with ⟨_, h0⟩ | ⟨g, o, cap, rfl, hc, _⟩
    · simp at h0
    · exact ⟨g, o, cap, rfl, hc, hwin⟩
def takeEx (ex : Nat → Int) (k : Nat) (txn kind : Int) : Nat → Int := if kind = 1 then (fun i => if i = k then txn else ex i) else ex
def takeFn (f : Nat → Int → Option Value) (k : Nat) (txn kind : Int) : Nat → Int → Option Value := if kind = 1 then f else (fun i => if i = k then (fun y => if y = txn then some (.bool true) else f k y) else f i)
theorem lkTake_any {w : World} {r N k : Nat} {mb : Nat → Option Nat} {ex : Nat → Int} {f : Nat → Int → Option Value} {rest : List Value} {txn kind : Int} (h : Lk w r mb ex f N rest) (hk : k < 6) (ht : (kI txn).wf = true) (hN : N ≤ 1000) :
    Calls Tryz.prog 177 #[.pointer (some ⟨r, 0, none⟩), .agg #[.int .i64 txn, .int .i64 kind, .int .i64 k]] w (LkPost w r mb (takeEx ex k txn kind) (takeFn f k txn kind) (N + 1) rest) := by
  by_cases e : kind = 1
  · subst e
    have h2 := take_w (txn := txn) h hk
    simpa [takeEx, takeFn] using h2
  · have h2 := take_r (txn := txn) (kind := kind) h hk (by simpa using e) ht hN
    simpa [takeEx, takeFn, e] using h2
theorem run_take {base : Nat} {w w' : World} {r : Nat} {V : RunV} {s : LS} {e : Ending} (h : RunAt base w r V s) (hb : base ≤ w.heap.size) {txn kind : Int} {k : Nat} (ho : OpOK (txn, kind, (k : Int)))
    (hp : LkPost w r V.mb (takeEx s.ex k txn kind) (takeFn V.f k txn kind) 7 [V.vd, V.va, .map (some V.bw)] e w') :
    e = .returned (.tuple #[]) ∧ (∃ V1, RunAt base w' r V1 (takeS s (txn, kind, (k : Int))) ∧ V1.bw = V.bw ∧ V1.vw = V.vw ∧ V1.vd = V.vd) ∧ Keep (fun j => base ≤ j) w w' ∧ Keep (fun j => j = r ∨ ∃ i, i < 6 ∧ V.mb i = some j) w w' := by
  obtain ⟨rfl, mb', hl, hmb, hk⟩ := hp
  have ht := ho.1
  have ht2 := ho.2.1
  have hkk : k < 6 := by have := ho.2.2.2.2.2; simp at this; omega
  dsimp only at ht ht2
  have hkb : Keep (fun j => base ≤ j) w w' := hk.mono (fun j hj q => by
    rcases q with rfl | ⟨i, hi, q⟩
    · exact h.ge
    · exact h.mge i j hi q)
  by_cases ek : kind = 1
  · subst ek
    have hr := h.locks (sh' := s.sh) (N := 7) (mb' := mb') (ex' := fun i => if i = k then txn else s.ex i) (f' := V.f) (by simpa [takeEx, takeFn] using hl) hmb hk h.sh h.keys (fun i hi => by
      by_cases e : i = k
      · simp only [if_pos e]; omega
      · simp only [if_neg e]; exact h.exs i hi) hb
    exact ⟨rfl, ⟨{ V with mb := mb' }, by simpa [takeS] using hr, rfl, rfl, rfl⟩, hkb, hk⟩
  · have hr := h.locks (sh' := fun i y => if i = k ∧ y = txn then true else s.sh i y) (N := 7) (mb' := mb') (ex' := s.ex) (f' := takeFn V.f k txn kind) (by simpa [takeEx, ek] using hl) hmb hk (fun i y hi hy => by
      simp only [takeFn, if_neg ek]
      by_cases e : i = k
      · subst e
        by_cases ey : y = txn
        · simp [ey]
        · simp [ey]; exact h.sh i y hi hy
      · simp [e]; exact h.sh i y hi hy) (fun i y hi hy q => by
      by_cases e : i = k ∧ y = txn
      · omega
      · rw [if_neg e] at q; exact h.keys i y hi hy q) h.exs hb
    exact ⟨rfl, ⟨{ V with mb := mb', f := takeFn V.f k txn kind }, by simpa [takeS, ek] using hr, rfl, rfl, rfl⟩, hkb, hk⟩
theorem run_rel {base : Nat} {w w' : World} {r : Nat} {V : RunV} {s : LS} {e : Ending} (h : RunAt base w r V s) (hb : base ≤ w.heap.size) {t : Int}
    (hp : LkPost w r V.mb (relEx s.ex t 6) (relF V.f t 6) 6 [V.vd, V.va, .map (some V.bw)] e w') :
    e = .returned (.tuple #[]) ∧ (∃ V1, RunAt base w' r V1 (relS s t) ∧ V1.bw = V.bw ∧ V1.vw = V.vw ∧ V1.vd = V.vd) ∧ Keep (fun j => base ≤ j) w w' ∧ Keep (fun j => j = r ∨ ∃ i, i < 6 ∧ V.mb i = some j) w w' := by
  obtain ⟨rfl, mb', hl, hmb, hk⟩ := hp
  have hkb : Keep (fun j => base ≤ j) w w' := hk.mono (fun j hj q => by
    rcases q with rfl | ⟨i, hi, q⟩
    · exact h.ge
    · exact h.mge i j hi q)
  have hr := h.locks (sh' := fun i y => if i < 6 ∧ y = t then false else s.sh i y) (N := 6) (mb' := mb') (ex' := relEx s.ex t 6) (f' := relF V.f t 6) hl hmb hk (fun i y hi hy => by
      simp only [relF]
      by_cases e : i < 6 ∧ y = t
      · simp [e]
      · rw [if_neg e, if_neg e]; exact h.sh i y hi hy) (fun i y hi hy q => by
      by_cases e : i < 6 ∧ y = t
      · rw [if_pos e] at q; cases q
      · rw [if_neg e] at q; exact h.keys i y hi hy q) (fun i hi => by
      unfold relEx
      split
      · omega
      · exact h.exs i hi) hb
  exact ⟨rfl, ⟨_, hr, rfl, rfl, rfl⟩, hkb, hk⟩
set_option maxHeartbeats 4000000 in
set_option maxRecDepth 100000 in
theorem lkTry_any {base : Nat} {w : World} {r : Nat} {V : RunV} {s : LS} {t at_ : Int} {o : LOp} {rest : List (LOp × Int)} (h : RunAt base w r V s) (hb : base ≤ w.heap.size) (ht : 1 ≤ t ∧ t ≤ 6) (hw : s.wt t = (o, at_) :: rest) (ho : OpOK o) (hot : o.1 = t)
    (hl : s.done.length ≤ 1000) (hl2 : rest.length ≤ 1000) : Calls Tryz.prog 147 #[.pointer (some ⟨r, 0, none⟩), .int .i64 t] w (LkTryPost base w r s t o rest) := by
  have htw : (kI t).wf = true := kI_wf (by omega) (by omega)
  obtain ⟨g, oo, cap, hv, hcap, hwin⟩ := wt_first h ht hw
  obtain ⟨txn, kind, item⟩ := o
  obtain ⟨k, hk⟩ := Int.eq_ofNat_of_zero_le ho.2.2.2.2.1
  have hk' : item = (k : Int) := hk
  subst hk'
  have hk6 : k < 6 := by have := ho.2.2.2.2.2; simp at this; omega
  have ht' : txn = t := hot
  subst ht'
  have c14 : w.cell? ⟨r, 14, none⟩ = some (.map (some V.bw)) := by rw [h.lk.blk.cell]; exact lock_rest (j := 2)
  have hlk := h.wt.map.look Tryz.underlying193 zero202 htw
  rw [hv] at hlk
  have d0 : w.cell? ⟨g, oo, none⟩ = some (.int .i64 txn) := hwin.cell (j := 0) (by simp [heldC, opC])
  have d1 : w.cell? ⟨g, oo + 1, none⟩ = some (.int .i64 kind) := hwin.cell (j := 1) (by simp [heldC, opC])
  have d2 : w.cell? ⟨g, oo + 2, none⟩ = some (.int .i64 k) := hwin.cell (j := 2) (by simp [heldC, opC])
  have hn0 : ((0 : Int) < ((rest.length + 1 : Nat) : Int)) = True := eq_true (by omega)
  have H := Lib.hid h; have HBW := Lib.hid hb; have HV := Lib.hid hv; have HWN := Lib.hid hwin; have HO := Lib.hid ho; have HW := Lib.hid hw; have HTW := Lib.hid htw
  have hr := h.lk.blk.lt
  simp only [Option.getD_some] at hlk
  clear h hv hwin ho hw htw hk hot hb
  go_enter Tryz.func147, Tryz.ntmps147
  go_upto_region 2 with fail
  obtain ⟨w1, hw1⟩ : ∃ w1, w1 = w.alloc (.cells #[.int .i64 txn, .int .i64 kind, .int .i64 k] 146) := ⟨_, rfl⟩
  have HK1 : Hid (Keep (fun _ => False) w w1) := Lib.hid (by rw [hw1]; exact (Keep.refl _ _).alloc _)
  have HB1 : Hid (Blk w1 w.heap.size #[.int .i64 txn, .int .i64 kind, .int .i64 k] 146) := Lib.hid (by rw [hw1]; exact Blk.new _ _ _)
  have H1 := Lib.hid (H.out.idle HK1.out)
  have e0 : w1.cell? ⟨w.heap.size, 0, none⟩ = some (.int .i64 txn) := HB1.out.cell 0
  have e1 : w1.cell? ⟨w.heap.size, 1, none⟩ = some (.int .i64 kind) := HB1.out.cell 1
  have e2 : w1.cell? ⟨w.heap.size, 2, none⟩ = some (.int .i64 k) := HB1.out.cell 2
  rw [← hw1]
  clear hw1 c14 hlk d0 d1 d2 hn0
  go_upto_if 17 with fail
  go_cut [] from 15 to 34 (fun wx => ¬ Hdd s (txn, kind, (k : Int)) ∧ (∃ V1, RunAt base wx r V1 (actS s (txn, kind, (k : Int))) ∧ V1.bw = V.bw ∧ V1.vw = V.vw ∧ V1.vd = V.vd) ∧ Blk wx w.heap.size #[.int .i64 txn, .int .i64 kind, .int .i64 k] 146 ∧ Keep (fun k => base ≤ k) w wx)
  case first =>
    by_cases hkd : kind ≤ 1
    · by_cases hH : Hdd s (txn, kind, (k : Int))
      · have HH := Lib.hid hH
        clear hH
        go_upto_region 3 with fail
        go_still_tail 4, (by kernel_rfl)
        change wpList _ _ _ _ _ w1.drew
        go_wp2_with (go_at_call 150; refine Calls.mono (hinders_any (n := 6) (f := V.f k) (x := s.ex k) hk6 (by have e : w1.drew.cell? ⟨r, k, none⟩ = w1.cell? ⟨r, k, none⟩ := rfl; rw [e, H1.out.lk.blk.cell]; exact lock_map hk6) (by have e : w1.drew.cell? ⟨r, 6 + k, none⟩ = w1.cell? ⟨r, 6 + k, none⟩ := rfl; rw [e, H1.out.lk.blk.cell]; exact lock_ex hk6) ((H1.out.lk.maps k hk6).keep ((Keep.refl (fun _ => False) w1).drew) (fun _ _ e => e)) (by omega)) ?_; rintro e w3 ⟨v3, l3, rfl, ho3, hl3, hn3, hk3⟩; obtain ⟨ao3, cap3, rfl, _⟩ := ownsRow_shape ho3; have hp3 : 0 < l3.length := (by obtain ⟨y, hy⟩ := HH.out.2; have q := (hl3 y).2 ((hind_of H1.out HO.out y).2 hy); exact List.length_pos_of_mem q); have HK3 := Lib.hid hk3; clear ho3 hl3 hn3 hk3)
        go_ret
        exact .inl ⟨HH.out, rfl, (HK1.out.drew).trans HK3.out (fun _ _ e => e)⟩
      · have HH := Lib.hid hH
        have HKD := Lib.hid hkd; clear hH
        go_upto_region 3 with fail
        go_still_tail 4, (by kernel_rfl)
        change wpList _ _ _ _ _ w1.drew
        go_upto_region 5 with (go_at_call 150; refine Calls.mono (hinders_any (n := 6) (f := V.f k) (x := s.ex k) hk6 (by have e : w1.drew.cell? ⟨r, k, none⟩ = w1.cell? ⟨r, k, none⟩ := rfl; rw [e, H1.out.lk.blk.cell]; exact lock_map hk6) (by have e : w1.drew.cell? ⟨r, 6 + k, none⟩ = w1.cell? ⟨r, 6 + k, none⟩ := rfl; rw [e, H1.out.lk.blk.cell]; exact lock_ex hk6) ((H1.out.lk.maps k hk6).keep ((Keep.refl (fun _ => False) w1).drew) (fun _ _ e => e)) (by omega)) ?_; rintro e w3 ⟨v3, l3, rfl, ho3, hl3, hn3, hk3⟩; obtain ⟨ao3, cap3, rfl, _⟩ := ownsRow_shape ho3; have hp3 : ¬ 0 < l3.length := (by intro hp; obtain ⟨y, hy⟩ := List.exists_mem_of_length_pos hp; exact HH.out ⟨HKD.out, y, (hind_of H1.out HO.out y).1 ((hl3 y).1 hy)⟩); have HK3 := Lib.hid (((Keep.refl (fun _ => False) w1).drew).trans hk3 (fun _ _ e => e)); clear ho3 hl3 hn3 hk3)
        have HX := Lib.hid ((H1.out.idle HK3.out).idle ((Keep.refl (fun _ => False) w3).drew))
        have HB3 := Lib.hid (HB1.out.keep HK3.out (fun e => e))
        have HBS : Hid (base ≤ w3.drew.heap.size) := Lib.hid (Nat.le_trans HBW.out (Nat.le_trans HK1.out.size HK3.out.size))
        have f0 : w3.cell? ⟨w.heap.size, 0, none⟩ = some (.int .i64 txn) := HB3.out.cell 0
        have f1 : w3.cell? ⟨w.heap.size, 1, none⟩ = some (.int .i64 kind) := HB3.out.cell 1
        have f2 : w3.cell? ⟨w.heap.size, 2, none⟩ = some (.int .i64 k) := HB3.out.cell 2
        go_still_tail 4, (by kernel_rfl)
        change wpList _ _ _ _ _ w3.drew
        go_wp2_with (go_at_call 177; refine Calls.mono (lkTake_any (N := 6) HX.out.lk hk6 HTW.out (by omega)) ?_; intro e4 w4 hp4; obtain ⟨rfl, hV4, hkb4, hkx4⟩ := run_take HX.out HBS.out HO.out hp4; have HV4 := Lib.hid hV4; have HKB4 := Lib.hid hkb4; have HKX4 := Lib.hid hkx4; clear hp4 hV4 hkb4 hkx4)
        go_meet
        refine ⟨HH.out, ?_, ?_, ?_⟩
        · have := HV4.out; unfold actS; rw [if_pos HKD.out]; exact this
        · exact HB3.out.keep (((Keep.refl _ w3).drew).trans HKX4.out (fun _ _ e => e)) (fun e => by
            obtain ⟨q1, _, q3⟩ := H1.out.notLk HB1.out (by decide)
            rcases e with e | ⟨i, hi, e⟩
            · exact q1 e
            · exact q3 i hi e)
        · exact ((HK1.out.trans HK3.out (fun _ _ e => e)).mono (fun _ _ e => e.elim)).trans (((Keep.refl _ w3).drew).trans HKB4.out (fun _ _ e => e)) (fun _ _ e => e)
    · have hkd2 : 1 < kind := by omega
      clear hkd
      have HXX := Lib.hid (H1.out.idle ((Keep.refl (fun _ => False) w1).drew))
      go_wp2_with (go_at_call 149; refine Calls.mono (release_any (N := 6) H1.out.lk HTW.out) ?_; intro e4 w4 hp4; obtain ⟨rfl, hV4, hkb4, hkx4⟩ := run_rel H1.out (Nat.le_trans HBW.out HK1.out.size) hp4; have HV4 := Lib.hid hV4; have HKB4 := Lib.hid hkb4; have HKX4 := Lib.hid hkx4; clear hp4 hV4 hkb4 hkx4)
      go_meet
      refine ⟨fun q => by have := q.1; dsimp only at this; omega, ?_, ?_, ?_⟩
      · have := HV4.out; unfold actS; rw [if_neg (by dsimp only; omega)]; exact this
      · exact HB1.out.keep HKX4.out (fun e => by
          obtain ⟨q1, _, q3⟩ := H1.out.notLk HB1.out (by decide)
          rcases e with e | ⟨i, hi, e⟩
          · exact q1 e
          · exact q3 i hi e)
      · exact (HK1.out.mono (fun _ _ e => e.elim)).trans HKB4.out (fun _ _ e => e)
  case rest =>
    obtain ⟨hnd, ⟨V1, h4, hbw, hvw, hvd⟩, hbx, hkc⟩ := hcut
    obtain ⟨w4, hw4⟩ : ∃ w4, w4 = wc := ⟨_, rfl⟩
    rw [← hw4] at h4 hbx hkc ⊢
    clear hw4
    obtain ⟨s1, hs1⟩ : ∃ s1, s1 = actS s (txn, kind, (k : Int)) := ⟨_, rfl⟩
    rw [← hs1] at h4
    have hds : s1.done.length = s.done.length := by rw [hs1, (actS_same _ _).1]
    obtain ⟨dao, dcap, hvd1, _⟩ := ownsRow_shape h4.done
    have hdl : ∀ g, (Value.slice dao s1.done.length dcap).ownBlock = some g → g < w.heap.size := fun g hg => by rw [← hvd1, hvd] at hg; exact (ownsRow_lt H.out.done g hg).2
    have c12 : w4.cell? ⟨r, 12, none⟩ = some (.slice dao s1.done.length dcap) := by rw [h4.lk.blk.cell, ← hvd1]; exact lock_rest (j := 0)
    have hbne : ∀ W, Keep (fun j => j = r ∨ (Value.slice dao s1.done.length dcap).ownBlock = some j) w4 W → Blk W w.heap.size #[.int .i64 txn, .int .i64 kind, .int .i64 k] 146 := fun W hk => hbx.keep hk (fun e => by
      rcases e with e | e
      · exact (h4.notLk hbx (by decide)).1 e
      · exact absurd (hdl _ e) (Nat.lt_irrefl _))
    have HBN := Lib.hid hbne; have HND := Lib.hid hnd
    have HBWV := Lib.hid (And.intro hbw hvw)
    have HVD := Lib.hid hvd1; have HS1 := Lib.hid hs1; have HKC := Lib.hid hkc; have HDL := Lib.hid hdl
    have h4' : RunAt base w4 r { V1 with vd := .slice dao s1.done.length dcap } s1 := by rw [← hvd1]; exact h4
    have H4 := Lib.hid h4'
    have hdl3 : s1.done.length ≤ 1000 := by omega
    have hb4 : base ≤ w4.heap.size := Nat.le_trans HBW.out hkc.size
    have HSQ : Hid (∀ W, Keep (fun j => j = r ∨ (Value.slice dao s1.done.length dcap).ownBlock = some j) w4 W → W.cell? ⟨w.heap.size, 0, none⟩ = some (.int .i64 txn) ∧ W.cell? ⟨w.heap.size, 1, none⟩ = some (.int .i64 kind) ∧ W.cell? ⟨w.heap.size, 2, none⟩ = some (.int .i64 k)) := Lib.hid fun W hk => ⟨(HBN.out W hk).cell 0, (HBN.out W hk).cell 1, (HBN.out W hk).cell 2⟩
    clear hnd h4 h4' hbw hvw hvd hbx hkc hs1 hds hvd1 hdl hbne e0 e1 e2
    go_upto_region 7 with fail
    go_cut [] from 35 to 44 (fun wx => (∃ V2, RunAt base wx r V2 { s1 with done := s1.done ++ [(txn, kind, (k : Int))] } ∧ V2.bw = V1.bw ∧ V2.vw = V1.vw) ∧ Keep (fun j => base ≤ j) w4 wx)
    case first =>
      rename_i Jq Kq hJq hKq
      refine region_letters fun Q1 hQ1 => ?_
      have HQ1 := Lib.hid hQ1; clear hQ1
      refine wp_region_noPanic ?_
      refine wp_region_held_drew (S := (fun W => W.cell? ⟨w.heap.size, 0, none⟩ = some (.int .i64 txn) ∧ W.cell? ⟨w.heap.size, 1, none⟩ = some (.int .i64 kind) ∧ W.cell? ⟨w.heap.size, 2, none⟩ = some (.int .i64 k))) (by kernel_rfl) (HSQ.out _ ((Keep.refl _ _).drew)) (fun hHeld => ?_)
      refine wpAnyH_letter fun ac0 HQA0 => ?_
      have HS : Hid (ac0.tmps.size = 57) := Lib.hid (by rw [HQA0.out]; kernel_rfl)
      have e0 : ac0.tmps[0]?.getD undef = .pointer (some ⟨r, 0, none⟩) := by rw [HQA0.out]; kernel_rfl
      have e5 : ac0.tmps[5]?.getD undef = .pointer (some ⟨w.heap.size, 0, none⟩) := by rw [HQA0.out]; kernel_rfl
      refine wpAnyH_take (i := 0) (oi := _) (v := ?_) rfl (by kernel_rfl) (by kernel_rfl) (by kernel_rfl) (fun _ _ _ h => h) (Or.inl ⟨by rfl, ?_⟩) hHeld ?_
      rotate_left
      · (intro w hSw; obtain ⟨q0, q1, q2⟩ := hSw; go_simp) <;> with_reducible rfl
      refine wpAnyH_letter fun ac1 HQA1 => ?_; replace e0 := po HQA1 e0; replace e5 := po HQA1 e5; have e35 := put_at HQA1 HS.out (by decide); replace HS := Lib.hid (put_sz HQA1 HS.out)
      refine wpAnyH_take (i := 1) (oi := _) (v := ?_) rfl (by kernel_rfl) (by kernel_rfl) (by kernel_rfl) (fun _ _ _ h => h) (Or.inl ⟨by rfl, ?_⟩) hHeld ?_
      rotate_left
      · (intro w hSw; obtain ⟨q0, q1, q2⟩ := hSw; go_simp) <;> with_reducible rfl
      refine wpAnyH_letter fun ac2 HQA2 => ?_; replace e0 := po HQA2 e0; replace e5 := po HQA2 e5; replace e35 := po HQA2 e35; have e36 := put_at HQA2 HS.out (by decide); replace HS := Lib.hid (put_sz HQA2 HS.out)
      refine wpAnyH_take (i := 2) (oi := _) (v := ?_) rfl (by kernel_rfl) (by kernel_rfl) (by kernel_rfl) (fun _ _ _ h => h) (Or.inl ⟨by rfl, ?_⟩) hHeld ?_
      rotate_left
      · (intro w hSw; obtain ⟨q0, q1, q2⟩ := hSw; go_simp) <;> with_reducible rfl
      refine wpAnyH_letter fun ac3 HQA3 => ?_; replace e0 := po HQA3 e0; replace e5 := po HQA3 e5; replace e35 := po HQA3 e35; replace e36 := po HQA3 e36; have e37 := put_at HQA3 HS.out (by decide); replace HS := Lib.hid (put_sz HQA3 HS.out)
      refine wpAnyH_take (i := 3) (oi := _) (v := ?_) rfl (by kernel_rfl) (by kernel_rfl) (by kernel_rfl) (fun _ _ _ h => h) (Or.inl ⟨by rfl, ?_⟩) hHeld ?_
      rotate_left
      · (intro w hSw; obtain ⟨q0, q1, q2⟩ := hSw; go_simp) <;> with_reducible rfl
      refine wpAnyH_letter fun ac4 HQA4 => ?_; replace e0 := po HQA4 e0; replace e5 := po HQA4 e5; replace e35 := po HQA4 e35; replace e36 := po HQA4 e36; replace e37 := po HQA4 e37; have e38 := put_at HQA4 HS.out (by decide); replace HS := Lib.hid (put_sz HQA4 HS.out)
      refine wpAnyH_take (i := 5) (oi := _) (v := ?_) rfl (by kernel_rfl) (by kernel_rfl) (by kernel_rfl) (fun _ _ _ h => h) (Or.inl ⟨by rfl, ?_⟩) hHeld ?_
      rotate_left
      · (intro w hSw; obtain ⟨q0, q1, q2⟩ := hSw; go_simp) <;> with_reducible rfl
      refine wpAnyH_letter fun ac5 HQA5 => ?_; replace e0 := po HQA5 e0; replace e5 := po HQA5 e5; replace e35 := po HQA5 e35; replace e36 := po HQA5 e36; replace e37 := po HQA5 e37; replace e38 := po HQA5 e38; have e40 := put_at HQA5 HS.out (by decide); replace HS := Lib.hid (put_sz HQA5 HS.out)
      refine wpAnyH_ready (rs := [4, 6]) (by kernel_rfl) (by simp) ?_
      refine AllReadyH.cons (o := _) rfl (fun K hK => ?_) (AllReadyH.cons (o := _) rfl (fun K hK => ?_) AllReadyH.nil)
      · go_simp
        refine hK.out _ _ ?_ (fun hHeld => ?_)
        · exact HSQ.out _ ((Keep.refl _ _).drew)
        clear hK K; refine wpAnyH_letter fun ac6 HQA6 => ?_; replace e0 := po HQA6 e0; replace e5 := po HQA6 e5; replace e35 := po HQA6 e35; replace e36 := po HQA6 e36; replace e37 := po HQA6 e37; replace e38 := po HQA6 e38; replace e40 := po HQA6 e40; have e39 := put_at HQA6 HS.out (by decide); replace HS := Lib.hid (put_sz HQA6 HS.out); refine wpAnyH_ready (rs := [6]) (by kernel_rfl) (by simp) ?_; refine AllReadyH.cons (o := _) rfl (fun K hK => ?_) AllReadyH.nil
        go_simp
        refine hK.out _ _ ?_ (fun hHeld => ?_)
        · first | exact HSQ.out _ (((Keep.refl _ _).alloc _).drew) | exact HSQ.out _ (((Keep.refl _ _).drew).alloc _)
        clear hK K; refine wpAnyH_letter fun ac7 HQA7 => ?_; replace e0 := po HQA7 e0; replace e5 := po HQA7 e5; replace e35 := po HQA7 e35; replace e36 := po HQA7 e36; replace e37 := po HQA7 e37; replace e38 := po HQA7 e38; replace e40 := po HQA7 e40; replace e39 := po HQA7 e39; have e41 := put_at HQA7 HS.out (by decide); replace HS := Lib.hid (put_sz HQA7 HS.out); refine wpAnyH_ready (rs := [7]) (by kernel_rfl) (by simp) ?_; refine AllReadyH.cons (o := _) rfl (fun K hK => ?_) AllReadyH.nil
        rw [if_pos (by rfl)]
        have h6 := H4.out.idle (((Keep.refl (fun _ => False) w4).alloc (.cells #[.int .i64 txn, .int .i64 kind, .int .i64 k] 146)).drew)
        refine oper_app (.tmp 39) (.tmp 41) 140 140 rfl 146 (.agg #[.int .i64 0, .int .i64 0, .int .i64 0]) 3 24 Tryz.underlying140 info146 rfl h6.done (evalsL e39) (((Rd.new w4 3 1 [.int .i64 txn, .int .i64 kind, .int .i64 k] 146 rfl (by simp [Value.oneCell']) (by unfold maxLen; omega)).keep ((Keep.refl (fun _ => False) _).drew) (fun _ _ h => h)).src Tryz.underlying140) (evalsL e41) (by unfold maxLen; omega) (by omega) (Nat.le_trans hb4 (((Keep.refl (fun _ => False) w4).alloc (.cells #[.int .i64 txn, .int .i64 kind, .int .i64 k] 146)).drew).size) (fun v' w7 happ => ?_)
        obtain ⟨ao7, cap7, rfl, _⟩ := ownsRow_shape happ.own
        have hb7 := h6.lk.blk.keep happ.keep (fun e => ownsRow_blk h6.done h6.lk.blk (by decide) e)
        have d0 : w7.cell? ⟨r, 12, none⟩ = some (.slice dao s1.done.length dcap) := by rw [hb7.cell]; exact lock_rest (j := 0)
        have y0 := hb7.free 12
        have hk7 : Keep (fun j => (Value.slice dao s1.done.length dcap).ownBlock = some j) w4 w7 := ((((Keep.refl (fun _ => False) w4).alloc (.cells #[.int .i64 txn, .int .i64 kind, .int .i64 k] 146)).drew).mono (fun _ _ e => e.elim)).trans happ.keep (fun _ _ e => e)
        have HP := Lib.hid (h6.pushDone (o := (txn, kind, (k : Int))) happ.keep (by have := happ.own; rw [opsC_snoc]; exact this))
        have HK7 := Lib.hid hk7; clear happ h6 hb7 hk7
        (try dsimp only)
        refine hK.out _ _ ?_ (fun hHeld => ?_)
        · exact HSQ.out _ (HK7.out.mono (fun _ _ e => .inr e))
        clear hK K; refine wpAnyH_letter fun ac8 HQA8 => ?_; replace e0 := po HQA8 e0; replace e5 := po HQA8 e5; replace e35 := po HQA8 e35; replace e36 := po HQA8 e36; replace e37 := po HQA8 e37; replace e38 := po HQA8 e38; replace e40 := po HQA8 e40; replace e39 := po HQA8 e39; replace e41 := po HQA8 e41; have e42 := put_at HQA8 HS.out (by decide); replace HS := Lib.hid (put_sz HQA8 HS.out)
        refine wpAnyH_take (i := 8) (oi := _) (v := ?_) rfl (by kernel_rfl) (by kernel_rfl) (by kernel_rfl) (fun _ _ _ h => h) (Or.inl ⟨by rfl, ?_⟩) hHeld ?_
        rotate_left
        · (intro w hSw; obtain ⟨q0, q1, q2⟩ := hSw; go_simp) <;> with_reducible rfl
        refine wpAnyH_letter fun ac9 HQA9 => ?_; replace e0 := po HQA9 e0; replace e5 := po HQA9 e5; replace e35 := po HQA9 e35; replace e36 := po HQA9 e36; replace e37 := po HQA9 e37; replace e38 := po HQA9 e38; replace e40 := po HQA9 e40; replace e39 := po HQA9 e39; replace e41 := po HQA9 e41; replace e42 := po HQA9 e42; have e43 := put_at HQA9 HS.out (by decide); replace HS := Lib.hid (put_sz HQA9 HS.out)
        refine wpAnyH_take (i := 9) (oi := _) (v := ?_) rfl (by kernel_rfl) (by kernel_rfl) (by kernel_rfl) (fun _ _ _ h => h) (Or.inl ⟨by rfl, ?_⟩) hHeld ?_
        rotate_left
        · (intro w hSw; obtain ⟨q0, q1, q2⟩ := hSw; go_simp) <;> with_reducible rfl
        refine wpAnyH_letter fun ac10 HQA10 => ?_; replace e0 := po HQA10 e0; replace e5 := po HQA10 e5; replace e35 := po HQA10 e35; replace e36 := po HQA10 e36; replace e37 := po HQA10 e37; replace e38 := po HQA10 e38; replace e40 := po HQA10 e40; replace e39 := po HQA10 e39; replace e41 := po HQA10 e41; replace e42 := po HQA10 e42; replace e43 := po HQA10 e43; have e44 := put_at HQA10 HS.out (by decide); replace HS := Lib.hid (put_sz HQA10 HS.out); refine wpAnyH_ready (rs := [10]) (by kernel_rfl) (by simp) ?_; refine AllReadyH.cons (o := _) rfl (fun K hK => ?_) AllReadyH.nil
        go_simp
        refine hK.out _ _ ?_ (fun hHeld => ?_)
        · exact HSQ.out _ ((HK7.out.mono (fun _ _ e => .inr e)).setCell _ _ (fun _ => .inl rfl))
        clear hK K
        refine wpAnyH_done (by kernel_rfl) ?_ _
        refine NoPanic.normal ?_
        rw [HQ1.out]
        have g0 := uE0 ac0 [35, 36, 37, 38, 39, 40, 41, 42, 43, 44]
        have g1 := uE HQA1 g0 (by rfl); have g2 := uE HQA2 g1 (by rfl); have g3 := uE HQA3 g2 (by rfl); have g4 := uE HQA4 g3 (by rfl); have g5 := uE HQA5 g4 (by rfl); have g6 := uE HQA6 g5 (by rfl); have g7 := uE HQA7 g6 (by rfl); have g8 := uE HQA8 g7 (by rfl); have g9 := uE HQA9 g8 (by rfl); have g10 := uE HQA10 g9 (by rfl)
        obtain ⟨f, hf⟩ := g10
        rw [HQA0.out] at hf
        refine hKq _ _ (Met.intro (hJq _ _ ?_))
        refine ⟨f 35, f 36, f 37, f 38, f 39, f 40, f 41, f 42, f 43, f 44, ⟨⟨_, HP.out, rfl, rfl⟩, (HK7.out.mono (fun g hg e => (ownsRow_lt H4.out.done g e).1)).setCell _ _ (fun _ => H4.out.ge)⟩, hf.trans (by kernel_rfl)⟩
      · go_simp
        refine hK.out _ _ ?_ (fun hHeld => ?_)
        · first | exact HSQ.out _ (((Keep.refl _ _).alloc _).drew) | exact HSQ.out _ (((Keep.refl _ _).drew).alloc _)
        clear hK K; refine wpAnyH_letter fun ac6 HQA6 => ?_; replace e0 := po HQA6 e0; replace e5 := po HQA6 e5; replace e35 := po HQA6 e35; replace e36 := po HQA6 e36; replace e37 := po HQA6 e37; replace e38 := po HQA6 e38; replace e40 := po HQA6 e40; have e41 := put_at HQA6 HS.out (by decide); replace HS := Lib.hid (put_sz HQA6 HS.out)
        have c12' : (w4.alloc (.cells #[.int .i64 txn, .int .i64 kind, .int .i64 k] 146)).cell? ⟨r, 12, none⟩ = some (.slice dao s1.done.length dcap) := by rw [(H4.out.lk.blk.keep ((Keep.refl (fun _ => False) w4).alloc (.cells #[.int .i64 txn, .int .i64 kind, .int .i64 k] 146)) (fun e => e)).cell]; exact lock_rest (j := 0)
        refine wpAnyH_ready (rs := [4]) (by kernel_rfl) (by simp) ?_; refine AllReadyH.cons (o := _) rfl (fun K hK => ?_) AllReadyH.nil
        go_simp
        refine hK.out _ _ ?_ (fun hHeld => ?_)
        · first | exact HSQ.out _ (((Keep.refl _ _).alloc _).drew) | exact HSQ.out _ (((Keep.refl _ _).drew).alloc _)
        clear hK K; refine wpAnyH_letter fun ac7 HQA7 => ?_; replace e0 := po HQA7 e0; replace e5 := po HQA7 e5; replace e35 := po HQA7 e35; replace e36 := po HQA7 e36; replace e37 := po HQA7 e37; replace e38 := po HQA7 e38; replace e40 := po HQA7 e40; replace e41 := po HQA7 e41; have e39 := put_at HQA7 HS.out (by decide); replace HS := Lib.hid (put_sz HQA7 HS.out); refine wpAnyH_ready (rs := [7]) (by kernel_rfl) (by simp) ?_; refine AllReadyH.cons (o := _) rfl (fun K hK => ?_) AllReadyH.nil
        rw [if_pos (by rfl)]
        have h6 := H4.out.idle (((Keep.refl (fun _ => False) w4).alloc (.cells #[.int .i64 txn, .int .i64 kind, .int .i64 k] 146)).drew)
        refine oper_app (.tmp 39) (.tmp 41) 140 140 rfl 146 (.agg #[.int .i64 0, .int .i64 0, .int .i64 0]) 3 24 Tryz.underlying140 info146 rfl h6.done (evalsL e39) (((Rd.new w4 3 1 [.int .i64 txn, .int .i64 kind, .int .i64 k] 146 rfl (by simp [Value.oneCell']) (by unfold maxLen; omega)).keep ((Keep.refl (fun _ => False) _).drew) (fun _ _ h => h)).src Tryz.underlying140) (evalsL e41) (by unfold maxLen; omega) (by omega) (Nat.le_trans hb4 (((Keep.refl (fun _ => False) w4).alloc (.cells #[.int .i64 txn, .int .i64 kind, .int .i64 k] 146)).drew).size) (fun v' w7 happ => ?_)
        obtain ⟨ao7, cap7, rfl, _⟩ := ownsRow_shape happ.own
        have hb7 := h6.lk.blk.keep happ.keep (fun e => ownsRow_blk h6.done h6.lk.blk (by decide) e)
        have d0 : w7.cell? ⟨r, 12, none⟩ = some (.slice dao s1.done.length dcap) := by rw [hb7.cell]; exact lock_rest (j := 0)
        have y0 := hb7.free 12
        have hk7 : Keep (fun j => (Value.slice dao s1.done.length dcap).ownBlock = some j) w4 w7 := ((((Keep.refl (fun _ => False) w4).alloc (.cells #[.int .i64 txn, .int .i64 kind, .int .i64 k] 146)).drew).mono (fun _ _ e => e.elim)).trans happ.keep (fun _ _ e => e)
        have HP := Lib.hid (h6.pushDone (o := (txn, kind, (k : Int))) happ.keep (by have := happ.own; rw [opsC_snoc]; exact this))
        have HK7 := Lib.hid hk7; clear happ h6 hb7 hk7
        (try dsimp only)
        refine hK.out _ _ ?_ (fun hHeld => ?_)
        · exact HSQ.out _ (HK7.out.mono (fun _ _ e => .inr e))
        clear hK K; refine wpAnyH_letter fun ac8 HQA8 => ?_; replace e0 := po HQA8 e0; replace e5 := po HQA8 e5; replace e35 := po HQA8 e35; replace e36 := po HQA8 e36; replace e37 := po HQA8 e37; replace e38 := po HQA8 e38; replace e40 := po HQA8 e40; replace e41 := po HQA8 e41; replace e39 := po HQA8 e39; have e42 := put_at HQA8 HS.out (by decide); replace HS := Lib.hid (put_sz HQA8 HS.out)
        refine wpAnyH_take (i := 8) (oi := _) (v := ?_) rfl (by kernel_rfl) (by kernel_rfl) (by kernel_rfl) (fun _ _ _ h => h) (Or.inl ⟨by rfl, ?_⟩) hHeld ?_
        rotate_left
        · (intro w hSw; obtain ⟨q0, q1, q2⟩ := hSw; go_simp) <;> with_reducible rfl
        refine wpAnyH_letter fun ac9 HQA9 => ?_; replace e0 := po HQA9 e0; replace e5 := po HQA9 e5; replace e35 := po HQA9 e35; replace e36 := po HQA9 e36; replace e37 := po HQA9 e37; replace e38 := po HQA9 e38; replace e40 := po HQA9 e40; replace e41 := po HQA9 e41; replace e39 := po HQA9 e39; replace e42 := po HQA9 e42; have e43 := put_at HQA9 HS.out (by decide); replace HS := Lib.hid (put_sz HQA9 HS.out)
        refine wpAnyH_take (i := 9) (oi := _) (v := ?_) rfl (by kernel_rfl) (by kernel_rfl) (by kernel_rfl) (fun _ _ _ h => h) (Or.inl ⟨by rfl, ?_⟩) hHeld ?_
        rotate_left
        · (intro w hSw; obtain ⟨q0, q1, q2⟩ := hSw; go_simp) <;> with_reducible rfl
        refine wpAnyH_letter fun ac10 HQA10 => ?_; replace e0 := po HQA10 e0; replace e5 := po HQA10 e5; replace e35 := po HQA10 e35; replace e36 := po HQA10 e36; replace e37 := po HQA10 e37; replace e38 := po HQA10 e38; replace e40 := po HQA10 e40; replace e41 := po HQA10 e41; replace e39 := po HQA10 e39; replace e42 := po HQA10 e42; replace e43 := po HQA10 e43; have e44 := put_at HQA10 HS.out (by decide); replace HS := Lib.hid (put_sz HQA10 HS.out); refine wpAnyH_ready (rs := [10]) (by kernel_rfl) (by simp) ?_; refine AllReadyH.cons (o := _) rfl (fun K hK => ?_) AllReadyH.nil
        go_simp
        refine hK.out _ _ ?_ (fun hHeld => ?_)
        · exact HSQ.out _ ((HK7.out.mono (fun _ _ e => .inr e)).setCell _ _ (fun _ => .inl rfl))
        clear hK K
        refine wpAnyH_done (by kernel_rfl) ?_ _
        refine NoPanic.normal ?_
        rw [HQ1.out]
        have g0 := uE0 ac0 [35, 36, 37, 38, 39, 40, 41, 42, 43, 44]
        have g1 := uE HQA1 g0 (by rfl); have g2 := uE HQA2 g1 (by rfl); have g3 := uE HQA3 g2 (by rfl); have g4 := uE HQA4 g3 (by rfl); have g5 := uE HQA5 g4 (by rfl); have g6 := uE HQA6 g5 (by rfl); have g7 := uE HQA7 g6 (by rfl); have g8 := uE HQA8 g7 (by rfl); have g9 := uE HQA9 g8 (by rfl); have g10 := uE HQA10 g9 (by rfl)
        obtain ⟨f, hf⟩ := g10
        rw [HQA0.out] at hf
        refine hKq _ _ (Met.intro (hJq _ _ ?_))
        refine ⟨f 35, f 36, f 37, f 38, f 39, f 40, f 41, f 42, f 43, f 44, ⟨⟨_, HP.out, rfl, rfl⟩, (HK7.out.mono (fun g hg e => (ownsRow_lt H4.out.done g e).1)).setCell _ _ (fun _ => H4.out.ge)⟩, hf.trans (by kernel_rfl)⟩
    case rest =>
      obtain ⟨⟨V2, h8, hb8, hv8⟩, hk8⟩ := hcut
      obtain ⟨w8, hw8⟩ : ∃ w8, w8 = wc := ⟨_, rfl⟩
      rw [← hw8] at h8 hk8 ⊢
      clear hw8; have H8 := Lib.hid h8
      have HK8 := Lib.hid (HKC.out.trans hk8 (fun _ _ e => e))
      have hvw8 : V2.vw = V.vw := hv8.trans HBWV.out.2
      have hbw8 : V2.bw = V.bw := hb8.trans HBWV.out.1
      have hst : s1.done = s.done ∧ s1.ab = s.ab ∧ s1.wt = s.wt := by rw [HS1.out]; exact actS_same _ _
      have hv2 : V2.vw txn = some (.slice (some ⟨g, oo, none⟩) (rest.length + 1) cap) := by rw [hvw8]; exact HV.out
      have hwt8 : s1.wt txn = ((txn, kind, (k : Int)), at_) :: rest := by rw [hst.2.2]; exact HW.out
      have hwin8 : Win w8 base 204 4 (.slice (some ⟨g, oo, none⟩) (rest.length + 1) cap) (rest.length + 1) (heldC (((txn, kind, (k : Int)), at_) :: rest)) := by
        have := h8.wt.win txn _ HTW.out hv2
        simp only [hwt8] at this
        exact this
      obtain ⟨o2, ho2⟩ : ∃ o2, o2 = if cap = 1 then oo else oo + 4 := ⟨_, rfl⟩
      have hsl : ∀ W, (Instr.slice 202 (.slice (some ⟨g, oo, none⟩) (rest.length + 1) cap) (some (.int .i64 1)) none none).run Tryz.prog W = .ok (.slice (some ⟨g, o2, none⟩) rest.length (cap - 1)) W := fun W => by rw [ho2]; exact run_tail W g oo (rest.length + 1) cap (by omega)
      have hwt9 := hwin8.tail'
      rw [← ho2] at hwt9
      have ed : (heldC (((txn, kind, (k : Int)), at_) :: rest)).drop 4 = heldC rest := by rw [heldC_cons]; simp [opC]
      rw [ed] at hwt9
      have c14 : w8.cell? ⟨r, 14, none⟩ = some (.map (some V2.bw)) := by rw [h8.lk.blk.cell]; exact lock_rest (j := 2)
      have hlk := (h8.wt.map.keep ((Keep.refl (fun _ => False) w8).drew) (fun e => e)).look Tryz.underlying193 zero202 HTW.out
      rw [hv2] at hlk
      simp only [Option.getD_some] at hlk
      obtain ⟨w9, hrun, hm9, hk9, _⟩ := (h8.wt.map.keep ((Keep.refl (fun _ => False) w8).drew) (fun e => e)).store Tryz.underlying193 (by unfold maxLen; omega) HTW.out (.slice (some ⟨g, o2, none⟩) rest.length (cap - 1))
      have hk9' : Keep (fun k => k = V2.bw) w8 w9 := ((Keep.refl (fun k => k = V2.bw) w8).drew).trans hk9 (fun _ _ e => e)
      have HRUN : Hid (RunAt base w9 r { V2 with vw := fun y => if y = txn then some (.slice (some ⟨g, o2, none⟩) rest.length (cap - 1)) else V2.vw y } { s1 with done := s1.done ++ [(txn, kind, (k : Int))], wt := updW s1.wt txn rest }) := Lib.hid (h8.setWt ht hm9 (hk9'.mono (fun _ _ e => .inl e)) (hwt9.keep hk9' (fun g' hg' e => by
        obtain ⟨c1, z1, q1⟩ := Win_cells hwt9 hg'
        exact h8.wt.map.ne_cells q1 e.symm)) (fun u v g' hu hne hv hg' e => by
        have eg : g = g' := Option.some.inj e
        subst eg
        exact hne (h8.wt.apart u txn v _ g hu HTW.out hv hv2 hg' rfl)))
      have HST := Lib.hid hst
      have HK9 := Lib.hid (HK8.out.trans hk9' (fun _ _ e => by rw [e]; exact H8.out.wt.ge))
      clear h8 hk8 hb8 hv8 hvw8 hbw8 hst hv2 hwt8 hwin8 ho2 hwt9 ed hm9 hk9 hk9'
      go_upto_region 8 with fail
      go_still_tail 12, (by kernel_rfl)
      change wpList _ _ _ _ _ w8.drew
      go_wp2
      go_ret
      refine .inr ⟨HND.out, rfl, ⟨{ V2 with vw := fun y => if y = txn then some (.slice (some ⟨g, o2, none⟩) rest.length (cap - 1)) else V2.vw y }, ?_⟩, HK9.out⟩
      have hr := HRUN.out
      rw [HST.out.1, HST.out.2.2] at hr
      have e : doS s txn (txn, kind, (k : Int)) rest = { s1 with done := s.done ++ [(txn, kind, (k : Int))], wt := updW s.wt txn rest } := by unfold doS; rw [← HS1.out]
      rw [e]
      exact hr
end Go.Proofs.YthdkamnclbfehaaGreatDoor
/- history.run.circle: whether a transaction waits for itself. The search, in plain words. -/
namespace Go.Proofs.YthdkamnclbfehaaGreatDoor
set_option linter.unusedSimpArgs false
set_option linter.unusedVariables false
set_option linter.unnecessarySimpa false
open Go.RowKit
def Edge (s : LS) (x y : Int) : Prop := ∃ o at_ rest, s.wt x = (o, at_) :: rest ∧ Hd s o y
inductive Reach (s : LS) (t : Int) : Int → Prop
  | one {y : Int} : Edge s t y → Reach s t y
  | more {x y : Int} : Reach s t x → Edge s x y → Reach s t y
def unseen (seen : Int → Bool) : Nat := (([1, 2, 3, 4, 5, 6] : List Int).filter (fun y => !seen y)).length
theorem filter_one_less {p q : Int → Bool} {y : Int} : ∀ (l : List Int), l.Pairwise (fun a b => a ≠ b) → (∀ z ∈ l, z ≠ y → p z = q z) → y ∈ l → p y = true → q y = false → (l.filter p).length = (l.filter q).length + 1
  | [], _, _, h, _, _ => by cases h
  | z :: l, hp, h, hy, h1, h2 => by
    have hpc := List.pairwise_cons.1 hp
    by_cases e : z = y
    · subst e
      have hl : l.filter p = l.filter q := List.filter_congr (fun a ha => h a (by simp [ha]) (hpc.1 a ha).symm)
      rw [List.filter_cons, List.filter_cons, h1, h2, hl]
      simp
    · have hy' : y ∈ l := by
        rcases List.mem_cons.1 hy with e2 | e2
        · exact absurd e2.symm e
        · exact e2
      have ih := filter_one_less l hpc.2 (fun a ha => h a (by simp [ha])) hy' h1 h2
      rw [List.filter_cons, List.filter_cons, h z (by simp) e]
      cases q z <;> simp [ih]
theorem unseen_step {seen : Int → Bool} {y : Int} (hy : 1 ≤ y ∧ y ≤ 6) (h : seen y = false) : unseen seen = unseen (fun z => if z = y then true else seen z) + 1 := by
  unfold unseen
  refine filter_one_less (y := y) _ (by decide) (fun z _ hz => by simp [hz]) ?_ (by simp [h]) (by simp)
  have : y = 1 ∨ y = 2 ∨ y = 3 ∨ y = 4 ∨ y = 5 ∨ y = 6 := by omega
  rcases this with rfl | rfl | rfl | rfl | rfl | rfl <;> simp
structure Bfs (s : LS) (t : Int) (seen : Int → Bool) (q : List Int) : Prop where
  sr : ∀ y, seen y = true → Reach s t y ∧ 1 ≤ y ∧ y ≤ 6 ∧ y ≠ t
  qr : ∀ x ∈ q, x = t ∨ seen x = true
  cl : ∀ x, (x = t ∨ seen x = true) → x ∉ q → ∀ y, Edge s x y → seen y = true
structure BfsIn (s : LS) (t x : Int) (seen : Int → Bool) (q pre : List Int) : Prop where
  sr : ∀ y, seen y = true → Reach s t y ∧ 1 ≤ y ∧ y ≤ 6 ∧ y ≠ t
  qr : ∀ z ∈ q, z = t ∨ seen z = true
  cl : ∀ z, (z = t ∨ seen z = true) → z ∉ q → z ≠ x → ∀ y, Edge s z y → seen y = true
  pre : ∀ y ∈ pre, seen y = true
  xr : x = t ∨ seen x = true
theorem Bfs.start (s : LS) (t : Int) : Bfs s t (fun _ => false) [t] := by
  refine ⟨fun y h => (by cases h), fun x hx => .inl (by simpa using hx), fun x h hx => ?_⟩
  rcases h with h | h
  · subst h; simp at hx
  · cases h
theorem Bfs.enter {s : LS} {t x : Int} {seen : Int → Bool} {q : List Int} (h : Bfs s t seen (x :: q)) : BfsIn s t x seen q [] :=
  ⟨h.sr, fun z hz => h.qr z (by simp [hz]), fun z hz hq hx => h.cl z hz (by simp [hx, hq]), fun y hy => (by cases hy), h.qr x (by simp)⟩
theorem BfsIn.seen {s : LS} {t x y : Int} {seen : Int → Bool} {q pre : List Int} (h : BfsIn s t x seen q pre) (hy : seen y = true) : BfsIn s t x seen q (pre ++ [y]) := by
  refine ⟨h.sr, h.qr, h.cl, fun z hz => ?_, h.xr⟩
  rcases List.mem_append.1 hz with e | e
  · exact h.pre z e
  · simp at e; rw [e]; exact hy
theorem BfsIn.push {s : LS} {t x y : Int} {seen : Int → Bool} {q pre : List Int} (h : BfsIn s t x seen q pre) (he : Edge s x y) (hy : 1 ≤ y ∧ y ≤ 6) (hyt : y ≠ t) : BfsIn s t x (fun z => if z = y then true else seen z) (q ++ [y]) (pre ++ [y]) := by
  have hre : Reach s t y := by
    rcases h.xr with e | e
    · exact .one (e ▸ he)
    · exact .more (h.sr x e).1 he
  refine ⟨fun z hz => ?_, fun z hz => ?_, fun z hz hq hx w hw => ?_, fun z hz => ?_, ?_⟩
  · by_cases e : z = y
    · rw [e]; exact ⟨hre, hy.1, hy.2, hyt⟩
    · simp only [if_neg e] at hz; exact h.sr z hz
  · rcases List.mem_append.1 hz with e | e
    · rcases h.qr z e with e2 | e2
      · exact .inl e2
      · right; by_cases e3 : z = y <;> simp [e3, e2]
    · simp at e; right; simp [e]
  · have hzq : z ∉ q := fun e => hq (by simp [e])
    have hzy : z ≠ y := fun e => hq (by simp [e])
    simp only [if_neg hzy] at hz
    have := h.cl z hz hzq hx w hw
    by_cases e : w = y <;> simp [e, this]
  · rcases List.mem_append.1 hz with e | e
    · have := h.pre z e
      by_cases e3 : z = y <;> simp [e3, this]
    · simp at e; simp [e]
  · rcases h.xr with e | e
    · exact .inl e
    · right; by_cases e3 : x = y <;> simp [e3, e]
theorem BfsIn.leave {s : LS} {t x : Int} {seen : Int → Bool} {q pre : List Int} (h : BfsIn s t x seen q pre) (hp : ∀ y, Edge s x y → y ∈ pre) : Bfs s t seen q :=
  ⟨h.sr, h.qr, fun z hz hq y hy => by
    by_cases e : z = x
    · subst e; exact h.pre y (hp y hy)
    · exact h.cl z hz hq e y hy⟩
theorem Bfs.done {s : LS} {t : Int} {seen : Int → Bool} (h : Bfs s t seen []) : ¬ Reach s t t := by
  have key : ∀ y, Reach s t y → seen y = true := by
    intro y hy
    induction hy with
    | one he => exact h.cl t (.inl rfl) (by simp) _ he
    | more _ he ih => exact h.cl _ (.inr ih) (by simp) _ he
  intro hr
  exact (h.sr t (key t hr)).2.2.2 rfl
theorem Hd_range {base : Nat} {w : World} {r : Nat} {V : RunV} {s : LS} (h : RunAt base w r V s) {o : LOp} (ho : OpOK o) {y : Int} (hy : Hd s o y) : 1 ≤ y ∧ y ≤ 6 := by
  have hi : o.2.2.toNat < 6 := by have := ho.2.2.2.2; omega
  rcases hy with ⟨h0, _, e⟩ | ⟨_, hw, hs, _⟩
  · have := h.exs _ hi; rw [e]; omega
  · exact h.keys _ y hi hw hs
end Go.Proofs.YthdkamnclbfehaaGreatDoor
/- history.run.circle, walked. -/
namespace Go.Proofs.YthdkamnclbfehaaGreatDoor
set_option linter.unusedSimpArgs false
set_option linter.unusedVariables false
set_option linter.unnecessarySimpa false
open Go.RowKit
theorem zero4 (W : World) : (zeroValue 4).run Tryz.prog W = .ok (.bool false) W := by kernel_rfl
def seenF (seen : Int → Bool) : Int → Option Value := fun y => if seen y = true then some (.bool true) else none
def CRel (w : World) (s : LS) (t : Int) (gh : Nat) (v : Value) (wr : World) : Prop :=
  ∃ (seen : Int → Bool) (q : List Int), gh = q.length + unseen seen ∧ gh ≤ 7 ∧ MapAt wr w.heap.size 6 (seenF seen) ∧ Win wr w.heap.size 3 1 v q.length (icells q) ∧ Bfs s t seen q ∧ Keep (fun _ => False) w wr
def CIn (w : World) (s : LS) (t x : Int) (l : List Int) (lv : Value) (B m gh : Nat) (v c : Value) (wx : World) : Prop :=
  ∃ (i : Nat) (seen : Int → Bool) (q : List Int), gh = l.length - i ∧ i ≤ l.length ∧ c = .int .i64 i ∧ BfsIn s t x seen q (l.take i) ∧ q.length + unseen seen = m ∧ MapAt wx w.heap.size 6 (seenF seen) ∧ Win wx w.heap.size 3 1 v q.length (icells q) ∧
    wx.ownsRow B 3 1 lv l.length (icells l) ∧ (∀ g, lv.ownBlock = some g → v.ownBlock ≠ some g) ∧ Keep (fun _ => False) w wx
def CirclePost (w : World) (s : LS) (t : Int) (e : Ending) (w' : World) : Prop := ∃ b : Bool, e = .returned (.bool b) ∧ (b = true ↔ Reach s t t) ∧ Keep (fun _ => False) w w'
set_option maxHeartbeats 4000000 in
set_option maxRecDepth 100000 in
theorem circle_any {base : Nat} {w : World} {r : Nat} {V : RunV} {s : LS} {t : Int} (h : RunAt base w r V s) (ht : 1 ≤ t ∧ t ≤ 6) (hops : ∀ x o a rest, s.wt x = (o, a) :: rest → OpOK o) :
    Calls Tryz.prog 148 #[.pointer (some ⟨r, 0, none⟩), .int .i64 t] w (CirclePost w s t) := by
  have H := Lib.hid h; clear h
  have HO := Lib.hid hops; clear hops
  have hmm := @run_makeMap Tryz.prog
  go_enter Tryz.func148, Tryz.ntmps148
  go_wp2_with fail
  go_loopg [6] 7 (fun gh v wr => CRel w s t gh v wr)
  case atStart =>
    have ks := ((Keep.refl (fun _ => False) w).alloc (.map #[] 0)).alloc (.cells #[.int .i64 t] 3)
    refine ⟨fun _ => false, [t], rfl, by omega, ?_, ?_, Bfs.start s t, ks⟩
    · have := ((MapAt.made w).mono (Nat.zero_le 6)).keep ((Keep.refl (fun _ => False) (w.alloc (.map #[] 0))).alloc (.cells #[.int .i64 t] 3)) (fun e => e)
      exact this
    · refine ⟨rfl, .inr ⟨_, 0, 1, #[.int .i64 t], rfl, by simp, (by rw [show w.heap.size + 1 = (w.alloc (.map #[] 0)).heap.size by simp]; exact heap_alloc_new _ _), by simp, by unfold maxLen; omega, by simp, by simp [icells]⟩⟩
  case round =>
    obtain ⟨seen, q, hgh, hg7, hm, hwin, hbfs, hk⟩ := hrel
    have HKW := Lib.hid hk; have HM := Lib.hid hm; have HWN := Lib.hid hwin
    cases q with
    | nil =>
      have HB := Lib.hid hbfs; clear hk hm hwin hbfs hgh
      rcases HWN.out.shape with ⟨rfl, _⟩ | ⟨g, o, cap, rfl, _, _⟩
      · go_wp2_with fail
        go_ret
        exact ⟨false, rfl, by simpa using HB.out.done, HKW.out⟩
      · simp only [List.length_nil]
        go_wp2_with fail
        go_ret
        exact ⟨false, rfl, by simpa using HB.out.done, HKW.out⟩
    | cons x q =>
      have hx : 1 ≤ x ∧ x ≤ 6 := by
        rcases hbfs.qr x (by simp) with e | e
        · rw [e]; exact ht
        · exact ⟨(hbfs.sr x e).2.1, (hbfs.sr x e).2.2.1⟩
      have hxw : (kI x).wf = true := kI_wf (by omega) (by omega)
      have hwin' : Win wr w.heap.size 3 1 _ (q.length + 1) (icells (x :: q)) := hwin
      rcases hwin'.shape with ⟨_, h0⟩ | ⟨g, o, cap, rfl, hc, hcm⟩
      · exact absurd h0 (by omega)
      have cq : wr.cell? ⟨g, o, none⟩ = some (.int .i64 x) := hwin'.cell (j := 0) (by simp [icells])
      have HWT := Lib.hid hwin'.tail'
      have hrr := H.out.idle hk
      have c14 : wr.cell? ⟨r, 14, none⟩ = some (.map (some V.bw)) := by rw [hrr.lk.blk.cell]; exact lock_rest (j := 2)
      have hlk := hrr.wt.map.look Tryz.underlying193 zero202 hxw
      have hq1 : 0 < q.length + 1 := by omega
      have HR := Lib.hid hrr; have HXW := Lib.hid hxw; have HBF := Lib.hid hbfs
      have hgs : q.length + 1 + unseen seen = gk := hgh.symm
      (try simp only [List.length_cons])
      clear hk hm hwin hwin' hbfs hgh hxw
      go_upto_region 5 with fail
      go_cut [6] from 17 to 21 (fun s6 wx => wx = wr ∧ ∃ o2 c2, s6 = .slice (some ⟨g, o2, none⟩) q.length c2 ∧ Win wr w.heap.size 3 1 (.slice (some ⟨g, o2, none⟩) q.length c2) q.length (icells q))
      case first =>
        have hdr : (icells (x :: q)).drop 1 = icells q := rfl
        have HDR := Lib.hid hdr; clear hdr hlk
        by_cases hc1 : cap = 1
        · have hw := HWT.out
          rw [if_pos hc1, HDR.out] at hw
          subst hc1
          obtain rfl : q = [] := List.eq_nil_of_length_eq_zero (by omega)
          have HW := Lib.hid hw; clear hw
          go_wp2_with fail
          go_meet
          exact ⟨rfl, _, _, rfl, HW.out⟩
        · have hw := HWT.out
          rw [if_neg hc1, HDR.out] at hw
          have HW := Lib.hid hw; clear hw
          go_wp2_with fail
          go_meet
          exact ⟨rfl, _, _, rfl, HW.out⟩
      case rest =>
        obtain ⟨rfl, o2, c2, rfl, hwin2⟩ := hcut
        have HW2 := Lib.hid hwin2; clear hwin2
        cases hwx : s.wt x with
        | nil =>
          have HB : Hid (Bfs s t seen q) := Lib.hid (HBF.out.enter.leave (fun y hy => by obtain ⟨o, a, rs, e, _⟩ := hy; rw [hwx] at e; cases e))
          have hlv : ∃ lo lc, (V.vw x).getD (.slice none 0 0) = .slice lo 0 lc := by
            cases hv : V.vw x with
            | none => exact ⟨none, 0, rfl⟩
            | some v =>
              have hw3 := hrr.wt.win x v HXW.out hv
              rw [hwx] at hw3
              rcases hw3.shape with ⟨e, _⟩ | ⟨g3, o3, c3, e, _⟩
              · exact ⟨_, _, by rw [Option.getD_some, e]⟩
              · exact ⟨_, _, by rw [Option.getD_some, e]; rfl⟩
          obtain ⟨lo, lc, hlv⟩ := hlv
          rw [hlv] at hlk
          clear hwx hlv hrr
          go_wp2_with fail
          go_roundg (q.length + unseen seen)
          case measure => omega
          case rel => exact ⟨seen, q, rfl, by omega, HM.out, HW2.out, HB.out, HKW.out⟩
        | cons p rest =>
          obtain ⟨⟨txn, kind, item⟩, at_⟩ := p
          have ho := HO.out x _ _ _ hwx
          obtain ⟨k, hk⟩ := Int.eq_ofNat_of_zero_le ho.2.2.2.2.1
          have hk' : item = (k : Int) := hk
          subst hk'
          have hk6 : k < 6 := by have := ho.2.2.2.2.2; simp at this; omega
          obtain ⟨g3, o3, cap3, hv3, hcap3, hwin3⟩ := wt_first hrr hx hwx
          rw [hv3] at hlk
          simp only [Option.getD_some] at hlk
          have d0 : wc.cell? ⟨g3, o3, none⟩ = some (.int .i64 txn) := hwin3.cell (j := 0) (by simp [heldC, opC])
          have d1 : wc.cell? ⟨g3, o3 + 1, none⟩ = some (.int .i64 kind) := hwin3.cell (j := 1) (by simp [heldC, opC])
          have d2 : wc.cell? ⟨g3, o3 + 2, none⟩ = some (.int .i64 k) := hwin3.cell (j := 2) (by simp [heldC, opC])
          have hn3 : ((0 : Int) < ((rest.length + 1 : Nat) : Int)) = True := eq_true (by omega)
          have hn4 : (((rest.length + 1 : Nat) : Int) == 0) = false := by simp; omega
          have HOO := Lib.hid ho; have HWX := Lib.hid hwx; clear ho hwx hv3 hwin3 hrr hk
          go_upto_region 8 with fail
          have HDC : Hid (∀ W, Keep (fun _ => False) wc W → W.cell? ⟨g3, o3, none⟩ = some (.int .i64 txn) ∧ W.cell? ⟨g3, o3 + 1, none⟩ = some (.int .i64 kind) ∧ W.cell? ⟨g3, o3 + 2, none⟩ = some (.int .i64 k)) := Lib.hid fun W hk => ⟨(hk.cell (p := ⟨g3, o3, none⟩) (World.block_lt_of_cell? _ _ d0) (fun e => e)).trans d0, (hk.cell (p := ⟨g3, o3 + 1, none⟩) (World.block_lt_of_cell? _ _ d1) (fun e => e)).trans d1, (hk.cell (p := ⟨g3, o3 + 2, none⟩) (World.block_lt_of_cell? _ _ d2) (fun e => e)).trans d2⟩
          have HKR : Hid (Keep (fun _ => False) wc wc) := Lib.hid (Keep.refl _ _)
          have HRN : Hid (∀ W, Keep (fun _ => False) wc W → Calls Tryz.prog 150 #[.pointer (some ⟨r, 0, none⟩), .agg #[.int .i64 txn, .int .i64 kind, .int .i64 k]] W (HindPost W (s.ex k) txn kind (V.f k) 6)) := Lib.hid fun W hk => by
            have hR := HR.out.idle hk
            exact hinders_any (n := 6) (f := V.f k) (x := s.ex k) hk6 (by rw [hR.lk.blk.cell]; exact lock_map hk6) (by rw [hR.lk.blk.cell]; exact lock_ex hk6) (hR.lk.maps k hk6) (by omega)
          go_region_held3 (fun W => W.cell? ⟨g3, o3, none⟩ = some (.int .i64 txn) ∧ W.cell? ⟨g3, o3 + 1, none⟩ = some (.int .i64 kind) ∧ W.cell? ⟨g3, o3 + 2, none⟩ = some (.int .i64 k)) ((refine HDC.out _ ?_; repeat (first | exact HKR.out | apply Keep.drewN | apply Keep.drew))) ((go_at_call 150; refine Calls.mono (HRN.out _ (by repeat (first | exact HKR.out | apply Keep.drewN | apply Keep.drew))) ?_; rintro e w5 ⟨v5, l, rfl, ho5, hl5, hn5, hk5⟩; obtain ⟨lo5, lc5, rfl, _⟩ := ownsRow_shape ho5; have HKR := Lib.hid (HKR.out.trans ((((Keep.refl (fun _ => False) wc).drewN _)).trans hk5 (fun _ _ e => e)) (fun _ _ e => e)); have HO5 := Lib.hid ho5; have HL5 := Lib.hid hl5; clear ho5 hl5 hk5))
          have hO5 : w5.ownsRow wc.heap.size 3 1 (.slice lo5 l.length lc5) l.length (icells l) := HO5.out
          have hO5' := Lib.hid hO5
          have hsz : w.heap.size ≤ wc.heap.size := HKW.out.size
          have hHd : ∀ y, y ∈ l ↔ Hd s (txn, kind, (k : Int)) y := fun y => by
            have h1 := HL5.out y
            exact h1.trans (hind_of HR.out HOO.out y)
          have HHD := Lib.hid hHd
          have HKL := Lib.hid (HKW.out.trans HKR.out (fun _ _ e => e))
          have HM5 := Lib.hid (HM.out.keep HKR.out (fun e => e))
          have HW5 := Lib.hid (HW2.out.keep HKR.out (fun _ _ e => e))
          have hdis : ∀ g', (Value.slice lo5 l.length lc5).ownBlock = some g' → (Value.slice (some ⟨g, o2, none⟩) q.length c2).ownBlock ≠ some g' := fun g' hg' e => by
            have h1 := (ownsRow_lt hO5 g' hg').1
            have h2 := (HW2.out.lt g' e).2
            omega
          have HDIS := Lib.hid hdis; clear hO5 hHd hdis hn3 hn4 hlk d0 d1 d2 c14 cq
          go_wp2_with fail
          go_loopg [6, 40] l.length (fun gh v c wx => CIn w s t x l (.slice lo5 l.length lc5) wc.heap.size (q.length + unseen seen) gh v c wx)
          case atStart =>
            exact ⟨0, seen, q, by omega, by omega, rfl, by rw [List.take_zero]; exact HBF.out.enter, rfl, HM5.out, HW5.out, hO5'.out, HDIS.out, HKL.out⟩
          case round =>
            obtain ⟨i, seen2, q2, hgi, hil, rfl, hbi, hmq, hm2, hw2, ho2, hd2, hk2⟩ := hrel
            by_cases hi : i < l.length
            · obtain ⟨y, hy⟩ : ∃ y, l[i]? = some y := ⟨_, List.getElem?_eq_getElem hi⟩
              have hym : y ∈ l := List.mem_of_getElem? hy
              have hyH := (HHD.out y).1 hym
              have hyr := Hd_range HR.out HOO.out hyH
              have hyw : (kI y).wf = true := kI_wf (by omega) (by omega)
              have hE : Edge s x y := ⟨_, _, _, HWX.out, hyH⟩
              have htk : l.take (i + 1) = l.take i ++ [y] := by rw [List.take_add_one, hy]; rfl
              have hms := hmq
              rcases ho2.2 with ⟨e, h0⟩ | ⟨g5, cap5, cur, e, _⟩
              · exact absurd hi (by omega)
              have e' := e
              injection e' with e1 e2 e3
              subst e1
              have cy := ho2.cells (g := g5) rfl i (.int .i64 y) (by simp [icells, hy])
              rw [add_lit, Nat.zero_add] at cy
              have hi1 : ((i : Int) < (l.length : Int)) = True := eq_true (by omega)
              have hi0 : ((0 : Int) ≤ (i : Int)) = True := eq_true (by omega)
              have hiw : IntKind.i64.wrap ((i : Int) + 1) = ((i + 1 : Nat) : Int) := by rw [show ((i : Int) + 1) = ((i + 1 : Nat) : Int) by omega]; exact IntWalk.i64_in _ (by omega)
              have HBI := Lib.hid hbi; have HTK := Lib.hid htk; have HE := Lib.hid hE; have HYR := Lib.hid hyr; have HYW := Lib.hid hyw; have HM2 := Lib.hid hm2; have HWN2 := Lib.hid hw2; have HO2 := Lib.hid ho2; have HD2 := Lib.hid hd2; have HK2 := Lib.hid hk2
              have hlk2 := hm2.look Tryz.underlying194 zero4 hyw
              cases hyt : (y == t) with
              | true =>
                clear hbi hm2 hw2 ho2 hd2 hk2 hy hym hyH hyr hyw hE htk e e2 e3 hlk2 hmq hms
                have hyt' : y = t := by simpa using hyt
                have HYT := Lib.hid hyt'
                clear hyt'
                go_wp2_with fail
                go_ret
                refine ⟨true, rfl, ⟨fun _ => ?_, fun _ => rfl⟩, HK2.out⟩
                have hE2 := HE.out
                rw [HYT.out] at hE2
                rcases HBI.out.xr with e | e
                · rw [e] at hE2; exact .one hE2
                · exact .more (HBI.out.sr x e).1 hE2
              | false =>
                have hyt' : y ≠ t := by simpa using hyt
                have HYT := Lib.hid hyt'
                clear hyt'
                cases hsy : seen2 y with
                | true =>
                  rw [show (seenF seen2 y).getD (.bool false) = .bool true by simp [seenF, hsy]] at hlk2
                  have HSY := Lib.hid hsy; clear hbi hm2 hw2 ho2 hd2 hk2 hy hym hyH hyr hyw hE htk e e2 e3 hsy
                  go_wp2_with fail
                  go_roundg (l.length - (i + 1))
                  case measure => omega
                  case rel => exact ⟨i + 1, seen2, q2, rfl, by omega, rfl, by rw [HTK.out]; exact HBI.out.seen HSY.out, hms, HM2.out, HWN2.out, HO2.out, HD2.out, HK2.out⟩
                | false =>
                  rw [show (seenF seen2 y).getD (.bool false) = .bool false by simp [seenF, hsy]] at hlk2
                  have hus := unseen_step hyr hsy
                  obtain ⟨w6, hrun6, hm6, hk6', hs6⟩ := hm2.store Tryz.underlying194 (by unfold maxLen; omega) hyw (.bool true)
                  have HUS := Lib.hid hus
                  have HM6 : Hid (MapAt w6 w.heap.size 6 (seenF (fun z => if z = y then true else seen2 z))) := Lib.hid (by
                    have ef : (fun z => if z = y then some (.bool true) else seenF seen2 z) = seenF (fun z => if z = y then true else seen2 z) := by
                      funext z; by_cases e : z = y <;> simp [seenF, e]
                    rw [← ef]
                    refine hm6.tight (fun z hz e => ?_)
                    by_cases ez : z = y
                    · rw [ez]; exact hyr
                    · simp only [if_neg ez, seenF] at e
                      cases hz2 : seen2 z with
                      | true => exact ⟨(hbi.sr z hz2).2.1, (hbi.sr z hz2).2.2.1⟩
                      | false => simp [hz2] at e)
                  have HW6 : Hid (Win w6 w.heap.size 3 1 _ q2.length (icells q2)) := Lib.hid (hw2.keep hk6' (fun g' hg' e => by
                    obtain ⟨c1, z1, q1⟩ := Win_cells hw2 hg'
                    exact hm2.ne_cells q1 e.symm))
                  have HO6 : Hid (w6.ownsRow wc.heap.size 3 1 (.slice (some ⟨g5, 0, none⟩) l.length lc5) l.length (icells l)) := Lib.hid (ownsRow_keep ho2 hk6' (fun g' hg' e => by
                    obtain ⟨c1, z1, q1⟩ := ownsRow_cells ho2 hg'
                    exact hm2.ne_cells q1 e.symm))
                  have HK6 : Hid (Keep (fun _ => False) w w6) := Lib.hid (hk2.trans hk6' (fun i hi e => by have e' : i = w.heap.size := e; omega))
                  have hws6 : w.heap.size ≤ w6.heap.size := HK6.out.size
                  have hq2l : q2.length ≤ 10 := by omega
                  have HSY := Lib.hid hsy; clear hbi hm2 hw2 ho2 hd2 hk2 hy hym hyH hyr hyw hE htk e e2 e3 hsy hm6 hk6' hs6 hus
                  go_wp2_with (at_builtin; refine wpList_win (w := w6.alloc (.cells #[.int .i64 y] 3)) rfl (.tmp 53) (.tmp 55) 34 34 rfl 3 (.int .i64 0) 1 8 Tryz.underlying34 info3 rfl (HW6.out.keep ((Keep.refl (fun _ => False) w6).alloc (.cells #[.int .i64 y] 3)) (fun _ _ e => e)) rfl (Src.new (P := Tryz.prog) Tryz.underlying34 w6 1 [.int .i64 y] 3 rfl (by simp [Value.oneCell'])) rfl (by unfold maxLen; omega) (by omega) (Nat.le_trans hws6 ((Keep.refl (fun _ => False) w6).alloc (.cells #[.int .i64 y] 3)).size) (fun v' w7 happ => ?_))
                  have ka := (Keep.refl (fun _ => False) w6).alloc (.cells #[.int .i64 y] 3)
                  go_roundg (l.length - (i + 1))
                  case measure => omega
                  case rel =>
                    refine ⟨i + 1, (fun z => if z = y then true else seen2 z), q2 ++ [y], rfl, by omega, rfl, by rw [HTK.out]; exact HBI.out.push HE.out HYR.out HYT.out, by have := HUS.out; simp only [List.length_append, List.length_singleton]; omega, ?_, ?_, ?_, ?_, ?_⟩
                    · exact (HM6.out.keep ka (fun e => e)).keep happ.keep (fun e => by
                        obtain ⟨c1, z1, q1⟩ := Win_cells (HW6.out.keep ka (fun _ _ e => e)) e
                        exact (HM6.out.keep ka (fun e => e)).ne_cells q1 rfl)
                    · have := happ.own
                      simpa [icells, List.map_append] using this
                    · exact ownsRow_keep (HO6.out.alloc _) happ.keep (fun g' hg' e => HD2.out g' hg' e)
                    · intro g' hg' e
                      have hlt := (ownsRow_lt HO6.out g' hg').2
                      rcases happ.fresh with e2 | ⟨g7, e2, hg7⟩
                      · rw [e2] at e; exact HD2.out g' hg' e
                      · rw [e2] at e; cases e
                        have := ka.size
                        omega
                    · exact (HK6.out.trans ka (fun _ _ e => e)).trans happ.keep (fun g' hg' e => by
                        have := (HW6.out.lt g' e).1
                        omega)
            · have hie : i = l.length := by omega
              have HB : Hid (Bfs s t seen2 q2) := Lib.hid (by
                rw [hie, List.take_length] at hbi
                exact hbi.leave (fun y hy => by
                  obtain ⟨o', a', rs', e', h'⟩ := hy
                  rw [HWX.out] at e'
                  cases e'
                  exact (HHD.out y).2 h'))
              have hnl : ((i : Int) < (l.length : Int)) = False := eq_false (by omega)
              have HM2 := Lib.hid hm2; have HWN2 := Lib.hid hw2; have HK2 := Lib.hid hk2; clear hbi hm2 hw2 ho2 hd2 hk2 hi hie
              go_wp2_with fail
              go_roundg (q2.length + unseen seen2)
              case measure => omega
              case rel => exact ⟨seen2, q2, rfl, by omega, HM2.out, HWN2.out, HB.out, HK2.out⟩
end Go.Proofs.YthdkamnclbfehaaGreatDoor
/- history.run.goOn: what a transaction holds back is done, until it has to wait. -/
namespace Go.Proofs.YthdkamnclbfehaaGreatDoor
set_option linter.unusedSimpArgs false
set_option linter.unusedVariables false
set_option linter.unnecessarySimpa false
open Go.RowKit
def tot (s : LS) : Nat := s.done.length + (s.wt 1).length + (s.wt 2).length + (s.wt 3).length + (s.wt 4).length + (s.wt 5).length + (s.wt 6).length
structure Ok (s : LS) : Prop where
  ops : ∀ x p, p ∈ s.wt x → OpOK p.1 ∧ p.1.1 = x
  tot : tot s ≤ 100
  ab : s.ab.length ≤ s.done.length
theorem Ok.keys {s : LS} (h : Ok s) {x : Int} {p : LOp × Int} {rest : List (LOp × Int)} (e : s.wt x = p :: rest) : 1 ≤ x ∧ x ≤ 6 ∧ OpOK p.1 ∧ p.1.1 = x := by
  obtain ⟨h1, h2⟩ := h.ops x p (by rw [e]; simp)
  rw [← h2]
  exact ⟨h1.1, h1.2.1, h1, rfl⟩
theorem tot_wt {s : LS} {x : Int} (hx : 1 ≤ x ∧ x ≤ 6) : s.done.length + (s.wt x).length ≤ tot s := by
  have : x = 1 ∨ x = 2 ∨ x = 3 ∨ x = 4 ∨ x = 5 ∨ x = 6 := by omega
  unfold tot
  rcases this with rfl | rfl | rfl | rfl | rfl | rfl <;> omega
theorem tot_upd (d : List LOp) (wt : Int → List (LOp × Int)) (s : LS) {x : Int} (hx : 1 ≤ x ∧ x ≤ 6) (l : List (LOp × Int)) (h : wt = updW s.wt x l) (h2 : d.length + l.length ≤ s.done.length + (s.wt x).length) (ab : List Int) (ex : Nat → Int) (sh : Nat → Int → Bool) :
    tot { done := d, ab := ab, ex := ex, sh := sh, wt := wt } ≤ tot s := by
  have : x = 1 ∨ x = 2 ∨ x = 3 ∨ x = 4 ∨ x = 5 ∨ x = 6 := by omega
  subst h
  unfold tot updW
  rcases this with rfl | rfl | rfl | rfl | rfl | rfl <;> simp <;> omega
theorem Ok.do_ {s : LS} (h : Ok s) {t at_ : Int} {o : LOp} {rest : List (LOp × Int)} (e : s.wt t = (o, at_) :: rest) : Ok (doS s t o rest) := by
  obtain ⟨h1, h2, h3, h4⟩ := h.keys e
  refine ⟨fun x p hp => ?_, ?_, by have := h.ab; show (actS s o).ab.length ≤ (s.done ++ [o]).length; rw [(actS_same s o).2.1]; simp; omega⟩
  · have hp' : p ∈ updW s.wt t rest x := hp
    unfold updW at hp'
    by_cases ex : x = t
    · rw [if_pos ex] at hp'; subst ex; exact h.ops x p (by rw [e]; simp [hp'])
    · rw [if_neg ex] at hp'; exact h.ops x p hp'
  · refine Nat.le_trans ?_ h.tot
    exact tot_upd (s.done ++ [o]) (updW s.wt t rest) s ⟨h1, h2⟩ rest rfl (by rw [e]; simp; omega) _ _ _
theorem Ok.abort {s : LS} (h : Ok s) {t : Int} {p : LOp × Int} {rest : List (LOp × Int)} (e : s.wt t = p :: rest) : Ok (abortS s t) := by
  obtain ⟨h1, h2, h3, h4⟩ := h.keys e
  refine ⟨fun x p hp => ?_, ?_, by have := h.ab; show (s.ab ++ [t]).length ≤ (s.done ++ [(t, 3, 0)]).length; simp; omega⟩
  · have hp' : p ∈ updW s.wt t [] x := hp
    unfold updW at hp'
    by_cases ex : x = t
    · rw [if_pos ex] at hp'; cases hp'
    · rw [if_neg ex] at hp'; exact h.ops x p hp'
  · refine Nat.le_trans ?_ h.tot
    exact tot_upd (s.done ++ [(t, 3, 0)]) (updW s.wt t []) s ⟨h1, h2⟩ [] rfl (by rw [e]; simp) _ _ _
open Classical in
noncomputable def goOnS : Nat → LS → Int → LS × Bool
  | 0, s, _ => (s, false)
  | n + 1, s, t => match s.wt t with
    | [] => (s, false)
    | (o, _) :: rest => if Hdd s o then (if Reach s t t then (abortS s t, true) else (s, false)) else ((goOnS n (doS s t o rest) t).1, decide (1 < o.2.1) || (goOnS n (doS s t o rest) t).2)
theorem goOnS_nil {s : LS} {t : Int} (e : s.wt t = []) (n : Nat) : goOnS n s t = (s, false) := by
  cases n with
  | zero => rfl
  | succ n => unfold goOnS; rw [e]
theorem goOnS_abort {s : LS} {t a : Int} {o : LOp} {rest : List (LOp × Int)} (e : s.wt t = (o, a) :: rest) (h : Hdd s o) (hr : Reach s t t) (n : Nat) : goOnS (n + 1) s t = (abortS s t, true) := by
  unfold goOnS; rw [e]; simp [h, hr]
theorem goOnS_wait {s : LS} {t a : Int} {o : LOp} {rest : List (LOp × Int)} (e : s.wt t = (o, a) :: rest) (h : Hdd s o) (hr : ¬ Reach s t t) (n : Nat) : goOnS (n + 1) s t = (s, false) := by
  unfold goOnS; rw [e]; simp [h, hr]
theorem goOnS_do {s : LS} {t a : Int} {o : LOp} {rest : List (LOp × Int)} (e : s.wt t = (o, a) :: rest) (h : ¬ Hdd s o) (n : Nat) : goOnS (n + 1) s t = ((goOnS n (doS s t o rest) t).1, decide (1 < o.2.1) || (goOnS n (doS s t o rest) t).2) := by
  rw [goOnS]; rw [e]; simp [h]
theorem doS_wt (s : LS) (t : Int) (o : LOp) (rest : List (LOp × Int)) : (doS s t o rest).wt t = rest := by
  show updW s.wt t rest t = rest
  simp [updW]
theorem goOnS_ok : ∀ (n : Nat) (s : LS) (t : Int), Ok s → Ok (goOnS n s t).1 := by
  intro n
  induction n with
  | zero => intro s t h; exact h
  | succ n ih =>
    intro s t h
    cases e : s.wt t with
    | nil => rw [goOnS_nil e]; exact h
    | cons p rest =>
      obtain ⟨o, a⟩ := p
      by_cases hh : Hdd s o
      · by_cases hr : Reach s t t
        · rw [goOnS_abort e hh hr]; exact h.abort e
        · rw [goOnS_wait e hh hr]; exact h
      · rw [goOnS_do e hh]; exact ih _ t (h.do_ e)
end Go.Proofs.YthdkamnclbfehaaGreatDoor
/- history.run.goOn, walked. -/
namespace Go.Proofs.YthdkamnclbfehaaGreatDoor
set_option linter.unusedSimpArgs false
set_option linter.unusedVariables false
set_option linter.unnecessarySimpa false
open Go.RowKit
theorem wt_none {base : Nat} {w : World} {r : Nat} {V : RunV} {s : LS} (h : RunAt base w r V s) {x : Int} (hx : 1 ≤ x ∧ x ≤ 6) (e : s.wt x = []) : ∃ lo lc, (V.vw x).getD (.slice none 0 0) = .slice lo 0 lc := by
  have hxw : (kI x).wf = true := kI_wf (by omega) (by omega)
  cases hv : V.vw x with
  | none => exact ⟨none, 0, rfl⟩
  | some v =>
    have hw3 := h.wt.win x v hxw hv
    rw [e] at hw3
    rcases hw3.shape with ⟨e, _⟩ | ⟨g3, o3, c3, e, _⟩
    · exact ⟨_, _, by rw [Option.getD_some, e]⟩
    · exact ⟨_, _, by rw [Option.getD_some, e]; rfl⟩
theorem circ_t {b : Bool} {P : Prop} (h : b = true ↔ P) (q : P) : b = true := h.2 q
theorem circ_f {b : Bool} {P : Prop} (h : b = true ↔ P) (q : ¬ P) : b = false := by
  cases b with
  | false => rfl
  | true => exact absurd (h.1 rfl) q
def GoPost (base : Nat) (w : World) (r : Nat) (s : LS) (t : Int) (e : Ending) (w' : World) : Prop :=
  e = .returned (.bool (goOnS (s.wt t).length s t).2) ∧ (∃ V', RunAt base w' r V' (goOnS (s.wt t).length s t).1) ∧ Keep (fun k => base ≤ k) w w'
def GRel (base : Nat) (w : World) (r : Nat) (s : LS) (t : Int) (gh : Nat) (v : Value) (wr : World) : Prop :=
  ∃ (V' : RunV) (s' : LS) (b : Bool), gh = (s'.wt t).length ∧ v = .bool b ∧ RunAt base wr r V' s' ∧ Ok s' ∧ goOnS (s.wt t).length s t = ((goOnS gh s' t).1, b || (goOnS gh s' t).2) ∧ Keep (fun k => base ≤ k) w wr
set_option maxHeartbeats 4000000 in
set_option maxRecDepth 100000 in
theorem goOn_any {base : Nat} {w : World} {r : Nat} {V : RunV} {s : LS} {t : Int} (h : RunAt base w r V s) (hb : base ≤ w.heap.size) (ht : 1 ≤ t ∧ t ≤ 6) (hok : Ok s) :
    Calls Tryz.prog 109 #[.pointer (some ⟨r, 0, none⟩), .int .i64 t] w (GoPost base w r s t) := by
  have H := Lib.hid h; clear h
  have HOK := Lib.hid hok; clear hok
  have HBW := Lib.hid hb; clear hb
  have htw : (kI t).wf = true := kI_wf (by omega) (by omega)
  have HTW := Lib.hid htw; clear htw
  go_enter Tryz.func109, Tryz.ntmps109
  go_wp2_with fail
  go_loopg [5] (s.wt t).length (fun gh v wr => GRel base w r s t gh v wr)
  case atStart => exact ⟨V, s, false, rfl, rfl, H.out, HOK.out, by simp, Keep.refl _ _⟩
  case round =>
    obtain ⟨V', s', b, hgh, rfl, hrr, hok', hgo, hkw⟩ := hrel
    have HR := Lib.hid hrr
    have HO' := Lib.hid hok'
    have HG := Lib.hid hgo; have HKW := Lib.hid hkw
    have c14 : wr.cell? ⟨r, 14, none⟩ = some (.map (some V'.bw)) := by rw [hrr.lk.blk.cell]; exact lock_rest (j := 2)
    have hlk := hrr.wt.map.look Tryz.underlying193 zero202 HTW.out
    cases hwt : s'.wt t with
    | nil =>
      obtain ⟨lo, lc, hlv⟩ := wt_none hrr ht hwt
      rw [hlv] at hlk
      have HW := Lib.hid hwt
      rw [hwt] at hgh
      have HGH := Lib.hid hgh; clear hlv hrr hok' hgo hkw hwt hgh
      go_wp2_with fail
      go_ret
      have hg := HG.out
      rw [goOnS_nil HW.out] at hg
      exact ⟨by rw [hg]; simp, ⟨V', by rw [hg]; exact HR.out⟩, HKW.out⟩
    | cons p rest =>
      obtain ⟨⟨txn, kind, item⟩, at_⟩ := p
      obtain ⟨_, _, ho, hot⟩ := hok'.keys hwt
      obtain ⟨g3, o3, cap3, hv3, hcap3, hwin3⟩ := wt_first hrr ht hwt
      rw [hv3] at hlk
      simp only [Option.getD_some] at hlk
      have d1 : wr.cell? ⟨g3, o3 + 1, none⟩ = some (.int .i64 kind) := hwin3.cell (j := 1) (by simp [heldC, opC])
      have hn3 : ((0 : Int) < ((rest.length + 1 : Nat) : Int)) = True := eq_true (by omega)
      have hn5 : 0 < rest.length + 1 := by omega
      have htt := Nat.le_trans (tot_wt (s := s') ht) hok'.tot
      rw [hwt, List.length_cons] at htt
      have hdl : s'.done.length ≤ 100 := by omega
      have hal : s'.ab.length ≤ 100 := by have := hok'.ab; omega
      have hbr : base ≤ wr.heap.size := Nat.le_trans HBW.out hkw.size
      have HTY : Hid (Calls Tryz.prog 147 #[.pointer (some ⟨r, 0, none⟩), .int .i64 t] wr (LkTryPost base wr r s' t (txn, kind, item) rest)) := Lib.hid (lkTry_any hrr hbr ht hwt ho hot (by omega) (by omega))
      rw [hwt, List.length_cons] at hgh
      have HGH := Lib.hid hgh; have HW := Lib.hid hwt; have HBR := Lib.hid hbr; clear hv3 hwin3 hrr hok' hgo hkw hwt ho hot htt hbr hgh
      by_cases hH : Hdd s' (txn, kind, item)
      · have HH := Lib.hid hH
        clear hH
        have HOPS : Hid (∀ x o a rest, s'.wt x = (o, a) :: rest → OpOK o) := Lib.hid (fun x o a rs e => (HO'.out.keys e).2.2.1)
        by_cases hre : Reach s' t t
        · have HRE := Lib.hid hre
          clear hre
          go_upto_region 7 with (first | (go_at_call 148; refine Calls.mono (circle_any (HR.out.idle HK3.out) ht HOPS.out) ?_; rintro e w4 ⟨b2, rfl, hb2, hk4⟩; obtain rfl : b2 = true := circ_t hb2 HRE.out; have HK4 := Lib.hid (HK3.out.trans hk4 (fun _ _ e => e)); clear hb2 hk4) | (go_at_call 147; refine Calls.mono HTY.out ?_; rintro e w3 (⟨_, rfl, hk3⟩ | ⟨hh, _⟩); rotate_left; exact absurd HH.out hh; have HK3 := Lib.hid hk3; clear hk3))
          have h4 := HR.out.idle HK4.out
          obtain ⟨dao, dcap, hvd, _⟩ := ownsRow_shape h4.done
          obtain ⟨aao, acap, hva, _⟩ := ownsRow_shape h4.ab
          have h4' : RunAt base w4 r { V' with vd := .slice dao s'.done.length dcap, va := .slice aao s'.ab.length acap } s' := by rw [← hvd, ← hva]; exact h4
          have c12 : w4.cell? ⟨r, 12, none⟩ = some (.slice dao s'.done.length dcap) := by rw [h4.lk.blk.cell, ← hvd]; exact lock_rest (j := 0)
          have H4 := Lib.hid h4'
          have hb4 : base ≤ w4.heap.size := Nat.le_trans HBR.out HK4.out.size
          clear h4 h4' hvd hva
          go_upto_region 8 with (at_builtin; go_loud (refine wpList_app (w := w4.alloc (.cells #[.int .i64 t, .int .i64 3, .int .i64 0] 146)) rfl (.tmp 40) (.tmp 43) 140 140 rfl 146 (.agg #[.int .i64 0, .int .i64 0, .int .i64 0]) 3 24 Tryz.underlying140 info146 rfl (H4.out.idle ((Keep.refl (fun _ => False) w4).alloc (.cells #[.int .i64 t, .int .i64 3, .int .i64 0] 146))).done rfl (Src.new (P := Tryz.prog) Tryz.underlying140 w4 1 [.int .i64 t, .int .i64 3, .int .i64 0] 146 rfl (by simp [Value.oneCell'])) rfl (by unfold maxLen; omega) (by omega) (Nat.le_trans hb4 ((Keep.refl (fun _ => False) w4).alloc (.cells #[.int .i64 t, .int .i64 3, .int .i64 0] 146)).size) (fun v7 w7 happ => ?_); obtain ⟨ao7, cap7, rfl, _⟩ := ownsRow_shape happ.own; have h6 := H4.out.idle ((Keep.refl (fun _ => False) w4).alloc (.cells #[.int .i64 t, .int .i64 3, .int .i64 0] 146)); have hb7 := h6.lk.blk.keep happ.keep (fun e => ownsRow_blk h6.done h6.lk.blk (by decide) e); have d0 : w7.cell? ⟨r, 12, none⟩ = some (.slice dao s'.done.length dcap) := (hb7.cell 12).trans (lock_rest (j := 0)); have y0 := hb7.free 12; have HK7 := Lib.hid happ.keep; have HP := Lib.hid (h6.pushDone (o := (t, 3, 0)) happ.keep (by have := happ.own; rw [opsC_snoc]; exact this)); clear happ h6 hb7))
          obtain ⟨w8, hw8⟩ : ∃ w8, w8 = w7.setCell ⟨r, 12, none⟩ (.slice ao7 (s'.done.length + 1) cap7) := ⟨_, rfl⟩
          have hk8 : Keep (fun k => base ≤ k) w4 w8 := by
            rw [hw8]
            exact ((((Keep.refl (fun k => base ≤ k) w4).alloc (.cells #[.int .i64 t, .int .i64 3, .int .i64 0] 146)).trans HK7.out (fun g hg e => (ownsRow_lt H4.out.done g e).1))).setCell _ _ (fun _ => H4.out.ge)
          have hp := HP.out
          rw [← hw8] at hp ⊢
          have HP8 := Lib.hid hp; have HK8 := Lib.hid hk8
          have c13 : w8.cell? ⟨r, 13, none⟩ = some (.slice aao s'.ab.length acap) := (hp.lk.blk.cell 13).trans (lock_rest (j := 1))
          have hb8 : base ≤ w8.heap.size := Nat.le_trans hb4 hk8.size
          clear hp hk8 hw8 d0 y0 c12 HP HK7
          go_upto_region 9 with (at_builtin; go_loud (refine wpList_app (w := w8.alloc (.cells #[.int .i64 t] 3)) rfl (.tmp 51) (.tmp 53) 34 34 rfl 3 (.int .i64 0) 1 8 Tryz.underlying34 info3 rfl (HP8.out.idle ((Keep.refl (fun _ => False) w8).alloc (.cells #[.int .i64 t] 3))).ab rfl (Src.new (P := Tryz.prog) Tryz.underlying34 w8 1 [.int .i64 t] 3 rfl (by simp [Value.oneCell'])) rfl (show s'.ab.length + 1 ≤ maxLen by unfold maxLen; omega) (show (s'.ab.length + 1) * 8 ≤ 140737488355328 by omega) (Nat.le_trans hb8 ((Keep.refl (fun _ => False) w8).alloc (.cells #[.int .i64 t] 3)).size) (fun v9 w9 happ => ?_); obtain ⟨ao9, cap9, rfl, _⟩ := ownsRow_shape happ.own; have h6 := HP8.out.idle ((Keep.refl (fun _ => False) w8).alloc (.cells #[.int .i64 t] 3)); have hb7 := h6.lk.blk.keep happ.keep (fun e => ownsRow_blk h6.ab h6.lk.blk (by decide) e); have d0 : w9.cell? ⟨r, 13, none⟩ = some (.slice aao s'.ab.length acap) := (hb7.cell 13).trans (lock_rest (j := 1)); have y0 := hb7.free 13; have HK9 := Lib.hid happ.keep; have HP := Lib.hid (h6.pushAb (t := t) happ.keep (by have := happ.own; simpa [icells, List.map_append] using this)); clear happ h6 hb7))
          obtain ⟨w10, hw10⟩ : ∃ w10, w10 = w9.setCell ⟨r, 13, none⟩ (.slice ao9 (s'.ab.length + 1) cap9) := ⟨_, rfl⟩
          have hk10 : Keep (fun k => base ≤ k) w8 w10 := by
            rw [hw10]
            exact ((((Keep.refl (fun k => base ≤ k) w8).alloc (.cells #[.int .i64 t] 3)).trans HK9.out (fun g hg e => (ownsRow_lt HP8.out.ab g e).1))).setCell _ _ (fun _ => H4.out.ge)
          have hp := HP.out
          rw [← hw10] at hp ⊢
          have HP10 := Lib.hid hp
          have HK10 := Lib.hid (HK8.out.trans hk10 (fun _ _ e => e))
          have c14 : w10.cell? ⟨r, 14, none⟩ = some (.map (some V'.bw)) := (hp.lk.blk.cell 14).trans (lock_rest (j := 2))
          obtain ⟨w11, hrun, hm11, hk11, _⟩ := hp.wt.map.store Tryz.underlying193 (by unfold maxLen; omega) HTW.out (.slice none 0 0)
          have hr11 := hp.setWt ht hm11 (hk11.mono (fun _ _ e => .inl e)) (l := []) (Win.nil _ _ _ _) (fun u v g hu hne hv hg e => by cases e)
          have HR11 := Lib.hid hr11
          have HK11 := Lib.hid (HK10.out.trans hk11 (fun i hi e => by have e' : i = V'.bw := e; rw [e']; exact H4.out.wt.ge))
          have hb11 : base ≤ w11.heap.size := Nat.le_trans hb4 HK11.out.size
          clear hp hk10 hw10 d0 y0 c13 HP HK9 hm11 hk11 hr11
          go_wp2_with (go_at_call 149; go_loud (refine Calls.mono (release_any (N := 6) HR11.out.lk HTW.out) ?_; intro e4 w12 hp4; obtain ⟨rfl, hV4, hkb4, hkx4⟩ := run_rel HR11.out hb11 hp4; have HV4 := Lib.hid hV4; have HKB4 := Lib.hid hkb4; clear hp4 hV4 hkb4 hkx4))
          go_ret
          have hg := HG.out
          rw [HGH.out, goOnS_abort HW.out HH.out HRE.out] at hg
          obtain ⟨V1, h1, _⟩ := HV4.out
          refine ⟨by rw [hg]; simp, ⟨V1, by rw [hg]; exact h1⟩, ?_⟩
          exact ((HKW.out.trans HK4.out (fun _ _ e => e.elim)).trans HK11.out (fun _ _ e => e)).trans HKB4.out (fun _ _ e => e)
        · have HRE := Lib.hid hre
          clear hre
          go_wp2_with (first | (go_at_call 148; refine Calls.mono (circle_any (HR.out.idle HK3.out) ht HOPS.out) ?_; rintro e w4 ⟨b2, rfl, hb2, hk4⟩; obtain rfl : b2 = false := circ_f hb2 HRE.out; have HK4 := Lib.hid (HK3.out.trans hk4 (fun _ _ e => e)); clear hb2 hk4) | (go_at_call 147; refine Calls.mono HTY.out ?_; rintro e w3 (⟨_, rfl, hk3⟩ | ⟨hh, _⟩); rotate_left; exact absurd HH.out hh; have HK3 := Lib.hid hk3; clear hk3))
          go_ret
          have hg := HG.out
          rw [HGH.out, goOnS_wait HW.out HH.out HRE.out] at hg
          exact ⟨by rw [hg]; simp, ⟨V', by rw [hg]; exact HR.out.idle HK4.out⟩, HKW.out.trans HK4.out (fun _ _ e => e.elim)⟩
      · have HH := Lib.hid hH
        clear hH
        cases b with
        | true =>
          go_wp2_with (go_at_call 147; refine Calls.mono HTY.out ?_; rintro e w3 (⟨hh, _⟩ | ⟨_, rfl, ⟨V3, hr3⟩, hk3⟩); exact absurd hh HH.out; have HR3 := Lib.hid hr3; have HK3 := Lib.hid hk3; clear hr3 hk3)
          go_roundg rest.length
          case measure => have := HGH.out; omega
          case rel =>
            refine ⟨V3, _, true, by rw [doS_wt], rfl, HR3.out, HO'.out.do_ HW.out, ?_, HKW.out.trans HK3.out (fun _ _ e => e)⟩
            have hg := HG.out
            rw [HGH.out, goOnS_do HW.out HH.out] at hg
            rw [hg]; simp
        | false =>
          go_wp2_with (go_at_call 147; refine Calls.mono HTY.out ?_; rintro e w3 (⟨hh, _⟩ | ⟨_, rfl, ⟨V3, hr3⟩, hk3⟩); exact absurd hh HH.out; have HR3 := Lib.hid hr3; have HK3 := Lib.hid hk3; clear hr3 hk3)
          go_roundg rest.length
          case measure => have := HGH.out; omega
          case rel =>
            refine ⟨V3, _, decide (1 < kind), by rw [doS_wt], rfl, HR3.out, HO'.out.do_ HW.out, ?_, HKW.out.trans HK3.out (fun _ _ e => e)⟩
            have hg := HG.out
            rw [HGH.out, goOnS_do HW.out HH.out] at hg
            rw [hg]; simp
end Go.Proofs.YthdkamnclbfehaaGreatDoor
/- history.run.retry, in plain words. -/
namespace Go.Proofs.YthdkamnclbfehaaGreatDoor
set_option linter.unusedSimpArgs false
set_option linter.unusedVariables false
set_option linter.unnecessarySimpa false
open Go.RowKit
def Ready (s : LS) (t a_ : Int) : Prop := ∃ o rest, s.wt t = (o, a_) :: rest ∧ ¬ Hdd s o
theorem Ready.one {s : LS} {t a b : Int} (h : Ready s t a) (h' : Ready s t b) : a = b := by
  obtain ⟨o, r, e, _⟩ := h
  obtain ⟨o', r', e', _⟩ := h'
  rw [e] at e'
  cases e'; rfl
noncomputable def goOnT (s : LS) (t : Int) : LS := (goOnS (s.wt t).length s t).1
inductive RetryR : LS → LS → Prop
  | stop {s : LS} : (∀ t a, ¬ Ready s t a) → RetryR s s
  | go {s s' : LS} {t a : Int} : Ready s t a → (∀ u b, Ready s u b → a ≤ b) → RetryR (goOnT s t) s' → RetryR s s'
def wsum (s : LS) : Nat := (s.wt 1).length + (s.wt 2).length + (s.wt 3).length + (s.wt 4).length + (s.wt 5).length + (s.wt 6).length
theorem goOnS_wt : ∀ (n : Nat) (s : LS) (t : Int), (∀ u, u ≠ t → (goOnS n s t).1.wt u = s.wt u) ∧ ((goOnS n s t).1.wt t).length ≤ (s.wt t).length := by
  intro n
  induction n with
  | zero => intro s t; exact ⟨fun _ _ => rfl, Nat.le_refl _⟩
  | succ n ih =>
    intro s t
    cases e : s.wt t with
    | nil => rw [goOnS_nil e]; exact ⟨fun _ _ => rfl, by rw [e]; exact Nat.le_refl _⟩
    | cons p rest =>
      obtain ⟨o, a⟩ := p
      by_cases hh : Hdd s o
      · by_cases hr : Reach s t t
        · rw [goOnS_abort e hh hr]
          refine ⟨fun u hu => ?_, ?_⟩
          · show updW s.wt t [] u = s.wt u
            simp [updW, hu]
          · show (updW s.wt t [] t).length ≤ _
            simp [updW]
        · rw [goOnS_wait e hh hr]; exact ⟨fun _ _ => rfl, by rw [e]; exact Nat.le_refl _⟩
      · rw [goOnS_do e hh]
        obtain ⟨h1, h2⟩ := ih (doS s t o rest) t
        refine ⟨fun u hu => ?_, ?_⟩
        · rw [h1 u hu]
          show updW s.wt t rest u = s.wt u
          simp [updW, hu]
        · rw [doS_wt] at h2
          simp; omega
theorem goOnT_less {s : LS} (hok : Ok s) {t a : Int} (h : Ready s t a) : wsum (goOnT s t) < wsum s := by
  obtain ⟨o, rest, e, hn⟩ := h
  obtain ⟨h1, h2, _⟩ := hok.keys e
  have hw := goOnS_wt (s.wt t).length s t
  have hl : ((goOnT s t).wt t).length < (s.wt t).length := by
    unfold goOnT
    rw [e, List.length_cons, goOnS_do e hn]
    have := (goOnS_wt rest.length (doS s t o rest) t).2
    rw [doS_wt] at this
    show ((goOnS rest.length (doS s t o rest) t).1.wt t).length < rest.length + 1
    exact Nat.lt_succ_of_le this
  have hu : ∀ u, u ≠ t → (goOnT s t).wt u = s.wt u := hw.1
  have : t = 1 ∨ t = 2 ∨ t = 3 ∨ t = 4 ∨ t = 5 ∨ t = 6 := by omega
  unfold wsum
  rcases this with rfl | rfl | rfl | rfl | rfl | rfl
  · rw [hu 2 (by decide), hu 3 (by decide), hu 4 (by decide), hu 5 (by decide), hu 6 (by decide)]; omega
  · rw [hu 1 (by decide), hu 3 (by decide), hu 4 (by decide), hu 5 (by decide), hu 6 (by decide)]; omega
  · rw [hu 1 (by decide), hu 2 (by decide), hu 4 (by decide), hu 5 (by decide), hu 6 (by decide)]; omega
  · rw [hu 1 (by decide), hu 2 (by decide), hu 3 (by decide), hu 5 (by decide), hu 6 (by decide)]; omega
  · rw [hu 1 (by decide), hu 2 (by decide), hu 3 (by decide), hu 4 (by decide), hu 6 (by decide)]; omega
  · rw [hu 1 (by decide), hu 2 (by decide), hu 3 (by decide), hu 4 (by decide), hu 5 (by decide)]; omega
theorem goOnT_ok {s : LS} (h : Ok s) (t : Int) : Ok (goOnT s t) := goOnS_ok _ s t h
theorem RetryR.ok {s s' : LS} (h : RetryR s s') (hk : Ok s) : Ok s' := by
  induction h with
  | stop _ => exact hk
  | go _ _ _ ih => exact ih (goOnT_ok hk _)
def BestI (s : LS) (vw : Int → Option Value) (left : Int → Bool) (best : Int) : Prop :=
  (best = 0 ∧ ∀ u a, (kI u).wf = true → (vw u).isSome = true → left u = false → ¬ Ready s u a) ∨
  (best ≠ 0 ∧ ∃ a, Ready s best a ∧ ∀ u b, (kI u).wf = true → (vw u).isSome = true → left u = false → Ready s u b → a ≤ b)
theorem BestI.start (s : LS) (vw : Int → Option Value) : BestI s vw (fun x => (vw x).isSome) 0 :=
  .inl ⟨rfl, fun u a _ h1 h2 => by
    have h3 : (vw u).isSome = false := h2
    rw [h1] at h3; cases h3⟩
theorem left_cases {left : Int → Bool} {x u : Int} (h : (left u && !(u == x)) = false) : u = x ∨ left u = false := by
  by_cases e : u = x
  · exact .inl e
  · right
    have : (u == x) = false := by simpa using e
    rw [this] at h
    simpa using h
theorem BestI.skip {s : LS} {vw : Int → Option Value} {left : Int → Bool} {best x : Int} (h : BestI s vw left best) (hx : ∀ a, ¬ Ready s x a) : BestI s vw (fun y => left y && !(y == x)) best := by
  rcases h with ⟨h0, h1⟩ | ⟨h0, a, ha, h1⟩
  · refine .inl ⟨h0, fun u a hu hv hl hr => ?_⟩
    rcases left_cases hl with e | e
    · subst e; exact hx a hr
    · exact h1 u a hu hv e hr
  · refine .inr ⟨h0, a, ha, fun u b hu hv hl hr => ?_⟩
    rcases left_cases hl with e | e
    · subst e; exact absurd hr (hx b)
    · exact h1 u b hu hv e hr
theorem BestI.first {s : LS} {vw : Int → Option Value} {left : Int → Bool} {x a : Int} (h : BestI s vw left 0) (hx : Ready s x a) (hx0 : x ≠ 0) : BestI s vw (fun y => left y && !(y == x)) x := by
  rcases h with ⟨_, h1⟩ | ⟨h0, _⟩
  · refine .inr ⟨hx0, a, hx, fun u b hu hv hl hr => ?_⟩
    rcases left_cases hl with e | e
    · subst e; exact Int.le_of_eq (hx.one hr)
    · exact absurd hr (h1 u b hu hv e)
  · exact absurd rfl h0
theorem BestI.less {s : LS} {vw : Int → Option Value} {left : Int → Bool} {best x a b : Int} (h : BestI s vw left best) (hb : Ready s best b) (hb0 : best ≠ 0) (hx : Ready s x a) (hx0 : x ≠ 0) (hlt : a < b) : BestI s vw (fun y => left y && !(y == x)) x := by
  rcases h with ⟨h0, _⟩ | ⟨_, b', hb', h1⟩
  · exact absurd h0 hb0
  · have := hb.one hb'
    refine .inr ⟨hx0, a, hx, fun u c hu hv hl hr => ?_⟩
    rcases left_cases hl with e | e
    · subst e; exact Int.le_of_eq (hx.one hr)
    · have := h1 u c hu hv e hr; omega
theorem BestI.more {s : LS} {vw : Int → Option Value} {left : Int → Bool} {best x a b : Int} (h : BestI s vw left best) (hb : Ready s best b) (hb0 : best ≠ 0) (hx : Ready s x a) (hle : b ≤ a) : BestI s vw (fun y => left y && !(y == x)) best := by
  rcases h with ⟨h0, _⟩ | ⟨_, b', hb', h1⟩
  · exact absurd h0 hb0
  · have := hb.one hb'
    refine .inr ⟨hb0, b', hb', fun u c hu hv hl hr => ?_⟩
    rcases left_cases hl with e | e
    · subst e; have := hx.one hr; omega
    · exact h1 u c hu hv e hr
end Go.Proofs.YthdkamnclbfehaaGreatDoor
