/- house.state.lot, there, touched. -/
import Derived.Test.YthdkamnclbfehaaGreatDoorTake
namespace Go.Proofs.YthdkamnclbfehaaGreatDoor
set_option linter.unusedSimpArgs false
set_option linter.unusedVariables false
set_option linter.unnecessarySimpa false
open Go.RowKit

/-- Is there a lot with a number. -/
def hasLot (S : St) (i : Int) : Bool := decide (1 ≤ i) && decide (i ≤ (S.lots.length : Int))
def lotPtr (V : StV) (i : Int) : Value :=
  match V.vl with
  | .slice (some a) _ _ => .pointer (some ⟨a.block, a.off + (i - 1).toNat * 4, none⟩)
  | _ => .pointer none
def LotPost (w : World) (V : StV) (S : St) (i : Int) (e : Ending) (w' : World) : Prop := e = .returned (if hasLot S i then lotPtr V i else .pointer none) ∧ w = w'

set_option maxHeartbeats 1000000 in
theorem lot_any {w : World} {V : StV} {S : St} {i : Int} (h : StAt w V S) (hl : S.lots.length ≤ 1000000000) : Calls Tryz.prog 263 #[.pointer (some ⟨V.b, 0, none⟩), .int .i64 i] w (LotPost w V S i) := by
  obtain ⟨b, vb, vl, vc, vt, vn⟩ := V
  have c1 := h.blk.cell 1
  simp [StV.cells] at c1
  have hrl := h.rl
  obtain ⟨lo, lc, hvl, hlc, _, hsp⟩ := hrl.shape
  simp only at hvl
  subst hvl
  have hlo : 0 < S.lots.length → ∃ g o, lo = some ⟨g, o, none⟩ := fun hp => by
    rcases hrl.2.2 with ⟨_, e⟩ | ⟨g, o, c, e, _⟩
    · omega
    · injection e with e1
      exact ⟨g, o, e1⟩
  clear h hrl hsp
  by_cases h1 : i < 1
  · have e1 : decide (i < 1) = true := decide_eq_true h1
    have HF := Lib.hid (show hasLot S i = false by unfold hasLot; rw [decide_eq_false (by omega)]; rfl)
    clear h1
    go_enter Tryz.func263, Tryz.ntmps263
    go_wp2
    go_ret
    exact ⟨by rw [HF.out]; rfl, rfl⟩
  have e1 : decide (i < 1) = false := decide_eq_false h1
  by_cases h2 : (S.lots.length : Int) < i
  · have e2 : decide ((S.lots.length : Int) < i) = true := decide_eq_true h2
    have HF := Lib.hid (show hasLot S i = false by unfold hasLot; rw [decide_eq_false (show ¬ i ≤ (S.lots.length : Int) by omega)]; simp)
    go_enter Tryz.func263, Tryz.ntmps263
    go_wp2
    go_ret
    exact ⟨by rw [HF.out]; rfl, rfl⟩
  have e2 : decide ((S.lots.length : Int) < i) = false := decide_eq_false h2
  have HF := Lib.hid (show hasLot S i = true by unfold hasLot; rw [decide_eq_true (by omega), decide_eq_true (by omega)]; rfl)
  obtain ⟨k, rfl⟩ : ∃ k : Nat, i = (k : Int) + 1 := ⟨(i - 1).toNat, by omega⟩
  have hk : k < S.lots.length := by omega
  have hw : IntKind.i64.wrap ((k : Int) + 1 - 1) = (k : Int) := by rw [IntWalk.i64_in _ (by omega)]; omega
  obtain ⟨g, o, rfl⟩ := hlo (by omega)
  clear hlo
  go_enter Tryz.func263, Tryz.ntmps263
  go_wp2
  go_ret
  refine ⟨?_, rfl⟩
  rw [HF.out, if_pos rfl]
  unfold lotPtr
  simp only []
  rw [show ((k : Int) + 1 - 1).toNat = k by omega]
  rfl

theorem enters265 : Enters 265 := enters_of Tryz.func265 (by kernel_rfl) rfl
theorem thereOne_any {w : World} {V : StV} {S : St} {i : Int} {c : Nat} (h : StAt w V S) (hl : S.lots.length ≤ 1000000000) (hc : w.cell? ⟨c, 0, none⟩ = some (.pointer (some ⟨V.b, 0, none⟩))) :
    Calls Tryz.prog 265 #[.int .i64 i, .pointer (some ⟨c, 0, none⟩)] w fun e w' => e = .returned (.bool (!hasLot S i)) ∧ w = w' := by
  have hlot := lot_any (i := i) h hl
  have hp : hasLot S i = true → ∃ a, lotPtr V i = .pointer (some a) := fun hh => by
    unfold lotPtr
    have hrl := h.rl
    rcases hrl.2.2 with ⟨_, e⟩ | ⟨g, o, cp, e, _⟩
    · unfold hasLot at hh; simp at hh; omega
    · rw [e]; exact ⟨_, rfl⟩
  unfold LotPost at hlot
  cases hb : hasLot S i with
  | true =>
    obtain ⟨a, ha⟩ := hp hb
    rw [hb, if_pos rfl, ha] at hlot
    have HL := Lib.hid hlot; clear hlot hp ha h hb
    go_enter Tryz.func265, Tryz.ntmps265
    go_wp2_with (first
      | (go_at_call 263; refine HL.out.mono ?_; rintro e w' ⟨rfl, rfl⟩))
    go_ret
    exact ⟨rfl, rfl⟩
  | false =>
    rw [hb, if_neg (by simp)] at hlot
    have HL := Lib.hid hlot; clear hlot hp h hb
    go_enter Tryz.func265, Tryz.ntmps265
    go_wp2_with (first
      | (go_at_call 263; refine HL.out.mono ?_; rintro e w' ⟨rfl, rfl⟩))
    go_ret
    exact ⟨rfl, rfl⟩
/-- Are all these lots there. -/
def allLots (S : St) (l : List Int) : Bool := l.all (hasLot S)
theorem there_any {w : World} {V : StV} {S : St} {v : Value} {l : List Int} (h : StAt w V S) (hl : S.lots.length ≤ 1000000000) (hv : Rd w 1 v l.length (icells l)) (hll : l.length < 9223372036854775807) :
    Calls Tryz.prog 262 #[.pointer (some ⟨V.b, 0, none⟩), v] w (IdxPost w (.bool (allLots S l))) := by
  obtain ⟨ao, cap, hve, _⟩ := hv.shape
  subst hve
  have hk1 : Keep (fun _ => False) w (w.alloc (.cells #[.pointer (some ⟨V.b, 0, none⟩)] 104)) := (Keep.refl _ _).alloc _
  have hb1 := Blk.new w #[.pointer (some ⟨V.b, 0, none⟩)] 104
  have hcon := containsFunc_any (p := fun i => !hasLot S i) (hv.keep hk1 (fun _ _ h => h)) enters265 (capt := #[.pointer (some ⟨w.heap.size, 0, none⟩)]) (fun w1 hk x _ => (thereOne_any (i := x) ((h.keep hk1 (fun _ _ h => h)).keep hk (fun _ _ h => h)) hl ((hb1.keep hk (fun h => h)).cell 0)).mono (fun e w2 hh => ⟨hh.1, hh.2 ▸ Keep.refl _ _⟩)) hll
  have HC := Lib.hid hcon; clear hcon hb1
  have HK1 := Lib.hid hk1; clear hk1
  have HN := Lib.hid (show (!l.any (fun i => !hasLot S i)) = allLots S l by unfold allLots; rw [List.not_any_eq_all_not]; simp)
  clear h hv
  go_enter Tryz.func262, Tryz.ntmps262
  go_wp2_with (first
    | (go_at_call 85; refine HC.out.mono ?_; rintro e w2 ⟨rfl, hk2⟩; have HK2 := Lib.hid hk2; clear hk2))
  go_ret
  refine ⟨?_, HK1.out.trans HK2.out (fun _ _ h => h)⟩
  rw [← HN.out]; rfl

def touchNote (i j : Int) : ByteArray := ((bs [116, 111, 117, 99, 104, 32] ++ itoaB i) ++ bs [32]) ++ itoaB j
def touchS (S : St) (i j : Int) : St := { S with contacts := S.contacts ++ [(i, j)], notes := S.notes ++ [touchNote i j] }
def TouchedPost (base : Nat) (w : World) (V : StV) (S : St) (i j : Int) (e : Ending) (w' : World) : Prop :=
  ∃ V', e = .returned (.tuple #[]) ∧ OSt base w' V' (touchS S i j) ∧ Chg base w V V' w'
end Go.Proofs.YthdkamnclbfehaaGreatDoor
