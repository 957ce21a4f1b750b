/- math/bits.OnesCount and TrailingZeros at small numbers; chordal.nodes. -/
import Derived.Test.YtmiencgloondjaaGreatDoorNN5
import Derived.Test.YtmiencgloondjaaGreatDoorNN15
import Derived.Shelf.Spec.TrailingZeros
import Derived.Lib.LaidTab

/- math/bits.OnesCount and TrailingZeros at small numbers; chordal.nodes. -/
namespace Go.Proofs.YtmiencgloondjaaGreatDoor
set_option linter.unusedSimpArgs false
set_option linter.unusedVariables false
set_option linter.unnecessarySimpa false
open Go.RowKit

/-- What OnesCount64 reckons. -/
def onesF (x : Int) : Int :=
  let a := IntKind.u64.wrap (bits .and .u64 (x / 2) 6148914691236517205 + bits .and .u64 x 6148914691236517205)
  let b := IntKind.u64.wrap (bits .and .u64 (a / 4) 3689348814741910323 + bits .and .u64 a 3689348814741910323)
  let c := bits .and .u64 (IntKind.u64.wrap (b / 16 + b)) 1085102592571150095
  let d := IntKind.u64.wrap (c + c / 256)
  let e := IntKind.u64.wrap (d + d / 65536)
  let f := IntKind.u64.wrap (e + e / 4294967296)
  bits .and .i64 (wrap64 f) 127
/-- How many of the first 12 bits are set. -/
def cnt12 (s : Nat) : Nat := ((List.range 12).filter (s.testBit ·)).length
/-- Whatever holds of 64 a + b for all a, b below 64 holds below 4096. -/
theorem below4096 {q : Nat → Prop} (h : ∀ a b : Fin 64, q (64 * a.val + b.val)) (x : Nat) (hx : x < 4096) : q x := by
  have := h ⟨x / 64, by omega⟩ ⟨x % 64, by omega⟩
  simp only at this
  rwa [show 64 * (x / 64) + x % 64 = x by omega] at this
theorem onesF_small (x : Nat) (hx : x < 4096) : onesF (x : Int) = (cnt12 x : Int) :=
  below4096 (q := fun x => onesF (x : Int) = (cnt12 x : Int)) (by decide +kernel) x hx
set_option maxHeartbeats 400000 in
theorem ones64 (x : Int) (hx0 : 0 ≤ x) (hx : x < 4096) (w : World) :
    Calls Tryz.prog 152 #[.int .u64 x] w fun e w' => e = .returned (.int .i64 (onesF x)) ∧ w = w' := by
  go_enter Tryz.func152, Tryz.ntmps152
  go_wp2
  go_ret
  exact ⟨rfl, rfl⟩
theorem onesCount_small (x : Nat) (hx : x < 4096) (w : World) :
    Calls Tryz.prog 104 #[.int .u64 x] w fun e w' => e = .returned (.int .i64 (cnt12 x)) ∧ w = w' := by
  have HX := Lib.hid (onesF_small x hx)
  go_enter Tryz.func104, Tryz.ntmps104
  go_wp2_with (go_at_call 152; refine (ones64 _ (by omega) (by omega) _).mono ?_; rintro e w' ⟨rfl, rfl⟩)
  go_ret
  exact ⟨by rw [← HX.out]; rfl, rfl⟩

/-- The elements of a set of numbers below 12, rising. -/
def elems (s : Nat) : List Nat := (List.range 12).filter (s.testBit ·)
theorem elems_zero : elems 0 = [] := by decide
theorem filter_false {p : Nat → Bool} : ∀ (n : Nat), (∀ i, i < n → p i = false) → (List.range n).filter p = []
  | 0, _ => rfl
  | n + 1, h => by
    rw [List.range_succ, List.filter_append, filter_false n (fun i hi => h i (by omega))]
    simp [h n (by omega)]
theorem filter_step {p q : Nat → Bool} {k : Nat} : ∀ (n : Nat), k < n → (∀ i, i < k → p i = false ∧ q i = false) → p k = true → q k = false → (∀ i, k < i → i < n → p i = q i) →
    (List.range n).filter p = k :: (List.range n).filter q
  | 0, h, _, _, _, _ => by omega
  | n + 1, h, h1, h2, h3, h4 => by
    rw [List.range_succ, List.filter_append, List.filter_append]
    by_cases hk : k = n
    · subst hk
      rw [filter_false k (fun i hi => (h1 i hi).1), filter_false k (fun i hi => (h1 i hi).2)]
      simp [h2, h3]
    · rw [filter_step n (by omega) h1 h2 h3 (fun i a b => h4 i a (by omega))]
      have e : [n].filter p = [n].filter q := by simp only [List.filter_cons, List.filter_nil, h4 n (by omega) (by omega)]
      rw [e, List.cons_append]
theorem and_pred (k m i : Nat) : ((2 ^ k * (2 * m + 1)) &&& (2 ^ k * (2 * m + 1) - 1)).testBit i = (decide (k < i) && m.testBit (i - k - 1)) := by
  have hp : 0 < 2 ^ k := Nat.two_pow_pos k
  have e1 : 2 ^ k * (2 * m + 1) - 1 = 2 ^ k * (2 * m) + (2 ^ k - 1) := by
    rw [Nat.mul_add, Nat.mul_one]; omega
  rw [Nat.testBit_and, Nat.testBit_two_pow_mul, e1, Nat.testBit_two_pow_mul_add _ (by omega)]
  rcases Nat.lt_trichotomy i k with h | h | h
  · simp [show ¬ k ≤ i by omega, show ¬ k < i by omega]
  · subst h; simp
  · have e2 : i - k = (i - k - 1) + 1 := by omega
    simp only [show k ≤ i by omega, h, show ¬ i < k by omega, decide_true, Bool.true_and, if_false, ge_iff_le]
    rw [e2, Nat.testBit_succ, Nat.testBit_succ, show (2 * m + 1) / 2 = m by omega, show 2 * m / 2 = m by omega]
    simp
theorem elems_step (x : Nat) (hx : x < 4096) (h0 : x ≠ 0) : elems x = Lib.ctz 64 x :: elems (x &&& (x - 1)) := by
  have hc : Lib.ctz 64 x = Lib.ctzFrom 64 x := by simp [Lib.ctz, h0]
  obtain ⟨m, hm, _⟩ := Lib.ctzFrom_spec 64 x (by omega) (by omega)
  rw [hc]
  generalize Lib.ctzFrom 64 x = k at *
  have hk : k < 12 := by
    rcases Nat.lt_or_ge k 12 with h | h
    · exact h
    · have : 2 ^ 12 ≤ 2 ^ k := Nat.pow_le_pow_right (by decide) h
      have : 2 ^ k ≤ 2 ^ k * (2 * m + 1) := Nat.le_mul_of_pos_right _ (by omega)
      omega
  have hx' : ∀ i, x.testBit i = (decide (k ≤ i) && (2 * m + 1).testBit (i - k)) := by
    intro i; rw [hm, Nat.testBit_two_pow_mul]
  unfold elems
  refine filter_step 12 hk (fun i hi => ⟨?_, ?_⟩) ?_ ?_ (fun i h1 h2 => ?_)
  · rw [hx']; simp; omega
  · rw [hm, and_pred]; simp; omega
  · rw [hx']; simp
  · rw [hm, and_pred]; simp
  · rw [hx', hm, and_pred]
    have e2 : i - k = (i - k - 1) + 1 := by omega
    simp only [show k ≤ i by omega, h1, decide_true, Bool.true_and]
    rw [e2, Nat.testBit_succ, show (2 * m + 1) / 2 = m by omega]
    simp

theorem tz64_core (x k idx : Nat) (w : World) (hx0 : ((x : Int) == 0) = false)
    (key : IntKind.u64.wrap (bits BinOp.and IntKind.u64 (x : Int) (IntKind.u64.wrap (-(x : Int))) * 285870213051353865) / 288230376151711744 = (idx : Int))
    (hi : idx < 64) (hk : k < 64) (hcell : w.cell? ⟨8, idx, none⟩ = some (.int .u8 k)) :
    Calls Tryz.prog 228 #[.int .u64 x] w fun e w' => e = .returned (.int .i64 k) ∧ w = w' := by
  go_enter Tryz.func228, Tryz.ntmps228
  go_wp2_with (simp only [key])
  go_ret
  exact ⟨rfl, rfl⟩
theorem tz64_any (x : Nat) (hx : x < 4096) (hx0 : x ≠ 0) (w : World) (hT : TabAt 8 Lib.deBruijn64tab w) :
    Calls Tryz.prog 228 #[.int .u64 x] w fun e w' => e = .returned (.int .i64 (Lib.ctz 64 x)) ∧ w = w' := by
  have hx64 : x < 18446744073709551616 := Nat.lt_of_lt_of_le hx (by decide)
  obtain ⟨hlow, hk⟩ := Lib.lowest_bit 64 x hx0 hx64
  obtain ⟨hi, htab⟩ := Lib.deBruijn64_at _ hk
  have hcell := hT _ hi
  rw [htab] at hcell
  exact tz64_core x _ _ w (by simp; omega) (tz64_key x _ hx64 hx0 hlow) hi hk hcell
theorem tz_any (x : Nat) (hx : x < 4096) (hx0 : x ≠ 0) (w : World) (hT : TabAt 8 Lib.deBruijn64tab w) :
    Calls Tryz.prog 154 #[.int .u64 x] w fun e w' => e = .returned (.int .i64 (Lib.ctz 64 x)) ∧ w = w' := by
  have HT := Lib.hid hT; clear hT
  have H0 := Lib.hid hx0; clear hx0
  go_enter Tryz.func154, Tryz.ntmps154
  go_wp2_with (go_at_call 228; refine (tz64_any _ hx H0.out _ HT.out).mono ?_; rintro e w' ⟨rfl, rfl⟩)
  go_ret
  exact ⟨rfl, rfl⟩

def ncells (l : List Nat) : List Value := l.map fun n : Nat => .int .i64 n
theorem ncells_icells (l : List Nat) : ncells l = icells (l.map Int.ofNat) := by simp [ncells, icells]
theorem info3 : (Tryz.prog.info? 3).map (fun i => (i.zero, i.size, i.bytes)) = some (some (.int .i64 0), 1, 8) := by kernel_rfl

def NodesPost (w : World) (s : Nat) (e : Ending) (w' : World) : Prop :=
  ∃ v', e = .returned v' ∧ w'.ownsRow w.heap.size 3 1 v' (elems s).length (ncells (elems s)) ∧ Keep (fun _ => False) w w'

set_option maxHeartbeats 1000000 in
set_option maxRecDepth 100000 in
theorem nodes_any (s : Nat) (hs : s < 4096) (w : World) (hT : TabAt 8 Lib.deBruijn64tab w) (h3 : 8 < w.heap.size) :
    Calls Tryz.prog 106 #[.int .i64 s] w (NodesPost w s) := by
  have HT := Lib.hid hT; clear hT
  go_enter Tryz.func106, Tryz.ntmps106
  go_wp2
  go_loopw [0, 3] (fun c o wr => ∃ (x n : Nat) (l : List Nat), c = .int .i64 x ∧ x < 4096 ∧ elems s = l ++ elems x ∧ n = l.length ∧ n ≤ 12 ∧ wr.ownsRow w.heap.size 3 1 o n (ncells l) ∧ Keep (fun _ => False) w wr) (fun c _ _ => (intOf c).toNat)
  case atStart => exact ⟨s, 0, [], rfl, hs, rfl, rfl, by omega, World.ownsRow_nil _ _ _ _, Keep.refl _ _⟩
  case round =>
    obtain ⟨x, n, l, rfl, hx, hel, hn, hn12, hown, hkeep⟩ := hrel
    obtain ⟨ao, cap, hv, hcap, _⟩ := ownsRow_shape hown
    subst hv
    have HE := Lib.hid hel; clear hel
    have HN := Lib.hid hn; clear hn
    have HO := Lib.hid hown; clear hown
    have HK := Lib.hid hkeep; clear hkeep
    by_cases h0 : x = 0
    · subst h0
      go_wp2
      go_ret
      have hl : elems s = l := by rw [HE.out, elems_zero, List.append_nil]
      exact ⟨_, rfl, by rw [hl, ← HN.out]; exact HO.out, HK.out⟩
    · have hne : ((x : Int) != 0) = true := by rw [bne_iff_ne]; omega
      have HST := Lib.hid (elems_step x hx h0)
      have hx1 : (1 : Int) ≤ x := by omega
      have hlen : n + 1 ≤ 12 := by
        have h1 := congrArg List.length HE.out
        rw [HST.out] at h1
        have h2 : (elems s).length ≤ 12 := by
          have := List.length_filter_le (s.testBit ·) (List.range 12)
          simpa [elems] using this
        simp at h1
        have := HN.out
        omega
      have hand : bits BinOp.and IntKind.i64 (x : Int) ((x : Int) - 1) = ((x &&& (x - 1) : Nat) : Int) := by
        rw [show ((x : Int) - 1) = ((x - 1 : Nat) : Int) by omega]
        exact i64_and_nat x (x - 1) (by omega) (by omega)
      have hlow : x &&& (x - 1) < x := Nat.lt_of_le_of_lt Nat.and_le_right (by omega)
      have HT' := Lib.hid (show TabAt 8 Lib.deBruijn64tab wr from fun j hj => (HK.out.cell (p := ⟨8, j, none⟩) h3 (fun h => h)).trans (HT.out j hj))
      have H0 := Lib.hid h0; clear h0
      have hwr : w.heap.size ≤ wr.heap.size := HK.out.size
      obtain ⟨kk, hkk⟩ : ∃ kk, Lib.ctz 64 x = kk := ⟨_, rfl⟩
      rw [hkk] at HST
      have HKK := Lib.hid hkk; clear hkk
      go_wp2_with (first | (go_at_call 154; refine (tz_any _ hx H0.out _ HT'.out).mono ?_; rintro e w' ⟨rfl, rfl⟩; rw [HKK.out]) | (at_builtin; refine wpList_app (w := wr.alloc (.cells #[.int .i64 kk] 3)) rfl (.tmp 10) (.tmp 14) 22 22 rfl 3 (.int .i64 0) 1 8 Tryz.underlying22 info3 rfl (HO.out.alloc _) rfl (Src.new (P := Tryz.prog) Tryz.underlying22 wr 1 [.int .i64 kk] 3 rfl (by simp [Value.oneCell'])) rfl ?hb1 ?hb2 ?hb3 ?hgo))
      case hb1 => unfold maxLen; omega
      case hb2 => omega
      case hb3 => simp; omega
      case hgo =>
      intro v' w2 happ
      have HA := Lib.hid happ; clear happ
      go_wp2
      go_roundw
      case rel =>
        refine ⟨x &&& (x - 1), n + 1, l ++ [kk], rfl, by omega, ?_, by simp [HN.out], hlen, ?_, ?_⟩
        · rw [HE.out, HST.out]; simp
        · simpa [ncells] using HA.out.own
        · refine (HK.out.alloc _).trans HA.out.keep (fun k hk e => ?_)
          have := (HO.out.lt k e).1
          omega
      case measure => simp [intOf]; omega
end Go.Proofs.YtmiencgloondjaaGreatDoor
