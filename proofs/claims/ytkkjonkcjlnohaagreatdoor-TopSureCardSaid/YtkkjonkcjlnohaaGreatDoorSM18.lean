/- math/bits.OnesCount and TrailingZeros at small numbers; chordal.nodes. -/
import Derived.Test.YtkkjonkcjlnohaaGreatDoorSM5
import Derived.Test.YtkkjonkcjlnohaaGreatDoorSM16
import Derived.Shelf.Spec.TrailingZeros
import Derived.Lib.LaidTab

/- math/bits.OnesCount and TrailingZeros at small numbers; chordal.nodes. -/
namespace Go.Proofs.YtkkjonkcjlnohaaGreatDoor
set_option linter.unusedSimpArgs false
set_option linter.unusedVariables false
set_option linter.unnecessarySimpa false
open Go.RowKit

/-- What OnesCount64 reckons. -/
def onesF (x : Int) : Int :=
  let a := IntKind.u64.wrap (bits .and .u64 (x / 2) 6148914691236517205 + bits .and .u64 x 6148914691236517205)
  let b := IntKind.u64.wrap (bits .and .u64 (a / 4) 3689348814741910323 + bits .and .u64 a 3689348814741910323)
  let c := bits .and .u64 (IntKind.u64.wrap (b / 16 + b)) 1085102592571150095
  let d := IntKind.u64.wrap (c + c / 256)
  let e := IntKind.u64.wrap (d + d / 65536)
  let f := IntKind.u64.wrap (e + e / 4294967296)
  bits .and .i64 (wrap64 f) 127
/-- How many of the first 12 bits are set. -/
def cnt12 (s : Nat) : Nat := ((List.range 12).filter (s.testBit ·)).length
/-- Whatever holds of 64 a + b for all a, b below 64 holds below 4096. -/
theorem below4096 {q : Nat → Prop} (h : ∀ a b : Fin 64, q (64 * a.val + b.val)) (x : Nat) (hx : x < 4096) : q x := by
  have := h ⟨x / 64, by omega⟩ ⟨x % 64, by omega⟩
  simp only at this
  rwa [show 64 * (x / 64) + x % 64 = x by omega] at this
theorem onesF_small (x : Nat) (hx : x < 4096) : onesF (x : Int) = (cnt12 x : Int) :=
  below4096 (q := fun x => onesF (x : Int) = (cnt12 x : Int)) (by decide +kernel) x hx
set_option maxHeartbeats 400000 in
theorem ones64 (x : Int) (hx0 : 0 ≤ x) (hx : x < 4096) (w : World) :
    Calls Tryz.prog 218 #[.int .u64 x] w fun e w' => e = .returned (.int .i64 (onesF x)) ∧ w = w' := by
  go_enter Tryz.func218, Tryz.ntmps218
  go_wp2
  go_ret
  exact ⟨rfl, rfl⟩
theorem onesCount_small (x : Nat) (hx : x < 4096) (w : World) :
    Calls Tryz.prog 142 #[.int .u64 x] w fun e w' => e = .returned (.int .i64 (cnt12 x)) ∧ w = w' := by
  have HX := Lib.hid (onesF_small x hx)
  go_enter Tryz.func142, Tryz.ntmps142
  go_wp2_with (go_at_call 218; refine (ones64 _ (by omega) (by omega) _).mono ?_; rintro e w' ⟨rfl, rfl⟩)
  go_ret
  exact ⟨by rw [← HX.out]; rfl, rfl⟩

/-- The elements of a set of numbers below 12, rising. -/
def elems (s : Nat) : List Nat := (List.range 12).filter (s.testBit ·)
theorem elems_zero : elems 0 = [] := by decide
theorem filter_false {p : Nat → Bool} : ∀ (n : Nat), (∀ i, i < n → p i = false) → (List.range n).filter p = []
  | 0, _ => rfl
  | n + 1, h => by
    rw [List.range_succ, List.filter_append, filter_false n (fun i hi => h i (by omega))]
    simp [h n (by omega)]
theorem filter_step {p q : Nat → Bool} {k : Nat} : ∀ (n : Nat), k < n → (∀ i, i < k → p i = false ∧ q i = false) → p k = true → q k = false → (∀ i, k < i → i < n → p i = q i) →
    (List.range n).filter p = k :: (List.range n).filter q
  | 0, h, _, _, _, _ => by omega
  | n + 1, h, h1, h2, h3, h4 => by
    rw [List.range_succ, List.filter_append, List.filter_append]
    by_cases hk : k = n
    · subst hk
      rw [filter_false k (fun i hi => (h1 i hi).1), filter_false k (fun i hi => (h1 i hi).2)]
      simp [h2, h3]
    · rw [filter_step n (by omega) h1 h2 h3 (fun i a b => h4 i a (by omega))]
      have e : [n].filter p = [n].filter q := by simp only [List.filter_cons, List.filter_nil, h4 n (by omega) (by omega)]
      rw [e, List.cons_append]
theorem and_pred (k m i : Nat) : ((2 ^ k * (2 * m + 1)) &&& (2 ^ k * (2 * m + 1) - 1)).testBit i = (decide (k < i) && m.testBit (i - k - 1)) := by
  have hp : 0 < 2 ^ k := Nat.two_pow_pos k
  have e1 : 2 ^ k * (2 * m + 1) - 1 = 2 ^ k * (2 * m) + (2 ^ k - 1) := by
    rw [Nat.mul_add, Nat.mul_one]; omega
  rw [Nat.testBit_and, Nat.testBit_two_pow_mul, e1, Nat.testBit_two_pow_mul_add _ (by omega)]
  rcases Nat.lt_trichotomy i k with h | h | h
  · simp [show ¬ k ≤ i by omega, show ¬ k < i by omega]
  · subst h; simp
  · have e2 : i - k = (i - k - 1) + 1 := by omega
    simp only [show k ≤ i by omega, h, show ¬ i < k by omega, decide_true, Bool.true_and, if_false, ge_iff_le]
    rw [e2, Nat.testBit_succ, Nat.testBit_succ, show (2 * m + 1) / 2 = m by omega, show 2 * m / 2 = m by omega]
    simp
theorem elems_step (x : Nat) (hx : x < 4096) (h0 : x ≠ 0) : elems x = Lib.ctz 64 x :: elems (x &&& (x - 1)) := by
  have hc : Lib.ctz 64 x = Lib.ctzFrom 64 x := by simp [Lib.ctz, h0]
  obtain ⟨m, hm, _⟩ := Lib.ctzFrom_spec 64 x (by omega) (by omega)
  rw [hc]
  generalize Lib.ctzFrom 64 x = k at *
  have hk : k < 12 := by
    rcases Nat.lt_or_ge k 12 with h | h
    · exact h
    · have : 2 ^ 12 ≤ 2 ^ k := Nat.pow_le_pow_right (by decide) h
      have : 2 ^ k ≤ 2 ^ k * (2 * m + 1) := Nat.le_mul_of_pos_right _ (by omega)
      omega
  have hx' : ∀ i, x.testBit i = (decide (k ≤ i) && (2 * m + 1).testBit (i - k)) := by
    intro i; rw [hm, Nat.testBit_two_pow_mul]
  unfold elems
  refine filter_step 12 hk (fun i hi => ⟨?_, ?_⟩) ?_ ?_ (fun i h1 h2 => ?_)
  · rw [hx']; simp; omega
  · rw [hm, and_pred]; simp; omega
  · rw [hx']; simp
  · rw [hm, and_pred]; simp
  · rw [hx', hm, and_pred]
    have e2 : i - k = (i - k - 1) + 1 := by omega
    simp only [show k ≤ i by omega, h1, decide_true, Bool.true_and]
    rw [e2, Nat.testBit_succ, show (2 * m + 1) / 2 = m by omega]
    simp

theorem tz64_core (x k idx : Nat) (w : World) (hx0 : ((x : Int) == 0) = false)
    (key : IntKind.u64.wrap (bits BinOp.and IntKind.u64 (x : Int) (IntKind.u64.wrap (-(x : Int))) * 285870213051353865) / 288230376151711744 = (idx : Int))
    (hi : idx < 64) (hk : k < 64) (hcell : w.cell? ⟨6, idx, none⟩ = some (.int .u8 k)) :
    Calls Tryz.prog 140 #[.int .u64 x] w fun e w' => e = .returned (.int .i64 k) ∧ w = w' := by
  go_enter Tryz.func140, Tryz.ntmps140
  go_wp2_with (simp only [key])
  go_ret
  exact ⟨rfl, rfl⟩
theorem tz64_any (x : Nat) (hx : x < 4096) (hx0 : x ≠ 0) (w : World) (hT : TabAt 6 Lib.deBruijn64tab w) :
    Calls Tryz.prog 140 #[.int .u64 x] w fun e w' => e = .returned (.int .i64 (Lib.ctz 64 x)) ∧ w = w' := by
  have hx64 : x < 18446744073709551616 := Nat.lt_of_lt_of_le hx (by decide)
  obtain ⟨hlow, hk⟩ := Lib.lowest_bit 64 x hx0 hx64
  obtain ⟨hi, htab⟩ := Lib.deBruijn64_at _ hk
  have hcell := hT _ hi
  rw [htab] at hcell
  exact tz64_core x _ _ w (by simp; omega) (tz64_key x _ hx64 hx0 hlow) hi hk hcell
theorem tz_any (x : Nat) (hx : x < 4096) (hx0 : x ≠ 0) (w : World) (hT : TabAt 6 Lib.deBruijn64tab w) :
    Calls Tryz.prog 92 #[.int .u64 x] w fun e w' => e = .returned (.int .i64 (Lib.ctz 64 x)) ∧ w = w' := by
  have HT := Lib.hid hT; clear hT
  have H0 := Lib.hid hx0; clear hx0
  go_enter Tryz.func92, Tryz.ntmps92
  go_wp2_with (go_at_call 140; refine (tz64_any _ hx H0.out _ HT.out).mono ?_; rintro e w' ⟨rfl, rfl⟩)
  go_ret
  exact ⟨rfl, rfl⟩

def ncells (l : List Nat) : List Value := l.map fun n : Nat => .int .i64 n
theorem ncells_icells (l : List Nat) : ncells l = icells (l.map Int.ofNat) := by simp [ncells, icells]
theorem info3 : (Tryz.prog.info? 3).map (fun i => (i.zero, i.size, i.bytes)) = some (some (.int .i64 0), 1, 8) := by kernel_rfl

def NodesPost (w : World) (s : Nat) (e : Ending) (w' : World) : Prop :=
  ∃ v', e = .returned v' ∧ w'.ownsRow w.heap.size 3 1 v' (elems s).length (ncells (elems s)) ∧ Keep (fun _ => False) w w'

set_option maxHeartbeats 1000000 in
set_option maxRecDepth 100000 in
theorem nodes_any (s : Nat) (hs : s < 4096) (w : World) (hT : TabAt 6 Lib.deBruijn64tab w) (h3 : 6 < w.heap.size) :
    Calls Tryz.prog 144 #[.int .i64 s] w (NodesPost w s) := by
  have HT := Lib.hid hT; clear hT
  go_enter Tryz.func144, Tryz.ntmps144
  go_wp2
  go_loopw [0, 3] (fun c o wr => ∃ (x n : Nat) (l : List Nat), c = .int .i64 x ∧ x < 4096 ∧ elems s = l ++ elems x ∧ n = l.length ∧ n ≤ 12 ∧ wr.ownsRow w.heap.size 3 1 o n (ncells l) ∧ Keep (fun _ => False) w wr) (fun c _ _ => (intOf c).toNat)
  case atStart => exact ⟨s, 0, [], rfl, hs, rfl, rfl, by omega, World.ownsRow_nil _ _ _ _, Keep.refl _ _⟩
  case round =>
    obtain ⟨x, n, l, rfl, hx, hel, hn, hn12, hown, hkeep⟩ := hrel
    obtain ⟨ao, cap, hv, hcap, _⟩ := ownsRow_shape hown
    subst hv
    have HE := Lib.hid hel; clear hel
    have HN := Lib.hid hn; clear hn
    have HO := Lib.hid hown; clear hown
    have HK := Lib.hid hkeep; clear hkeep
    by_cases h0 : x = 0
    · subst h0
      go_wp2
      go_ret
      have hl : elems s = l := by rw [HE.out, elems_zero, List.append_nil]
      exact ⟨_, rfl, by rw [hl, ← HN.out]; exact HO.out, HK.out⟩
    · have hne : ((x : Int) != 0) = true := by rw [bne_iff_ne]; omega
      have HST := Lib.hid (elems_step x hx h0)
      have hx1 : (1 : Int) ≤ x := by omega
      have hlen : n + 1 ≤ 12 := by
        have h1 := congrArg List.length HE.out
        rw [HST.out] at h1
        have h2 : (elems s).length ≤ 12 := by
          have := List.length_filter_le (s.testBit ·) (List.range 12)
          simpa [elems] using this
        simp at h1
        have := HN.out
        omega
      have hand : bits BinOp.and IntKind.i64 (x : Int) ((x : Int) - 1) = ((x &&& (x - 1) : Nat) : Int) := by
        rw [show ((x : Int) - 1) = ((x - 1 : Nat) : Int) by omega]
        exact i64_and_nat x (x - 1) (by omega) (by omega)
      have hlow : x &&& (x - 1) < x := Nat.lt_of_le_of_lt Nat.and_le_right (by omega)
      have HT' := Lib.hid (show TabAt 6 Lib.deBruijn64tab wr from fun j hj => (HK.out.cell (p := ⟨6, j, none⟩) h3 (fun h => h)).trans (HT.out j hj))
      have H0 := Lib.hid h0; clear h0
      have hwr : w.heap.size ≤ wr.heap.size := HK.out.size
      obtain ⟨kk, hkk⟩ : ∃ kk, Lib.ctz 64 x = kk := ⟨_, rfl⟩
      rw [hkk] at HST
      have HKK := Lib.hid hkk; clear hkk
      go_wp2_with (first | (go_at_call 92; refine (tz_any _ hx H0.out _ HT'.out).mono ?_; rintro e w' ⟨rfl, rfl⟩; rw [HKK.out]) | (at_builtin; refine wpList_app (w := wr.alloc (.cells #[.int .i64 kk] 3)) rfl (.tmp 10) (.tmp 14) 22 22 rfl 3 (.int .i64 0) 1 8 Tryz.underlying22 info3 rfl (HO.out.alloc _) rfl (Src.new (P := Tryz.prog) Tryz.underlying22 wr 1 [.int .i64 kk] 3 rfl (by simp [Value.oneCell'])) rfl ?hb1 ?hb2 ?hb3 ?hgo))
      case hb1 => unfold maxLen; omega
      case hb2 => omega
      case hb3 => simp; omega
      case hgo =>
      intro v' w2 happ
      have HA := Lib.hid happ; clear happ
      go_wp2
      go_roundw
      case rel =>
        refine ⟨x &&& (x - 1), n + 1, l ++ [kk], rfl, by omega, ?_, by simp [HN.out], hlen, ?_, ?_⟩
        · rw [HE.out, HST.out]; simp
        · simpa [ncells] using HA.out.own
        · refine (HK.out.alloc _).trans HA.out.keep (fun k hk e => ?_)
          have := (HO.out.lt k e).1
          omega
      case measure => simp [intOf]; omega
end Go.Proofs.YtkkjonkcjlnohaaGreatDoor

/- The plain law of sure lots: facts, blocks, repairs, and what is so in every repair. No Go function stands here. -/
namespace Go.Proofs.YtkkjonkcjlnohaaGreatDoor
set_option linter.unusedSimpArgs false
set_option linter.unusedVariables false
set_option linter.unnecessarySimpa false
open Go.RowKit

/-- A fact: a lot, and what its test said. -/
abbrev Fct := Int × Int
def fat (F : List Fct) (j : Nat) : Fct := F.getD j (0, 0)
/-- The facts of a set. -/
def pick (F : List Fct) (r : Nat) : List Fct := (elems r).map (fat F)
/-- The first fact with the lot of the fact i. -/
def firstF (F : List Fct) (i : Nat) : Nat := F.findIdx (fun f => f.1 == (fat F i).1)
theorem fat_get {F : List Fct} {j : Nat} (h : j < F.length) : fat F j = F[j] := by simp [fat, List.getD, h]
theorem firstF_spec {F : List Fct} {i : Nat} (h : i < F.length) : firstF F i ≤ i ∧ (fat F (firstF F i)).1 = (fat F i).1 ∧ ∀ j, j < firstF F i → (fat F j).1 ≠ (fat F i).1 := by
  have hex : ∃ x ∈ F, (x.1 == (fat F i).1) = true := ⟨F[i], List.getElem_mem _, by rw [fat_get h]; simp⟩
  have hlt : firstF F i < F.length := List.findIdx_lt_length_of_exists hex
  have h1 : (F[firstF F i].1 == (fat F i).1) = true := List.findIdx_getElem (w := hlt)
  refine ⟨?_, ?_, ?_⟩
  · rcases Nat.lt_or_ge i (firstF F i) with hl | hl
    · have := List.not_of_lt_findIdx (p := fun f : Fct => f.1 == (fat F i).1) (xs := F) hl
      rw [← fat_get h] at this
      simp at this
    · exact hl
  · rw [fat_get hlt]; exact beq_iff_eq.1 h1
  · intro j hj e
    have hjl : j < F.length := by omega
    have := List.not_of_lt_findIdx (p := fun f : Fct => f.1 == (fat F i).1) (xs := F) hj
    rw [← fat_get hjl] at this
    simp [e] at this
theorem firstF_at {F : List Fct} {i j : Nat} (hi : i < F.length) (h1 : (fat F j).1 = (fat F i).1) (h0 : ∀ k, k < j → (fat F k).1 ≠ (fat F i).1) (hj : j ≤ i) : firstF F i = j := by
  obtain ⟨a, b, c⟩ := firstF_spec hi
  rcases Nat.lt_trichotomy (firstF F i) j with h | h | h
  · exact absurd b (h0 _ h)
  · exact h
  · exact absurd h1 (c _ h)
/-- The set of the block of the fact b, as far as the first n facts go. -/
def blkM (F : List Fct) : Nat → Nat → Nat
  | 0, _ => 0
  | n + 1, b => if firstF F n = b then blkM F n b ||| 2 ^ n else blkM F n b
theorem blkM_bit (F : List Fct) (b i : Nat) : ∀ n, (blkM F n b).testBit i = (decide (i < n) && decide (firstF F i = b))
  | 0 => by simp [blkM]
  | n + 1 => by
    unfold blkM
    split
    · rename_i h
      rw [Nat.testBit_or, blkM_bit F b i n, Nat.testBit_two_pow]
      by_cases e : n = i
      · subst e; simp [h]
      · by_cases hl : i < n
        · simp [hl, e, show i < n + 1 by omega]
        · simp [hl, e, show ¬ i < n + 1 by omega]
    · rename_i h
      rw [blkM_bit F b i n]
      by_cases e : i = n
      · subst e; simp [h]
      · by_cases hl : i < n
        · simp [hl, show i < n + 1 by omega]
        · simp [hl, show ¬ i < n + 1 by omega]
theorem blkM_lt (F : List Fct) (b : Nat) : ∀ n, blkM F n b < 2 ^ n
  | 0 => by simp [blkM]
  | n + 1 => by
    have h := blkM_lt F b n
    have hp : 2 ^ n < 2 ^ (n + 1) := Nat.pow_lt_pow_right (by decide) (by omega)
    unfold blkM
    split
    · exact Nat.or_lt_two_pow (by omega) hp
    · omega
theorem bit_ne {x i : Nat} (h : x.testBit i = true) : x ≠ 0 := by
  rintro rfl; simp at h
theorem blkM_ne {F : List Fct} {n i : Nat} (h : i < n) : blkM F n (firstF F i) ≠ 0 := bit_ne (i := i) (by rw [blkM_bit]; simp [h])
theorem mem_elems {x i : Nat} : i ∈ elems x ↔ i < 12 ∧ x.testBit i = true := by simp [elems]
theorem elems_ne {x : Nat} (h : x ≠ 0) (hx : x < 4096) : elems x ≠ [] := by
  rw [elems_step x hx h]; simp
theorem elems_len (x : Nat) : (elems x).length ≤ 12 := by
  have := List.length_filter_le (x.testBit ·) (List.range 12)
  simpa [elems] using this

/-- Each repair of out with one element of a set more. -/
def stepO (out : List Nat) (s : Nat) : List Nat := out.flatMap fun r => (elems s).map fun j => r ||| 2 ^ j
def prods (l : List Nat) : List Nat := l.foldl stepO [0]
theorem mem_stepO {out : List Nat} {s m : Nat} : m ∈ stepO out s ↔ ∃ r ∈ out, ∃ j ∈ elems s, r ||| 2 ^ j = m := by simp [stepO, List.mem_flatMap]
def Same (a b : List Nat) : Prop := ∀ m, m ∈ a ↔ m ∈ b
theorem stepO_same {a b : List Nat} (h : Same a b) (s : Nat) : Same (stepO a s) (stepO b s) := by
  intro m
  rw [mem_stepO, mem_stepO]
  constructor
  · rintro ⟨r, hr, x⟩; exact ⟨r, (h r).1 hr, x⟩
  · rintro ⟨r, hr, x⟩; exact ⟨r, (h r).2 hr, x⟩
theorem stepO_comm (a : List Nat) (s t : Nat) : Same (stepO (stepO a s) t) (stepO (stepO a t) s) := by
  have one : ∀ s t m, m ∈ stepO (stepO a s) t → m ∈ stepO (stepO a t) s := by
    intro s t m h
    rw [mem_stepO] at h
    obtain ⟨r, hr, j, hj, rfl⟩ := h
    rw [mem_stepO] at hr
    obtain ⟨q, hq, i, hi, rfl⟩ := hr
    rw [mem_stepO]
    exact ⟨q ||| 2 ^ j, mem_stepO.2 ⟨q, hq, j, hj, rfl⟩, i, hi, by rw [Nat.or_assoc, Nat.or_assoc, Nat.or_comm (2 ^ j)]⟩
  exact fun m => ⟨one s t m, one t s m⟩
theorem fold_same : ∀ (l : List Nat) {a b : List Nat}, Same a b → Same (l.foldl stepO a) (l.foldl stepO b)
  | [], _, _, h => h
  | s :: l, _, _, h => fold_same l (stepO_same h s)
theorem fold_perm {l l' : List Nat} (h : l.Perm l') : ∀ {a b : List Nat}, Same a b → Same (l.foldl stepO a) (l'.foldl stepO b) := by
  induction h with
  | nil => intro a b h; exact h
  | cons x _ ih => intro a b h; exact ih (stepO_same h x)
  | swap x y l =>
    intro a b h
    refine fold_same l ?_
    intro m
    exact (stepO_comm a y x m).trans (stepO_same (stepO_same h x) y m)
  | trans _ _ ih1 ih2 => intro a b h; exact fun m => (ih1 (fun _ => Iff.rfl) m).trans (ih2 h m)
theorem fold_ne : ∀ (l : List Nat) (a : List Nat), a ≠ [] → (∀ s ∈ l, elems s ≠ []) → l.foldl stepO a ≠ []
  | [], _, h, _ => h
  | s :: l, a, h, hs => by
    refine fold_ne l _ ?_ (fun t ht => hs t (List.mem_cons_of_mem _ ht))
    obtain ⟨r, hr⟩ := List.exists_mem_of_ne_nil a h
    obtain ⟨j, hj⟩ := List.exists_mem_of_ne_nil _ (hs s (List.mem_cons_self ..))
    exact List.ne_nil_of_mem (mem_stepO.2 ⟨r, hr, j, hj, rfl⟩)
theorem fold_lt {n : Nat} : ∀ (l : List Nat) (a : List Nat), (∀ r ∈ a, r < 2 ^ n) → (∀ s ∈ l, s < 2 ^ n) → ∀ m ∈ l.foldl stepO a, m < 2 ^ n
  | [], _, h, _ => h
  | s :: l, a, h, hs => by
    refine fold_lt l _ (fun m hm => ?_) (fun t ht => hs t (List.mem_cons_of_mem _ ht))
    obtain ⟨r, hr, j, hj, rfl⟩ := mem_stepO.1 hm
    refine Nat.or_lt_two_pow (h r hr) ?_
    have hb := (mem_elems.1 hj).2
    exact Nat.lt_of_le_of_lt (Nat.ge_two_pow_of_testBit hb) (hs s (List.mem_cons_self ..))
theorem perm_of_same : ∀ {a b : List Nat}, a.Nodup → b.Nodup → Same a b → a.Perm b
  | [], b, _, _, h => by
    have : b = [] := List.eq_nil_iff_forall_not_mem.2 (fun x hx => by simpa using (h x).2 hx)
    rw [this]
  | x :: a, b, ha, hb, h => by
    have hx : x ∈ b := (h x).1 (List.mem_cons_self ..)
    have hp := List.perm_cons_erase hx
    refine (List.Perm.cons x (perm_of_same (List.nodup_cons.1 ha).2 (hb.erase x) ?_)).trans hp.symm
    intro m
    rw [hb.mem_erase_iff]
    constructor
    · intro hm
      exact ⟨fun e => (List.nodup_cons.1 ha).1 (e ▸ hm), (h m).1 (List.mem_cons_of_mem _ hm)⟩
    · rintro ⟨hne, hm⟩
      rcases List.mem_cons.1 ((h m).2 hm) with e | e
      · exact absurd e hne
      · exact e
/-- R are the repairs of F. -/
def RepsOf (F : List Fct) (R : List Nat) : Prop := ∃ ds : List Nat, ds.Nodup ∧ (∀ b, b ∈ ds ↔ ∃ i, i < F.length ∧ firstF F i = b) ∧ Same R (prods (ds.map (blkM F F.length)))
theorem RepsOf.lt {F : List Fct} {R : List Nat} (h : RepsOf F R) {r : Nat} (hr : r ∈ R) : r < 2 ^ F.length := by
  obtain ⟨ds, _, _, h3⟩ := h
  refine fold_lt _ _ (fun r hr => ?_) (fun s hs => ?_) r ((h3 r).1 hr)
  · simp at hr; subst hr; exact Nat.two_pow_pos _
  · obtain ⟨b, _, rfl⟩ := List.mem_map.1 hs
    exact blkM_lt F b _
theorem two_12 {n : Nat} (h : n ≤ 12) : 2 ^ n ≤ 4096 := Nat.le_trans (Nat.pow_le_pow_right (by decide) h) (by decide)
theorem RepsOf.ne {F : List Fct} {R : List Nat} (h : RepsOf F R) (hl : F.length ≤ 12) : R ≠ [] := by
  obtain ⟨ds, _, h2, h3⟩ := h
  have hn : prods (ds.map (blkM F F.length)) ≠ [] := by
    refine fold_ne _ _ (by simp) (fun s hs => ?_)
    obtain ⟨b, hb, rfl⟩ := List.mem_map.1 hs
    obtain ⟨i, hi, rfl⟩ := (h2 b).1 hb
    have := blkM_lt F (firstF F i) F.length
    have := two_12 hl
    exact elems_ne (blkM_ne hi) (by omega)
  obtain ⟨m, hm⟩ := List.exists_mem_of_ne_nil _ hn
  exact List.ne_nil_of_mem ((h3 m).2 hm)
/-- Two lists of facts about the same lots have the same repairs. -/
theorem RepsOf.same {F G : List Fct} {R Q : List Nat} (h : RepsOf F R) (g : RepsOf G Q) (hk : F.map (·.1) = G.map (·.1)) : Same R Q := by
  obtain ⟨ds, d1, d2, d3⟩ := h
  obtain ⟨es, e1, e2, e3⟩ := g
  have hl : F.length = G.length := by simpa using congrArg List.length hk
  have hfat : ∀ j, j < F.length → (fat F j).1 = (fat G j).1 := by
    intro j hj
    have hj' : j < G.length := by omega
    rw [fat_get hj, fat_get hj']
    have := congrArg (·[j]?) hk
    simpa [List.getElem?_map, hj, hj'] using this
  have hf : ∀ i, i < F.length → firstF F i = firstF G i := by
    intro i hi
    obtain ⟨a, b, c⟩ := firstF_spec (F := G) (i := i) (by omega)
    refine firstF_at hi ?_ (fun k hk' => ?_) a
    · rw [hfat _ (by omega), hfat _ hi, b]
    · rw [hfat _ (by omega), hfat _ hi]; exact c k hk'
  have hb : ∀ b, blkM F F.length b = blkM G G.length b := by
    intro b
    refine Nat.eq_of_testBit_eq fun i => ?_
    rw [blkM_bit, blkM_bit, hl]
    by_cases hi : i < G.length
    · rw [hf i (by omega)]
    · simp [hi]
  have hds : Same ds es := by
    intro b
    rw [d2, e2]
    constructor
    · rintro ⟨i, hi, e⟩; exact ⟨i, by omega, by rw [← hf i hi]; exact e⟩
    · rintro ⟨i, hi, e⟩; exact ⟨i, by omega, by rw [hf i (by omega)]; exact e⟩
  have hp := perm_of_same d1 e1 hds
  have hm : ds.map (blkM F F.length) = ds.map (blkM G G.length) := List.map_congr_left (fun b _ => hb b)
  intro m
  rw [d3, e3, hm]
  exact fold_perm (hp.map _) (fun _ => Iff.rfl) m
theorem mem_pick {F : List Fct} {r : Nat} (hl : F.length ≤ 12) (hr : r < 2 ^ F.length) {x : Fct} : x ∈ pick F r ↔ ∃ j, j < F.length ∧ r.testBit j = true ∧ fat F j = x := by
  unfold pick
  rw [List.mem_map]
  constructor
  · rintro ⟨j, hj, e⟩
    have hb := (mem_elems.1 hj).2
    refine ⟨j, ?_, hb, e⟩
    rcases Nat.lt_or_ge j F.length with h | h
    · exact h
    · have := Nat.testBit_lt_two_pow (Nat.lt_of_lt_of_le hr (Nat.pow_le_pow_right (by decide) h))
      rw [this] at hb; cases hb
  · rintro ⟨j, hj, hb, e⟩
    exact ⟨j, mem_elems.2 ⟨by omega, hb⟩, e⟩
/-- The other way of telling good from bad. -/
def flip (F : List Fct) : List Fct := F.map fun f => (f.1, 3 - f.2)
theorem flip_fat {F : List Fct} {j : Nat} (h : j < F.length) : fat (flip F) j = ((fat F j).1, 3 - (fat F j).2) := by
  rw [fat_get h, fat_get (by simpa [flip] using h)]
  simp [flip]
/-- A lot is sure by the one way exactly if by the other. -/
theorem sure_law {F : List Fct} {R Q : List Nat} (hl : F.length ≤ 12) (h : RepsOf F R) (g : RepsOf (flip F) Q) (i : Int) : (∀ r ∈ R, (i, 2) ∈ pick F r) ↔ ∀ r ∈ Q, (i, 1) ∈ pick (flip F) r := by
  have hk : F.map (·.1) = (flip F).map (·.1) := by simp [flip, List.map_map, Function.comp_def]
  have hs := h.same g hk
  have hlen : (flip F).length = F.length := by simp [flip]
  have hm : ∀ r, r < 2 ^ F.length → ((i, 2) ∈ pick F r ↔ (i, 1) ∈ pick (flip F) r) := by
    intro r hr
    rw [mem_pick hl hr, mem_pick (by omega) (by rw [hlen]; exact hr)]
    rw [hlen]
    constructor
    · rintro ⟨j, hj, hb, e⟩
      exact ⟨j, hj, hb, by rw [flip_fat hj, e]; rfl⟩
    · rintro ⟨j, hj, hb, e⟩
      refine ⟨j, hj, hb, ?_⟩
      rw [flip_fat hj] at e
      have e1 := congrArg Prod.fst e
      have e2 := congrArg Prod.snd e
      simp only at e1 e2
      exact Prod.ext e1 (by show _ = (2 : Int); omega)
  constructor
  · intro a r hr
    have := (hs r).2 hr
    exact (hm r (h.lt this)).1 (a r this)
  · intro a r hr
    exact (hm r (h.lt hr)).2 (a r ((hs r).1 hr))
theorem fat_mem {F : List Fct} {j : Nat} (h : j < F.length) : fat F j ∈ F := by rw [fat_get h]; exact List.getElem_mem _
theorem pick_nodup {F : List Fct} {r : Nat} (hl : F.length ≤ 12) (hr : r < 2 ^ F.length) (hn : F.Nodup) : (pick F r).Nodup := by
  unfold pick
  have he : (elems r).Nodup := by unfold elems; exact List.nodup_range.filter _
  have hb : ∀ j ∈ elems r, j < F.length := by
    intro j hj
    rcases Nat.lt_or_ge j F.length with h | h
    · exact h
    · have := Nat.testBit_lt_two_pow (Nat.lt_of_lt_of_le hr (Nat.pow_le_pow_right (by decide) h))
      rw [(mem_elems.1 hj).2] at this; cases this
  rw [List.Nodup, List.pairwise_map]
  refine List.Pairwise.imp_of_mem (fun {a b} ha hb' hne e => ?_) he
  have h1 := hb a ha
  have h2 := hb b hb'
  rw [fat_get h1, fat_get h2] at e
  have hp := List.pairwise_iff_getElem.1 hn
  rcases Nat.lt_trichotomy a b with h | h | h
  · exact hp a b h1 h2 h e
  · exact hne h
  · exact hp b a h2 h1 h e.symm
/-- An atom of two terms agrees with a fact. -/
def fit (t0 t1 : Int) (f : Fct) : Bool := (decide (t0 = 0) || decide (f.1 = -t0)) && decide (f.2 = -t1)
end Go.Proofs.YtkkjonkcjlnohaaGreatDoor
