/- math/bits.OnesCount and TrailingZeros at small numbers; chordal.nodes. -/
import Derived.Test.YteommegadhipkaaGreatDoorFM23
import Derived.Test.YteommegadhipkaaGreatDoorFM5
import Derived.Test.YteommegadhipkaaGreatDoorFM21
import Derived.Shelf.Spec.TrailingZeros
import Derived.Lib.LaidTab
import Derived.Shelf.Abstract

/- math/bits.OnesCount and TrailingZeros at small numbers; chordal.nodes. -/
namespace Go.Proofs.YteommegadhipkaaGreatDoor
set_option linter.unusedSimpArgs false
set_option linter.unusedVariables false
set_option linter.unnecessarySimpa false
open Go.RowKit

/-- What OnesCount64 reckons. -/
def onesF (x : Int) : Int :=
  let a := IntKind.u64.wrap (bits .and .u64 (x / 2) 6148914691236517205 + bits .and .u64 x 6148914691236517205)
  let b := IntKind.u64.wrap (bits .and .u64 (a / 4) 3689348814741910323 + bits .and .u64 a 3689348814741910323)
  let c := bits .and .u64 (IntKind.u64.wrap (b / 16 + b)) 1085102592571150095
  let d := IntKind.u64.wrap (c + c / 256)
  let e := IntKind.u64.wrap (d + d / 65536)
  let f := IntKind.u64.wrap (e + e / 4294967296)
  bits .and .i64 (wrap64 f) 127
/-- How many of the first 12 bits are set. -/
def cnt12 (s : Nat) : Nat := ((List.range 12).filter (s.testBit ·)).length
/-- Whatever holds of 64 a + b for all a, b below 64 holds below 4096. -/
theorem below4096 {q : Nat → Prop} (h : ∀ a b : Fin 64, q (64 * a.val + b.val)) (x : Nat) (hx : x < 4096) : q x := by
  have := h ⟨x / 64, by omega⟩ ⟨x % 64, by omega⟩
  simp only at this
  rwa [show 64 * (x / 64) + x % 64 = x by omega] at this
theorem onesF_small (x : Nat) (hx : x < 4096) : onesF (x : Int) = (cnt12 x : Int) :=
  below4096 (q := fun x => onesF (x : Int) = (cnt12 x : Int)) (by decide +kernel) x hx
set_option maxHeartbeats 400000 in
theorem ones64 (x : Int) (hx0 : 0 ≤ x) (hx : x < 4096) (w : World) :
    Calls Tryz.prog 230 #[.int .u64 x] w fun e w' => e = .returned (.int .i64 (onesF x)) ∧ w = w' := by
  go_enter Tryz.func230, Tryz.ntmps230
  go_wp2
  go_ret
  exact ⟨rfl, rfl⟩
theorem onesCount_small (x : Nat) (hx : x < 4096) (w : World) :
    Calls Tryz.prog 167 #[.int .u64 x] w fun e w' => e = .returned (.int .i64 (cnt12 x)) ∧ w = w' := by
  have HX := Lib.hid (onesF_small x hx)
  go_enter Tryz.func167, Tryz.ntmps167
  go_wp2_with (go_at_call 230; refine (ones64 _ (by omega) (by omega) _).mono ?_; rintro e w' ⟨rfl, rfl⟩)
  go_ret
  exact ⟨by rw [← HX.out]; rfl, rfl⟩

/-- The elements of a set of numbers below 12, rising. -/
def elems (s : Nat) : List Nat := (List.range 12).filter (s.testBit ·)
theorem elems_zero : elems 0 = [] := by decide
theorem filter_false {p : Nat → Bool} : ∀ (n : Nat), (∀ i, i < n → p i = false) → (List.range n).filter p = []
  | 0, _ => rfl
  | n + 1, h => by
    rw [List.range_succ, List.filter_append, filter_false n (fun i hi => h i (by omega))]
    simp [h n (by omega)]
theorem filter_step {p q : Nat → Bool} {k : Nat} : ∀ (n : Nat), k < n → (∀ i, i < k → p i = false ∧ q i = false) → p k = true → q k = false → (∀ i, k < i → i < n → p i = q i) →
    (List.range n).filter p = k :: (List.range n).filter q
  | 0, h, _, _, _, _ => by omega
  | n + 1, h, h1, h2, h3, h4 => by
    rw [List.range_succ, List.filter_append, List.filter_append]
    by_cases hk : k = n
    · subst hk
      rw [filter_false k (fun i hi => (h1 i hi).1), filter_false k (fun i hi => (h1 i hi).2)]
      simp [h2, h3]
    · rw [filter_step n (by omega) h1 h2 h3 (fun i a b => h4 i a (by omega))]
      have e : [n].filter p = [n].filter q := by simp only [List.filter_cons, List.filter_nil, h4 n (by omega) (by omega)]
      rw [e, List.cons_append]
theorem and_pred (k m i : Nat) : ((2 ^ k * (2 * m + 1)) &&& (2 ^ k * (2 * m + 1) - 1)).testBit i = (decide (k < i) && m.testBit (i - k - 1)) := by
  have hp : 0 < 2 ^ k := Nat.two_pow_pos k
  have e1 : 2 ^ k * (2 * m + 1) - 1 = 2 ^ k * (2 * m) + (2 ^ k - 1) := by
    rw [Nat.mul_add, Nat.mul_one]; omega
  rw [Nat.testBit_and, Nat.testBit_two_pow_mul, e1, Nat.testBit_two_pow_mul_add _ (by omega)]
  rcases Nat.lt_trichotomy i k with h | h | h
  · simp [show ¬ k ≤ i by omega, show ¬ k < i by omega]
  · subst h; simp
  · have e2 : i - k = (i - k - 1) + 1 := by omega
    simp only [show k ≤ i by omega, h, show ¬ i < k by omega, decide_true, Bool.true_and, if_false, ge_iff_le]
    rw [e2, Nat.testBit_succ, Nat.testBit_succ, show (2 * m + 1) / 2 = m by omega, show 2 * m / 2 = m by omega]
    simp
theorem elems_step (x : Nat) (hx : x < 4096) (h0 : x ≠ 0) : elems x = Lib.ctz 64 x :: elems (x &&& (x - 1)) := by
  have hc : Lib.ctz 64 x = Lib.ctzFrom 64 x := by simp [Lib.ctz, h0]
  obtain ⟨m, hm, _⟩ := Lib.ctzFrom_spec 64 x (by omega) (by omega)
  rw [hc]
  generalize Lib.ctzFrom 64 x = k at *
  have hk : k < 12 := by
    rcases Nat.lt_or_ge k 12 with h | h
    · exact h
    · have : 2 ^ 12 ≤ 2 ^ k := Nat.pow_le_pow_right (by decide) h
      have : 2 ^ k ≤ 2 ^ k * (2 * m + 1) := Nat.le_mul_of_pos_right _ (by omega)
      omega
  have hx' : ∀ i, x.testBit i = (decide (k ≤ i) && (2 * m + 1).testBit (i - k)) := by
    intro i; rw [hm, Nat.testBit_two_pow_mul]
  unfold elems
  refine filter_step 12 hk (fun i hi => ⟨?_, ?_⟩) ?_ ?_ (fun i h1 h2 => ?_)
  · rw [hx']; simp; omega
  · rw [hm, and_pred]; simp; omega
  · rw [hx']; simp
  · rw [hm, and_pred]; simp
  · rw [hx', hm, and_pred]
    have e2 : i - k = (i - k - 1) + 1 := by omega
    simp only [show k ≤ i by omega, h1, decide_true, Bool.true_and]
    rw [e2, Nat.testBit_succ, show (2 * m + 1) / 2 = m by omega]
    simp

theorem tz64_core (x k idx : Nat) (w : World) (hx0 : ((x : Int) == 0) = false)
    (key : IntKind.u64.wrap (bits BinOp.and IntKind.u64 (x : Int) (IntKind.u64.wrap (-(x : Int))) * 285870213051353865) / 288230376151711744 = (idx : Int))
    (hi : idx < 64) (hk : k < 64) (hcell : w.cell? ⟨10, idx, none⟩ = some (.int .u8 k)) :
    Calls Tryz.prog 255 #[.int .u64 x] w fun e w' => e = .returned (.int .i64 k) ∧ w = w' := by
  go_enter Tryz.func255, Tryz.ntmps255
  go_wp2_with (simp only [key])
  go_ret
  exact ⟨rfl, rfl⟩
theorem tz64_any (x : Nat) (hx : x < 4096) (hx0 : x ≠ 0) (w : World) (hT : TabAt 10 Lib.deBruijn64tab w) :
    Calls Tryz.prog 255 #[.int .u64 x] w fun e w' => e = .returned (.int .i64 (Lib.ctz 64 x)) ∧ w = w' := by
  have hx64 : x < 18446744073709551616 := Nat.lt_of_lt_of_le hx (by decide)
  obtain ⟨hlow, hk⟩ := Lib.lowest_bit 64 x hx0 hx64
  obtain ⟨hi, htab⟩ := Lib.deBruijn64_at _ hk
  have hcell := hT _ hi
  rw [htab] at hcell
  exact tz64_core x _ _ w (by simp; omega) (tz64_key x _ hx64 hx0 hlow) hi hk hcell
theorem tz_any (x : Nat) (hx : x < 4096) (hx0 : x ≠ 0) (w : World) (hT : TabAt 10 Lib.deBruijn64tab w) :
    Calls Tryz.prog 204 #[.int .u64 x] w fun e w' => e = .returned (.int .i64 (Lib.ctz 64 x)) ∧ w = w' := by
  have HT := Lib.hid hT; clear hT
  have H0 := Lib.hid hx0; clear hx0
  go_enter Tryz.func204, Tryz.ntmps204
  go_wp2_with (go_at_call 255; refine (tz64_any _ hx H0.out _ HT.out).mono ?_; rintro e w' ⟨rfl, rfl⟩)
  go_ret
  exact ⟨rfl, rfl⟩

def ncells (l : List Nat) : List Value := l.map fun n : Nat => .int .i64 n
theorem ncells_icells (l : List Nat) : ncells l = icells (l.map Int.ofNat) := by simp [ncells, icells]
theorem info3 : (Tryz.prog.info? 3).map (fun i => (i.zero, i.size, i.bytes)) = some (some (.int .i64 0), 1, 8) := by kernel_rfl

def NodesPost (w : World) (s : Nat) (e : Ending) (w' : World) : Prop :=
  ∃ v', e = .returned v' ∧ w'.ownsRow w.heap.size 3 1 v' (elems s).length (ncells (elems s)) ∧ Keep (fun _ => False) w w'

set_option maxHeartbeats 1000000 in
set_option maxRecDepth 100000 in
theorem nodes_any (s : Nat) (hs : s < 4096) (w : World) (hT : TabAt 10 Lib.deBruijn64tab w) (h3 : 10 < w.heap.size) :
    Calls Tryz.prog 169 #[.int .i64 s] w (NodesPost w s) := by
  have HT := Lib.hid hT; clear hT
  go_enter Tryz.func169, Tryz.ntmps169
  go_wp2
  go_loopw [0, 3] (fun c o wr => ∃ (x n : Nat) (l : List Nat), c = .int .i64 x ∧ x < 4096 ∧ elems s = l ++ elems x ∧ n = l.length ∧ n ≤ 12 ∧ wr.ownsRow w.heap.size 3 1 o n (ncells l) ∧ Keep (fun _ => False) w wr) (fun c _ _ => (intOf c).toNat)
  case atStart => exact ⟨s, 0, [], rfl, hs, rfl, rfl, by omega, World.ownsRow_nil _ _ _ _, Keep.refl _ _⟩
  case round =>
    obtain ⟨x, n, l, rfl, hx, hel, hn, hn12, hown, hkeep⟩ := hrel
    obtain ⟨ao, cap, hv, hcap, _⟩ := ownsRow_shape hown
    subst hv
    have HE := Lib.hid hel; clear hel
    have HN := Lib.hid hn; clear hn
    have HO := Lib.hid hown; clear hown
    have HK := Lib.hid hkeep; clear hkeep
    by_cases h0 : x = 0
    · subst h0
      go_wp2
      go_ret
      have hl : elems s = l := by rw [HE.out, elems_zero, List.append_nil]
      exact ⟨_, rfl, by rw [hl, ← HN.out]; exact HO.out, HK.out⟩
    · have hne : ((x : Int) != 0) = true := by rw [bne_iff_ne]; omega
      have HST := Lib.hid (elems_step x hx h0)
      have hx1 : (1 : Int) ≤ x := by omega
      have hlen : n + 1 ≤ 12 := by
        have h1 := congrArg List.length HE.out
        rw [HST.out] at h1
        have h2 : (elems s).length ≤ 12 := by
          have := List.length_filter_le (s.testBit ·) (List.range 12)
          simpa [elems] using this
        simp at h1
        have := HN.out
        omega
      have hand : bits BinOp.and IntKind.i64 (x : Int) ((x : Int) - 1) = ((x &&& (x - 1) : Nat) : Int) := by
        rw [show ((x : Int) - 1) = ((x - 1 : Nat) : Int) by omega]
        exact i64_and_nat x (x - 1) (by omega) (by omega)
      have hlow : x &&& (x - 1) < x := Nat.lt_of_le_of_lt Nat.and_le_right (by omega)
      have HT' := Lib.hid (show TabAt 10 Lib.deBruijn64tab wr from fun j hj => (HK.out.cell (p := ⟨10, j, none⟩) h3 (fun h => h)).trans (HT.out j hj))
      have H0 := Lib.hid h0; clear h0
      have hwr : w.heap.size ≤ wr.heap.size := HK.out.size
      obtain ⟨kk, hkk⟩ : ∃ kk, Lib.ctz 64 x = kk := ⟨_, rfl⟩
      rw [hkk] at HST
      have HKK := Lib.hid hkk; clear hkk
      go_wp2_with (first | (go_at_call 204; refine (tz_any _ hx H0.out _ HT'.out).mono ?_; rintro e w' ⟨rfl, rfl⟩; rw [HKK.out]) | (at_builtin; refine wpList_app (w := wr.alloc (.cells #[.int .i64 kk] 3)) rfl (.tmp 10) (.tmp 14) 22 22 rfl 3 (.int .i64 0) 1 8 Tryz.underlying22 info3 rfl (HO.out.alloc _) rfl (Src.new (P := Tryz.prog) Tryz.underlying22 wr 1 [.int .i64 kk] 3 rfl (by simp [Value.oneCell'])) rfl ?hb1 ?hb2 ?hb3 ?hgo))
      case hb1 => unfold maxLen; omega
      case hb2 => omega
      case hb3 => simp; omega
      case hgo =>
      intro v' w2 happ
      have HA := Lib.hid happ; clear happ
      go_wp2
      go_roundw
      case rel =>
        refine ⟨x &&& (x - 1), n + 1, l ++ [kk], rfl, by omega, ?_, by simp [HN.out], hlen, ?_, ?_⟩
        · rw [HE.out, HST.out]; simp
        · simpa [ncells] using HA.out.own
        · refine (HK.out.alloc _).trans HA.out.keep (fun k hk e => ?_)
          have := (HO.out.lt k e).1
          omega
      case measure => simp [intOf]; omega
end Go.Proofs.YteommegadhipkaaGreatDoor

/- chordal: clique, best, Clique, and house.bays: of every slice they answer whether it is a graph of eight nodes. -/
namespace Go.Proofs.YteommegadhipkaaGreatDoor
set_option linter.unusedSimpArgs false
set_option linter.unusedVariables false
set_option linter.unnecessarySimpa false
open Go.RowKit

def gn (g : List Int) (i : Nat) : Nat := (g.getD i 0).toNat
def offB (g : List Int) (s i : Nat) : Bool := sdiff (sdiff s (gn g i)) (2 ^ i) != 0
def cliqueB (g : List Int) (s : Nat) : Bool := !(elems s).any (offB g s)

theorem Graph.bound {g : List Int} (h : Graph g) {i : Nat} (hi : i < g.length) : g.getD i 0 = (gn g i : Int) ∧ gn g i < 2 ^ g.length := by
  have h1 := (h.2.2 i hi).1
  have h2 := (h.2.2 i hi).2.1
  unfold gn
  refine ⟨by omega, ?_⟩
  have : ((2 : Int) ^ g.length) = ((2 ^ g.length : Nat) : Int) := by push_cast; rfl
  omega
theorem pow_le_4096 {n : Nat} (h : n ≤ 12) : 2 ^ n ≤ 4096 := Nat.pow_le_pow_right (n := 2) (by decide) h

set_option maxHeartbeats 800000 in
set_option maxRecDepth 100000 in
theorem clique1_any {w : World} {v : Value} {g : List Int} {s i b2 b3 : Nat} (hg : Graph g) (hv : Rd w 1 v g.length (icells g)) (hs : s < 4096) (hi : i < g.length)
    (h2 : w.cell? ⟨b2, 0, none⟩ = some v) (h3 : w.cell? ⟨b3, 0, none⟩ = some (.int .i64 s)) :
    Calls Tryz.prog 170 #[.int .i64 i, .pointer (some ⟨b3, 0, none⟩), .pointer (some ⟨b2, 0, none⟩)] w (DrawPost w (.bool (offB g s i))) := by
  have hn := hg.2.1
  obtain ⟨b, o, cap, hve, hcell⟩ : ∃ b o cap, v = .slice (some ⟨b, o, none⟩) g.length cap ∧ w.cell? ⟨b, o + i, none⟩ = some (.int .i64 (g.getD i 0)) := by
    rcases hv.2.2 with ⟨h, h'⟩ | ⟨b, o, c, h, _, _, hx⟩
    · omega
    · exact ⟨b, o, c, h, hx i _ (icells_get g i hi)⟩
  subst hve
  obtain ⟨hb1, hb2⟩ := hg.bound hi
  have h4 := pow_le_4096 hn
  rw [hb1] at hcell
  have hlt : gn g i < 9223372036854775808 := Nat.lt_of_lt_of_le hb2 (Nat.le_trans h4 (by decide))
  have hs2 : s < 9223372036854775808 := Nat.lt_of_lt_of_le hs (by decide)
  have e1 := i64_andNot_nat s (gn g i) hs2 hlt
  have hi12 : i ≤ 62 := by omega
  have hpw : 2 ^ i ≤ 4096 := pow_le_4096 (by omega)
  have e2 : IntKind.i64.wrap ((2 : Int) ^ i) = ((2 ^ i : Nat) : Int) := by
    have := shl_one i hi12
    rwa [Nat.min_eq_left (by omega)] at this
  have hsd : sdiff s (gn g i) < 2 ^ 12 := sdiff_lt (by omega)
  have e3 := i64_andNot_nat (sdiff s (gn g i)) (2 ^ i) (by omega) (by omega)
  have e4 : (((sdiff (sdiff s (gn g i)) (2 ^ i) : Nat) : Int) != 0) = offB g s i := by
    unfold offB
    rw [Bool.eq_iff_iff, bne_iff_ne, bne_iff_ne]; omega
  obtain ⟨q, hq⟩ : ∃ q : Nat, 2 ^ i = q := ⟨_, rfl⟩
  rw [hq] at e2 e3 e4
  generalize sdiff s (gn g i) = sd at *
  generalize gn g i = gi at *
  generalize sdiff sd q = sr at *
  generalize offB g s i = res at *
  have hiI : (i : Int) < g.length := by omega
  clear hb1 hb2 h4 hsd hpw hq hv hlt hs2
  go_enter Tryz.func170, Tryz.ntmps170
  go_wp2
  go_quiet (fail)
  go_wp2
  go_ret
  exact ⟨rfl, _, rfl⟩

theorem elems_lt {s n i : Nat} (hs : s < 2 ^ n) (h : i ∈ elems s) : i < n := by
  unfold elems at h
  obtain ⟨_, h2⟩ := List.mem_filter.1 h
  rcases Nat.lt_or_ge i n with hl | hl
  · exact hl
  · have : s.testBit i = false := Nat.testBit_lt_two_pow (Nat.lt_of_lt_of_le hs (Nat.pow_le_pow_right (by decide) hl))
    rw [this] at h2; cases h2

set_option maxHeartbeats 800000 in
set_option maxRecDepth 100000 in
theorem clique_any {w : World} {v : Value} {g : List Int} {s : Nat} (hg : Graph g) (hv : Rd w 1 v g.length (icells g)) (hs : s < 2 ^ g.length) (hT : TabAt 10 Lib.deBruijn64tab w) (hw3 : 10 < w.heap.size) :
    Calls Tryz.prog 106 #[v, .int .i64 s] w (IdxPost w (.bool (cliqueB g s))) := by
  have h4 : s < 4096 := Nat.lt_of_lt_of_le hs (pow_le_4096 hg.2.1)
  have hk2 : Keep (fun _ => False) w ((w.alloc (.cells #[v] 46)).alloc (.cells #[.int .i64 s] 3)) := ((Keep.refl _ _).alloc _).alloc _
  have HT := Lib.hid (show TabAt 10 Lib.deBruijn64tab ((w.alloc (.cells #[v] 46)).alloc (.cells #[.int .i64 s] 3)) from fun j hj => (hk2.cell (p := ⟨10, j, none⟩) hw3 (fun h => h)).trans (hT j hj))
  have HV := Lib.hid (hv.keep hk2 (fun _ _ h => h))
  have HK2 := Lib.hid hk2; clear hk2
  have HG := Lib.hid hg
  have HS := Lib.hid hs; clear hs
  obtain ⟨ao, cap, hve, _⟩ := hv.shape
  clear hv hT hg
  subst hve
  have HC : Hid (∀ w3 v', Keep (fun _ => False) ((w.alloc (.cells #[Value.slice ao g.length cap] 46)).alloc (.cells #[.int .i64 s] 3)) w3 → w3.ownsRow ((w.alloc (.cells #[Value.slice ao g.length cap] 46)).alloc (.cells #[.int .i64 s] 3)).heap.size 3 1 v' (elems s).length (ncells (elems s)) →
      Calls Tryz.prog 168 #[v', .func (.func 170) #[] #[.pointer (some ⟨w.heap.size + 1, 0, none⟩), .pointer (some ⟨w.heap.size, 0, none⟩)]] w3 (IdxPost w3 (.bool ((elems s).any (offB g s))))) := Lib.hid (by
    intro w3 v' hk3 hown
    have hrd : Rd w3 1 v' ((elems s).map Int.ofNat).length (icells ((elems s).map Int.ofNat)) := by
      have := ownsRow_rd hown (by intro u hu; obtain ⟨_, _, rfl⟩ := List.mem_map.1 hu; rfl)
      rw [ncells_icells] at this
      simpa using this
    have hany : ((elems s).map Int.ofNat).any (fun x => offB g s x.toNat) = (elems s).any (offB g s) := by
      rw [List.any_map]; rfl
    have := containsFunc_any (p := fun x => offB g s x.toNat) (F := 170) (capt := #[.pointer (some ⟨w.heap.size + 1, 0, none⟩), .pointer (some ⟨w.heap.size, 0, none⟩)]) hrd (enters_of Tryz.func170 (by kernel_rfl) rfl) (by
      intro w4 hk4 x hx
      obtain ⟨i, hi, rfl⟩ := List.mem_map.1 hx
      have hk34 := hk3.trans hk4 (fun _ _ h => h)
      have c2 : w4.cell? ⟨w.heap.size, 0, none⟩ = some (Value.slice ao g.length cap) := by
        rw [hk34.cell (p := ⟨w.heap.size, 0, none⟩) (by simp; omega) (fun h => h)]
        rw [World.cell?_alloc_past _ _ _ (by simp)]
        rw [World.cell?_alloc_new]; rfl
      have c3 : w4.cell? ⟨w.heap.size + 1, 0, none⟩ = some (.int .i64 s) := by
        rw [hk34.cell (p := ⟨w.heap.size + 1, 0, none⟩) (by simp) (fun h => h)]
        have := World.cell?_alloc_new (w.alloc (.cells #[Value.slice ao g.length cap] 46)) #[.int .i64 s] 3 0
        simpa using this
      refine (clique1_any HG.out (HV.out.keep hk34 (fun _ _ h => h)) h4 (elems_lt HS.out hi) c2 c3).mono ?_
      intro e w5 h5
      exact h5.keep) (by
        have : (elems s).length ≤ 12 := by
          have := List.length_filter_le (s.testBit ·) (List.range 12)
          simpa [elems] using this
        simp; omega)
    rw [hany] at this
    exact this)
  go_enter Tryz.func106, Tryz.ntmps106
  go_wp2_with (first | (go_at_call 169; refine (nodes_any s h4 _ HT.out (by simp; omega)).mono ?_; rintro e w3 ⟨v', rfl, hown, hk3⟩; have HO := Lib.hid hown; clear hown; have HK3 := Lib.hid hk3; clear hk3; have hshape := ownsRow_shape HO.out; obtain ⟨ao', cap', hv', _⟩ := hshape; subst hv'; have c3 : w3.cell? ⟨w.heap.size + 1, 0, none⟩ = some (.int .i64 s) := by rw [HK3.out.cell (p := ⟨w.heap.size + 1, 0, none⟩) (by simp) (fun h => h)]; simpa using World.cell?_alloc_new (w.alloc (.cells #[Value.slice ao g.length cap] 46)) #[.int .i64 s] 3 0) | (go_at_call 168; refine (HC.out _ _ HK3.out HO.out).mono ?_; rintro e w4 ⟨rfl, hk4⟩; have HK4 := Lib.hid hk4; clear hk4))
  go_ret
  exact ⟨by unfold cliqueB; rfl, (HK2.out.trans HK3.out (fun _ _ h => h)).trans HK4.out (fun _ _ h => h)⟩
end Go.Proofs.YteommegadhipkaaGreatDoor

/- chordal: all, best, Clique, and house.bays: of every slice it answers whether it is a graph of eight nodes. -/
namespace Go.Proofs.YteommegadhipkaaGreatDoor
set_option linter.unusedSimpArgs false
set_option linter.unusedVariables false
set_option linter.unnecessarySimpa false
open Go.RowKit

theorem all_any {w : World} {ao : Option Addr} {n c : Nat} (hn : n ≤ 12) : Calls Tryz.prog 166 #[.slice ao n c] w fun e w' => e = .returned (.int .i64 (((2 ^ n : Nat) : Int) - 1)) ∧ w = w' := by
  have hp := pow_le_4096 hn
  have h1 : 1 ≤ 2 ^ n := Nat.one_le_two_pow
  have e1 : wrap64 ((2 : Int) ^ n) = ((2 ^ n : Nat) : Int) := by rw [wrap64_pow hn]; push_cast; rfl
  obtain ⟨q, hq⟩ : ∃ q : Nat, 2 ^ n = q := ⟨_, rfl⟩
  rw [hq] at hp h1 e1 ⊢
  have HQ := Lib.hid hq; clear hq
  go_enter Tryz.func166, Tryz.ntmps166
  go_wp2
  go_ret
  exact ⟨rfl, rfl⟩

def bestStep (g : List Int) (b s : Nat) : Nat := if cnt12 b < cnt12 s ∧ cliqueB g s = true then s else b
def bestTo (g : List Int) (k : Nat) : Nat := (List.range k).foldl (bestStep g) 0
def bestF (g : List Int) : Nat := bestTo g (2 ^ g.length)
theorem bestTo_succ (g : List Int) (k : Nat) : bestTo g (k + 1) = bestStep g (bestTo g k) k := by simp [bestTo, List.range_succ]
theorem bestTo_lt (g : List Int) : ∀ (k N : Nat), k ≤ N → 0 < N → bestTo g k < N
  | 0, N, _, h => by simpa [bestTo] using h
  | k + 1, N, h, h' => by
    rw [bestTo_succ]; unfold bestStep
    have := bestTo_lt g k N (by omega) h'
    split <;> omega

set_option maxHeartbeats 1000000 in
set_option maxRecDepth 100000 in
theorem best_any {w : World} {v : Value} {g : List Int} (hg : Graph g) (hv : Rd w 1 v g.length (icells g)) (hT : TabAt 10 Lib.deBruijn64tab w) (hw3 : 10 < w.heap.size) :
    Calls Tryz.prog 105 #[v, .func (.func 106) #[v] #[]] w (IdxPost w (.int .i64 (bestF g))) := by
  obtain ⟨ao, cap, hve, _⟩ := hv.shape
  have hn := hg.2.1
  have hp := pow_le_4096 hn
  have h1 : 1 ≤ 2 ^ g.length := Nat.one_le_two_pow
  have HT := Lib.hid hT; clear hT
  have HG := Lib.hid hg; clear hg
  subst hve
  have HV := Lib.hid hv; clear hv
  have HBF := Lib.hid (show bestF g = bestTo g (2 ^ g.length) from rfl)
  obtain ⟨N, hN⟩ : ∃ N : Nat, 2 ^ g.length = N := ⟨_, rfl⟩
  have HN := Lib.hid hN
  rw [hN] at hp h1 HBF
  clear hN
  have HALL : Hid (∀ w1, Calls Tryz.prog 166 #[.slice ao g.length cap] w1 fun e w' => e = .returned (.int .i64 ((N : Int) - 1)) ∧ w1 = w') := Lib.hid (fun w1 => by
    have := all_any (w := w1) (ao := ao) (c := cap) hn
    rwa [HN.out] at this)
  go_enter Tryz.func105, Tryz.ntmps105
  go_wp2_with (go_at_call 166; refine (HALL.out _).mono ?_; rintro e w' ⟨rfl, rfl⟩)
  go_loopw [5, 10] (fun b i wr => ∃ k m : Nat, k ≤ N ∧ i = .int .i64 k ∧ b = .int .i64 m ∧ m = bestTo g k ∧ m < N ∧ Keep (fun _ => False) w wr) (fun _ i _ => N - (intOf i).toNat)
  case atStart => exact ⟨0, 0, by omega, rfl, rfl, rfl, by omega, Keep.refl _ _⟩
  case round =>
    obtain ⟨k, m, hk, rfl, rfl, hm, hmN, hkeep⟩ := hrel
    have HM := Lib.hid hm; clear hm
    have HK := Lib.hid hkeep; clear hkeep
    by_cases hlt : k < N
    · have HST := Lib.hid (bestTo_succ g k)
      have HNX := Lib.hid (bestTo_lt g (k + 1) N (by omega) (by omega))
      by_cases hc : cnt12 m < cnt12 k
      · have hd : decide ((cnt12 m : Int) < cnt12 k) = true := by simpa using hc
        cases hq : cliqueB g k
        · have HE := Lib.hid (show bestTo g (k + 1) = m by rw [HST.out, ← HM.out]; simp [bestStep, hq])
          have HQ := Lib.hid hq; clear hq
          have HC := Lib.hid hc; clear hc
          go_wp2_with (first | (go_at_call 167; refine (onesCount_small _ (by omega) _).mono ?_; rintro e w' ⟨rfl, rfl⟩) | (go_at_call 106; refine (clique_any (s := k) HG.out (HV.out.keep HK.out (fun _ _ h => h)) (by rw [HN.out]; exact hlt) (fun j hj => (HK.out.cell (p := ⟨10, j, none⟩) hw3 (fun h => h)).trans (HT.out j hj)) (Nat.lt_of_lt_of_le hw3 HK.out.size)).mono ?_; rintro e w4 ⟨he, hk4⟩; rw [HQ.out] at he; subst he; have HK4 := Lib.hid hk4; clear hk4))
          go_roundw
          case rel => exact ⟨k + 1, m, by omega, by go_num, rfl, HE.out.symm, hmN, HK.out.trans HK4.out (fun _ _ h => h)⟩
          case measure => simp [intOf]; omega
        · have HE := Lib.hid (show bestTo g (k + 1) = k by rw [HST.out, ← HM.out]; simp [bestStep, hq, hc])
          have HQ := Lib.hid hq; clear hq
          have HC := Lib.hid hc; clear hc
          go_wp2_with (first | (go_at_call 167; refine (onesCount_small _ (by omega) _).mono ?_; rintro e w' ⟨rfl, rfl⟩) | (go_at_call 106; refine (clique_any (s := k) HG.out (HV.out.keep HK.out (fun _ _ h => h)) (by rw [HN.out]; exact hlt) (fun j hj => (HK.out.cell (p := ⟨10, j, none⟩) hw3 (fun h => h)).trans (HT.out j hj)) (Nat.lt_of_lt_of_le hw3 HK.out.size)).mono ?_; rintro e w4 ⟨he, hk4⟩; rw [HQ.out] at he; subst he; have HK4 := Lib.hid hk4; clear hk4))
          go_roundw
          case rel => exact ⟨k + 1, k, by omega, by go_num, rfl, HE.out.symm, hlt, HK.out.trans HK4.out (fun _ _ h => h)⟩
          case measure => simp [intOf]; omega
      · have hd : decide ((cnt12 m : Int) < cnt12 k) = false := by simp; omega
        have HE := Lib.hid (show bestTo g (k + 1) = m by rw [HST.out, ← HM.out]; simp [bestStep, hc])
        have HC := Lib.hid hc; clear hc
        go_wp2_with (go_at_call 167; refine (onesCount_small _ (by omega) _).mono ?_; rintro e w' ⟨rfl, rfl⟩)
        go_roundw
        case rel => exact ⟨k + 1, m, by omega, by go_num, rfl, HE.out.symm, hmN, HK.out⟩
        case measure => simp [intOf]; omega
    · have HE := Lib.hid (show bestF g = m by rw [HBF.out, HM.out, show k = N by omega])
      go_wp2
      go_ret
      exact ⟨by rw [HE.out]; rfl, HK.out⟩

def cliqueE (g : List Int) : Int := if validB g then 0 else 2
theorem chClique_any {w : World} {v : Value} {g : List Int} (hv : Rd w 1 v g.length (icells g)) (hlen : g.length < 9223372036854775807) (hT : TabAt 10 Lib.deBruijn64tab w) (hw3 : 10 < w.heap.size) :
    Calls Tryz.prog 61 #[v] w (IdxPost w (.tuple #[.int .i64 (if validB g then bestF g else 0), .int .i64 (cliqueE g)])) := by
  obtain ⟨ao, cap, hve, _⟩ := hv.shape
  subst hve
  have HT := Lib.hid hT; clear hT
  have HV := Lib.hid hv; clear hv
  cases hb : validB g
  · have HB := Lib.hid hb; clear hb
    go_enter Tryz.func61, Tryz.ntmps61
    go_wp2_with (go_at_call 104; refine (valid_any HV.out hlen).mono ?_; rintro e w1 h; have h := h.keep; rw [HB.out] at h; obtain ⟨rfl, hk1⟩ := h; have HK1 := Lib.hid hk1; clear hk1)
    go_ret2
    exact ⟨by unfold cliqueE; rw [HB.out]; rfl, HK1.out⟩
  · have HB := Lib.hid hb; clear hb
    go_enter Tryz.func61, Tryz.ntmps61
    go_wp2_with (first | (go_at_call 104; refine (valid_any HV.out hlen).mono ?_; rintro e w1 h; have h := h.keep; rw [HB.out] at h; obtain ⟨rfl, hk1⟩ := h; have HK1 := Lib.hid hk1; clear hk1) | (go_at_call 105; refine (best_any (validB_true.1 HB.out) (HV.out.keep HK1.out (fun _ _ h => h)) (fun j hj => (HK1.out.cell (p := ⟨10, j, none⟩) hw3 (fun h => h)).trans (HT.out j hj)) (Nat.lt_of_lt_of_le hw3 HK1.out.size)).mono ?_; rintro e w2 ⟨rfl, hk2⟩; have HK2 := Lib.hid hk2; clear hk2))
    go_ret2
    exact ⟨by unfold cliqueE; rw [HB.out]; rfl, HK1.out.trans HK2.out (fun _ _ h => h)⟩

def baysB (g : List Int) : Bool := validB g && (g.length == 8)
theorem bays_any {w : World} {v : Value} {g : List Int} (hv : Rd w 1 v g.length (icells g)) (hlen : g.length < 9223372036854775807) (hT : TabAt 10 Lib.deBruijn64tab w) (hw3 : 10 < w.heap.size) :
    Calls Tryz.prog 31 #[v] w (IdxPost w (.bool (baysB g))) := by
  obtain ⟨ao, cap, hve, _⟩ := hv.shape
  subst hve
  have HC := Lib.hid (chClique_any hv hlen hT hw3); clear hT hv
  cases hb : validB g
  · have HB := Lib.hid hb; clear hb
    go_enter Tryz.func31, Tryz.ntmps31
    go_wp2_with (go_at_call 61; refine HC.out.mono ?_; rintro e w1 h; unfold cliqueE at h; rw [HB.out] at h; obtain ⟨rfl, hk1⟩ := h; have HK1 := Lib.hid hk1; clear hk1)
    go_ret
    exact ⟨by unfold baysB; rw [HB.out]; rfl, HK1.out⟩
  · have HB := Lib.hid hb; clear hb
    have HE := Lib.hid (show baysB g = ((g.length : Int) == 8) by unfold baysB; rw [HB.out, Bool.true_and, Bool.eq_iff_iff, beq_iff_eq, beq_iff_eq]; omega)
    go_enter Tryz.func31, Tryz.ntmps31
    go_wp2_with (go_at_call 61; refine HC.out.mono ?_; rintro e w1 h; unfold cliqueE at h; rw [HB.out] at h; obtain ⟨rfl, hk1⟩ := h; have HK1 := Lib.hid hk1; clear hk1)
    go_ret
    exact ⟨by rw [HE.out]; rfl, HK1.out⟩
end Go.Proofs.YteommegadhipkaaGreatDoor
