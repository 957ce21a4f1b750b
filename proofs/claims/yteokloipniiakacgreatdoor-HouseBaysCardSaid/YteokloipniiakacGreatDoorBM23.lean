/- What State says of a state: plain Lean; strings.Join over a slice of lines. -/
import Derived.Test.YteokloipniiakacGreatDoorBM22
import Derived.Test.YteokloipniiakacGreatDoorBM14

/- What State says of a state: plain Lean; strings.Join over a slice of lines. -/
namespace Go.Proofs.YteokloipniiakacGreatDoor
set_option linter.unusedSimpArgs false
set_option linter.unusedVariables false
set_option linter.unnecessarySimpa false
open Go.RowKit

def jbs (xs : List ByteArray) (sep : ByteArray) : ByteArray := ⟨(Lib.join (xs.map (·.data.toList)) sep.data.toList).toArray⟩
theorem jbs_size (x : ByteArray) (xs : List ByteArray) (c : UInt8) (n : Nat) (hn : ∀ y ∈ xs, y.size ≤ n) : (jbs (x :: xs) (bs [c])).size ≤ x.size + xs.length * (n + 1) := by
  have h : (jbs (x :: xs) (bs [c])).size = x.size + (xs.length + Lib.lens (xs.map (·.data.toList))) := by
    have e1 : (jbs (x :: xs) (bs [c])).size = (Lib.join ((x :: xs).map (·.data.toList)) (bs [c]).data.toList).length := by simp [jbs, ByteArray.size]
    have e2 : x.data.toList.length = x.size := by simp
    rw [e1, List.map_cons, Lib.join_cons, List.length_append, Lib.joinTail_length, e2]
    simp [bs]
  rw [h]
  have : Lib.lens (xs.map (·.data.toList)) ≤ xs.length * n := by
    clear h
    induction xs with
    | nil => simp [Lib.lens]
    | cons y ys ih =>
      have h1 := ih (fun z hz => hn z (List.mem_cons_of_mem _ hz))
      have h2 := hn y (List.mem_cons_self ..)
      have e2 : y.data.toList.length = y.size := by simp
      simp only [Lib.lens, List.map_cons, List.sum_cons, List.length_cons, Nat.add_mul] at h1 ⊢
      omega
  rw [Nat.mul_add]
  omega
theorem jbs_len (xs : List ByteArray) (sep : ByteArray) : (jbs xs sep).size = (Lib.join (xs.map (·.data.toList)) sep.data.toList).length := by simp [jbs, ByteArray.size]

def bayS (x : Lot) : ByteArray := if 0 ≤ x.bay then itoaB x.bay else bs [45]
def isS (x : Lot) : ByteArray := if x.closed then bs [99, 108, 111, 115, 101, 100] else bs [111, 112, 101, 110]
def lotS (i : Nat) (x : Lot) : ByteArray := jbs [itoaB ((i : Int) + 1), x.spice, itoaB x.grams, bayS x, isS x] (bs [58])
def listN (l : List Lot) : Nat → ByteArray
  | 0 => bs [108, 111, 116, 115]
  | k + 1 => listN l k ++ (bs [32] ++ lotS k (l.getD k ⟨bs [], 0, 0, false⟩))
def listF (l : List Lot) : ByteArray := listN l l.length
def textF (S : St) : ByteArray := jbs (listF S.lots :: S.notes) (bs [10]) ++ bs [10]

theorem bayS_size {x : Lot} (h : x.ok) : (bayS x).size ≤ 21 := by
  unfold bayS
  split
  · exact itoaB_size _ (by omega) (by have := h.b; omega)
  · simp [bs, ByteArray.size]
theorem isS_size (x : Lot) : (isS x).size ≤ 6 := by unfold isS; split <;> simp [bs, ByteArray.size]
theorem lotS_size {x : Lot} (h : x.ok) {i : Nat} (hi : i ≤ 1000000) : (lotS i x).size ≤ 120 := by
  have h1 := itoaB_size ((i : Int) + 1) (by omega) (by omega)
  have h2 := itoaB_size x.grams h.g.1 h.g.2
  have h3 := bayS_size h
  have h4 := isS_size x
  have h5 := h.s
  have := jbs_size (itoaB ((i : Int) + 1)) [x.spice, itoaB x.grams, bayS x, isS x] 58 21 (fun y hy => by
    simp only [List.mem_cons, List.not_mem_nil, or_false] at hy
    rcases hy with rfl | rfl | rfl | rfl <;> omega)
  unfold lotS
  simp only [List.length_cons, List.length_nil] at this
  omega
theorem listN_size {l : List Lot} (h : ∀ x ∈ l, x.ok) : ∀ k, k ≤ l.length → k ≤ 1000000 → (listN l k).size ≤ 4 + 121 * k := by
  intro k
  induction k with
  | zero => intro _ _; simp [listN, bs, ByteArray.size]
  | succ k ih =>
    intro hk hk2
    have h1 := ih (by omega) (by omega)
    have h2 : (l.getD k ⟨bs [], 0, 0, false⟩).ok := by
      have e : l.getD k ⟨bs [], 0, 0, false⟩ = l[k]'(by omega) := by simp [List.getD, List.getElem?_eq_getElem (show k < l.length by omega)]
      rw [e]
      exact h _ (by simp)
    have h3 := lotS_size h2 (i := k) (by omega)
    simp only [listN, ByteArray.size_append, show (bs [32]).size = 1 from rfl]
    omega
theorem textF_size {k : Nat} {S : St} (h : Inv k S) (hk : k ≤ 100000000) : (jbs (listF S.lots :: S.notes) (bs [10])).size ≤ 2424 + S.notes.length * 101 := by
  have h1 := listN_size h.lo S.lots.length (Nat.le_refl _) (by have := h.l; omega)
  have h2 := jbs_size (listF S.lots) S.notes 10 100 h.no
  have h3 := h.l
  unfold listF at h2 ⊢
  omega

theorem join_row {W : World} {base n : Nat} {v : Value} {xs : List ByteArray} {sep : ByteArray} (ho : W.ownsRow base 9 1 v n (strCells xs)) (hn : xs.length ≤ 140737488355328) (hl : (jbs xs sep).size ≤ 140737488355328) :
    Calls Tryz.prog 67 #[v, .string sep] W (IdxPost W (.string (jbs xs sep))) := by
  have hlen : n = xs.length := by have := ho.1; simp [strCells] at this; omega
  subst hlen
  have hrd := ownsRow_rd ho (strCells_one xs)
  rcases ho.2 with ⟨rfl, h0⟩ | ⟨g, cap, cur, rfl, hb, hg, hc1, hc2, hc3, hc4⟩
  · obtain rfl : xs = [] := List.eq_nil_of_length_eq_zero h0
    exact (Tryz.strings_Join_none none 0 sep W).mono fun e w' ⟨he, hw⟩ => ⟨he, hw ▸ Keep.refl _ _⟩
  · rw [jbs_len] at hl
    refine (Tryz.strings_Join g 0 cap xs sep W (fun j x hx => ?_) (Array.getElem?_eq_some_iff.1 hg).1 hn hc1 hl).mono fun e w' ⟨he, hw⟩ => ⟨he, Keep.ofBelow hw _⟩
    rcases hrd.2.2 with ⟨h, _⟩ | ⟨b, o, c, h, _, _, hx'⟩
    · cases h
    · cases h
      exact hx' j _ (by simp [strCells, hx])
theorem ownsRow_one {w : World} {base b : Nat} {e : TypeId} {u : Array Value} {n : Nat} (h : Blk w b u e) (hb : base ≤ b) (hn : u.size = n) (hm : n ≤ maxLen) : w.ownsRow base e 1 (.slice (some ⟨b, 0, none⟩) n n) n u.toList := by
  refine ⟨by simp [hn], .inr ⟨b, n, u, rfl, hb, h, Nat.le_refl _, hm, by omega, List.take_of_length_le (by rw [Array.length_toList]; omega)⟩⟩
end Go.Proofs.YteokloipniiakacGreatDoor

/- Splitting what was joined at a byte that stands in no part: plain Lean. -/
namespace Go.Proofs.YteokloipniiakacGreatDoor
set_option linter.unusedSimpArgs false
set_option linter.unusedVariables false
set_option linter.unnecessarySimpa false
open Go.RowKit

theorem index_at (c : UInt8) : ∀ (x t : List UInt8), c ∉ x → Lib.index (x ++ c :: t) [c] = (x.length : Int) := by
  intro x
  induction x with
  | nil =>
    intro t _
    show Lib.index (c :: t) [c] = 0
    unfold Lib.index
    rw [if_pos (by simp)]
  | cons b x ih =>
    intro t h
    have hb : (c == b) = false := by
      rw [beq_eq_false_iff_ne]
      exact fun e => h (e ▸ List.mem_cons_self ..)
    have := ih t (fun e => h (List.mem_cons_of_mem _ e))
    show Lib.index (b :: (x ++ c :: t)) [c] = _
    unfold Lib.index
    rw [if_neg (by simp [List.isPrefixOf, hb]), this]
    have h2 : (((x.length : Nat) : Int) == -1) = false := by rw [beq_eq_false_iff_ne]; omega
    rw [h2]
    simp
theorem index_off (c : UInt8) : ∀ (x : List UInt8), c ∉ x → Lib.index x [c] = -1 := by
  intro x
  induction x with
  | nil => intro _; simp [Lib.index]
  | cons b x ih =>
    intro h
    have hb : (c == b) = false := by
      rw [beq_eq_false_iff_ne]
      exact fun e => h (e ▸ List.mem_cons_self ..)
    have := ih (fun e => h (List.mem_cons_of_mem _ e))
    unfold Lib.index
    rw [if_neg (by simp [List.isPrefixOf, hb]), this]
    rfl
theorem join_two' (x y : List UInt8) (r : List (List UInt8)) (sep : List UInt8) : Lib.join (x :: y :: r) sep = x ++ (sep ++ Lib.join (y :: r) sep) := by
  rw [Lib.join_cons, Lib.join_cons]
  show x ++ ((sep ++ y) ++ Lib.joinTail sep r) = _
  simp [List.append_assoc]
/-- strings.Split at one byte. -/
def splC (c : UInt8) (s : ByteArray) : List ByteArray := Lib.splitB ⟨#[c]⟩ 0 (Lib.countB s ⟨#[c]⟩) s
theorem splC_join (c : UInt8) : ∀ (x : ByteArray) (xs : List ByteArray), (∀ y ∈ x :: xs, c ∉ y.data.toList) → splC c (jbs (x :: xs) (bs [c])) = x :: xs := by
  intro x xs
  induction xs generalizing x with
  | nil =>
    intro h
    have e : jbs [x] (bs [c]) = x := ByteArray.ext (Array.toList_inj.1 (by simp [jbs, Lib.join_one]))
    rw [e]
    have hm : Lib.indexB x ⟨#[c]⟩ = -1 := index_off c _ (h x (List.mem_cons_self ..))
    unfold splC
    rw [Lib.splitB_miss _ _ _ _ hm]
  | cons y r ih =>
    intro h
    have hx := h x (List.mem_cons_self ..)
    have hr := ih y (fun z hz => h z (List.mem_cons_of_mem _ hz))
    have hl : (jbs (x :: y :: r) (bs [c])).data.toList = x.data.toList ++ c :: (jbs (y :: r) (bs [c])).data.toList := by
      simp [jbs, bs, join_two']
    have hz : x.data.toList.length = x.size := by simp
    have hi : Lib.indexB (jbs (x :: y :: r) (bs [c])) ⟨#[c]⟩ = (x.size : Int) := by
      show Lib.index (jbs (x :: y :: r) (bs [c])).data.toList [c] = _
      rw [hl, index_at c _ _ hx, hz]
    have h1 : (1 : Nat) ≤ (⟨#[c]⟩ : ByteArray).size := Nat.le_refl 1
    have hs1 : (⟨#[c]⟩ : ByteArray).size = 1 := rfl
    have hsz : (jbs (x :: y :: r) (bs [c])).size = x.size + 1 + (jbs (y :: r) (bs [c])).size := by
      have e : ∀ b : ByteArray, b.size = b.data.toList.length := fun b => by simp
      rw [e (jbs (x :: y :: r) (bs [c])), hl, e x, e (jbs (y :: r) (bs [c]))]
      simp
      omega
    have he : (jbs (x :: y :: r) (bs [c])).extract (x.size + (⟨#[c]⟩ : ByteArray).size) (jbs (x :: y :: r) (bs [c])).size = jbs (y :: r) (bs [c]) := by
      apply ByteArray.ext; apply Array.toList_inj.1
      rw [hs1, hsz]
      simp only [ByteArray.data_extract, Array.toList_extract, List.extract_eq_take_drop, hl]
      rw [show x.data.toList ++ c :: (jbs (y :: r) (bs [c])).data.toList = (x.data.toList ++ [c]) ++ (jbs (y :: r) (bs [c])).data.toList by simp]
      have hl1 : (x.data.toList ++ [c]).length = x.size + 1 := by rw [List.length_append, hz]; rfl
      rw [List.drop_append_of_le_length (by rw [hl1]; exact Nat.le_refl _), List.drop_of_length_le (by rw [hl1]; exact Nat.le_refl _), List.nil_append]
      all_goals exact List.take_of_length_le (by have e : (jbs (y :: r) (bs [c])).data.toList.length = (jbs (y :: r) (bs [c])).size := by simp
                                                 omega)
    have h0 : (jbs (x :: y :: r) (bs [c])).extract 0 (x.size + 0) = x := by
      apply ByteArray.ext; apply Array.toList_inj.1
      simp only [ByteArray.data_extract, Array.toList_extract, List.extract_eq_take_drop, hl, List.drop_zero, Nat.sub_zero, Nat.add_zero]
      rw [← hz, List.take_left]
    unfold splC at hr ⊢
    rw [Lib.countB_hit _ _ _ h1 hi, he, Nat.add_comm 1, Lib.splitB_hit _ _ _ _ _ hi, he, h0, hr]
end Go.Proofs.YteokloipniiakacGreatDoor

/- What a change does to the grams of all lots: plain Lean. -/
namespace Go.Proofs.YteokloipniiakacGreatDoor
set_option linter.unusedSimpArgs false
set_option linter.unusedVariables false
set_option linter.unnecessarySimpa false
open Go.RowKit

def tot : List Lot → Int
  | [] => 0
  | x :: l => x.grams + tot l
theorem tot_append (l m : List Lot) : tot (l ++ m) = tot l + tot m := by
  induction l with
  | nil => simp [tot]
  | cons x l ih => simp only [List.cons_append, tot, ih]; omega
theorem tot_set {y : Lot} : ∀ {l : List Lot} {i : Nat} {x : Lot}, l[i]? = some x → tot (l.set i y) = tot l - x.grams + y.grams := by
  intro l
  induction l with
  | nil => intro i x h; simp at h
  | cons a l ih =>
    intro i x h
    cases i with
    | zero => simp at h; subst h; simp only [List.set_cons_zero, tot]; omega
    | succ i => simp only [List.getElem?_cons_succ] at h; simp only [List.set_cons_succ, tot, ih h]; omega
theorem tot_ge {l : List Lot} (h : ∀ x ∈ l, 0 ≤ x.grams) : 0 ≤ tot l ∧ ∀ x ∈ l, x.grams ≤ tot l := by
  induction l with
  | nil => exact ⟨Int.le_refl _, fun x hx => by cases hx⟩
  | cons a l ih =>
    have h1 := ih (fun x hx => h x (List.mem_cons_of_mem _ hx))
    have h2 := h a (List.mem_cons_self ..)
    refine ⟨by simp only [tot]; omega, fun x hx => ?_⟩
    simp only [tot]
    rcases List.mem_cons.1 hx with rfl | hx
    · omega
    · have := h1.2 x hx; omega
/-- What holds of every lot. -/
def LotK (x : Lot) : Prop := x.spice.data.toList.any badS = false ∧ 0 ≤ x.grams ∧ -1 ≤ x.bay ∧ x.bay ≤ 7
structure KI (c : Nat) (S : St) : Prop where
  l : ∀ x ∈ S.lots, LotK x
  t : tot S.lots ≤ 999999 * (c : Int)
theorem KI.mono {c : Nat} {S S' : St} (h : KI c S) (e : S'.lots = S.lots) : KI (c + 1) S' := ⟨by rw [e]; exact h.l, by rw [e]; have := h.t; omega⟩
theorem mem_set {l : List Lot} {i : Nat} {y z : Lot} (h : z ∈ l.set i y) : z = y ∨ z ∈ l := (List.mem_or_eq_of_mem_set h).symm
theorem mem_at {l : List Lot} {i : Nat} {x : Lot} (h : l[i]? = some x) : x ∈ l := List.mem_of_getElem? h

/-- A line that is done: its words' sort, its command, its arguments. -/
theorem do_kind {s : ByteArray} {S : St} (h : (doF runF S s).err = 0) : ∃ so f a, formF s = some (so, f, a) ∧ a.ok = true ∧ (runF f S a).err = 0 ∧ doF runF S s = runF f S a := by
  unfold doF at h ⊢
  cases hf : formF s with
  | none => rw [hf] at h; simp at h
  | some x =>
    obtain ⟨so, f, a⟩ := x
    rw [hf] at h
    simp only at h ⊢
    by_cases hok : a.ok = true
    · rw [if_pos hok] at h ⊢
      by_cases he : (runF f S a).err = 0
      · rw [if_pos he]; exact ⟨so, f, a, rfl, hok, he, rfl⟩
      · rw [if_neg he] at h; exact absurd h he
    · rw [if_neg hok] at h; simp at h
def takeB : List UInt8 := [116, 97, 107, 101]
theorem form_head {s : ByteArray} {so : List UInt8} {f : Nat} {a : FA} (h : formF s = some (so, f, a)) : chF ((words s).headD (bs [])).data.toList = some (so, f) ∧ (words s).length - 1 = so.length ∧ a = foldF so (words s).tail := by
  unfold formF at h
  split at h
  · split at h
    · rename_i so' f' hch
      split at h
      · rename_i hlen
        simp only [Option.some.injEq, Prod.mk.injEq] at h
        obtain ⟨rfl, rfl, rfl⟩ := h
        exact ⟨hch, hlen, rfl⟩
      · cases h
    · cases h
  · cases h
theorem ch_take {l so : List UInt8} {f : Nat} (h : chF l = some (so, f)) : (l = takeB ↔ f = 396) ∧ (f = 396 → so = [115, 100]) := by
  unfold chF at h
  unfold takeB
  repeat' split at h
  all_goals first | (cases h; done) | (simp only [Option.some.injEq, Prod.mk.injEq] at h; obtain ⟨rfl, rfl⟩ := h)
  all_goals (rename_i hl; subst hl; first | exact ⟨⟨fun _ => rfl, fun _ => rfl⟩, fun _ => rfl⟩ | exact ⟨⟨fun e => absurd e (by decide), fun e => absurd e (by decide)⟩, fun e => absurd e (by decide)⟩)
theorem dec_num {w : ByteArray} (h : decOk w.data.toList = true) : numR w = (atoiN w, true) ∧ 0 ≤ atoiN w ∧ atoiN w ≤ 999999 := by
  have hz : w.data.toList.length = w.size := by simp
  have h' := h
  unfold decOk at h
  simp only [Bool.and_eq_true, decide_eq_true_eq] at h
  have hn : w.data.toList ≠ [] := fun e => by rw [e] at h; simp at h
  have ha := atoi_digits hn h.1.2 h.1.1.2
  rw [dec_same] at h'
  simp only [Bool.and_eq_true, decide_eq_true_eq] at h'
  refine ⟨numR_atoi h.1.2 hn (by omega), h'.1.2, ?_⟩
  unfold atoiN
  rw [ha]
  simp only
  have hlt : ∀ (l : List UInt8) (acc k : Nat), l.all digB = true → acc < 10 ^ k → numV acc l < 10 ^ (k + l.length) := by
    intro l
    induction l with
    | nil => intro acc k _ ha; exact ha
    | cons c l ih =>
      intro acc k hd ha
      simp only [List.all_cons, Bool.and_eq_true] at hd
      have hc := digB_iff.1 hd.1
      have hp2 : 10 ^ (k + 1) = 10 ^ k * 10 := Nat.pow_succ 10 k
      have := ih (acc * 10 + (c.toNat - 48)) (k + 1) hd.2 (by omega)
      rw [List.length_cons, show k + (l.length + 1) = k + 1 + l.length by omega]
      exact this
  have h1 := hlt w.data.toList 0 0 h.1.2 (by decide)
  have h2 : 10 ^ (0 + w.data.toList.length) ≤ 10 ^ 6 := Nat.pow_le_pow_right (by decide) (by have := h.1.1.2; omega)
  have h6 : (10 : Nat) ^ 6 = 1000000 := by decide
  omega
/-- The words of a line that takes. -/
theorem take_words {s : ByteArray} {so : List UInt8} {a : FA} (h : formF s = some (so, 396, a)) (hok : a.ok = true) :
    ∃ h0 w x, words s = [h0, w, x] ∧ a = ⟨[atoiN x], w, true⟩ ∧ w.data.toList.any badS = false ∧ numR x = (atoiN x, true) ∧ 0 ≤ atoiN x ∧ atoiN x ≤ 999999 := by
  obtain ⟨hch, hlen, ha⟩ := form_head h
  have hso := (ch_take hch).2 rfl
  subst hso
  have hwl := words_length s
  match hw : words s, hwl with
  | [], hwl => rw [hw] at hlen; simp at hlen
  | [_], _ => rw [hw] at hlen; simp at hlen
  | [_, _], _ => rw [hw] at hlen; simp at hlen
  | [h0, w, x], _ =>
    rw [hw] at ha
    have e : foldF [115, 100] [h0, w, x].tail = stepF (stepF ⟨[], bs [], true⟩ (115, w)) (100, x) := rfl
    rw [e] at ha
    have hok2 := hok
    rw [ha] at hok2
    have h1 : ((true && isSpiceB w) && atoiOk x && decide (x.size ≤ 6) && decide (0 ≤ atoiN x) && decide (itoaB (atoiN x) = x)) = true := hok2
    simp only [Bool.and_eq_true, decide_eq_true_eq, Bool.true_and] at h1
    have hd : decOk x.data.toList = true := by
      rw [dec_same]
      simp only [Bool.and_eq_true, decide_eq_true_eq]
      exact ⟨⟨⟨h1.1.1.1.2, h1.1.1.2⟩, h1.1.2⟩, h1.2⟩
    have hsp : w.data.toList.any badS = false := by
      have := h1.1.1.1.1
      unfold isSpiceB at this
      simp only [Bool.and_eq_true, Bool.not_eq_true'] at this
      exact this.2
    obtain ⟨n1, n2, n3⟩ := dec_num hd
    refine ⟨h0, w, x, rfl, ?_, hsp, n1, n2, n3⟩
    rw [ha] at hok ⊢
    exact FA.mk3 rfl rfl hok
  | _ :: _ :: _ :: _ :: _, _ => rw [hw] at hlen; simp at hlen

theorem take_law {c : Nat} {S : St} {n : Int} {w : ByteArray} (hK : KI c S) (hw : w.data.toList.any badS = false) (h0 : 0 ≤ n) (h1 : n ≤ 999999) (he : (takeF S ⟨[n], w, true⟩).err = 0) :
    KI (c + 1) (takeF S ⟨[n], w, true⟩).st ∧ tot (takeF S ⟨[n], w, true⟩).st.lots = tot S.lots + n := by
  unfold takeF at he ⊢
  split at he
  · simp at he
  · rename_i hl
    rw [if_neg hl]
    split at he
    · simp at he
    · rename_i hz
      rw [if_neg hz]
      have e : tot (addS S ⟨w, n, -1, false⟩).lots = tot S.lots + n := by
        show tot (S.lots ++ [_]) = _
        rw [tot_append]; simp [tot]
      refine ⟨⟨fun x hx => ?_, ?_⟩, e⟩
      · have hx' : x ∈ S.lots ++ [⟨w, n, -1, false⟩] := hx
        rcases List.mem_append.1 hx' with h | h
        · exact hK.l x h
        · rw [List.mem_singleton.1 h]
          exact ⟨hw, h0, Int.le_refl _, by show (-1 : Int) ≤ 7; omega⟩
      · show tot (addS S ⟨w, n, -1, false⟩).lots ≤ _
        rw [e]; have := hK.t; omega
theorem blend_spice : (bs [98, 108, 101, 110, 100]).data.toList.any badS = false := by decide
theorem wrap_in {n : Int} (h : -9223372036854775808 ≤ n ∧ n ≤ 9223372036854775807) : wrap64 n = n := by unfold wrap64; omega
theorem blend_law {c : Nat} {S : St} {i j q : Int} (hK : KI c S) (hc : c ≤ 1000) (hq : 0 ≤ q) (he : (blendF S ⟨[i, j, q], bs [], true⟩).err = 0) :
    KI (c + 1) (blendF S ⟨[i, j, q], bs [], true⟩).st ∧ tot (blendF S ⟨[i, j, q], bs [], true⟩).st.lots = tot S.lots := by
  have hge := tot_ge (l := S.lots) (fun x hx => (hK.l x hx).2.1)
  have ht := hK.t
  unfold blendF at he ⊢
  simp only [List.getD_cons_zero, List.getD_cons_succ] at he ⊢
  by_cases h20 : S.lots.length = 20
  · rw [if_pos h20] at he; simp at he
  rw [if_neg h20] at he ⊢
  by_cases hal : allLots S [i, j] = true
  · rw [if_pos hal] at he ⊢
    by_cases hij : i = j ∨ q = 0
    · rw [if_pos hij] at he; simp at he
    rw [if_neg hij] at he ⊢
    unfold allLots at hal
    simp only [List.all_cons, List.all_nil, Bool.and_true, Bool.and_eq_true, hasLot, decide_eq_true_eq] at hal
    cases hx : S.lots[(i - 1).toNat]? with
    | none => rw [hx] at he; simp at he
    | some x =>
      cases hy : S.lots[(j - 1).toNat]? with
      | none => rw [hx, hy] at he; simp at he
      | some y =>
        rw [hx, hy] at he
        simp only at he ⊢
        by_cases hb : (x.closed || (y.closed || decide (min x.grams y.grams < q))) = true
        · rw [if_pos hb] at he; simp at he
        rw [if_neg hb] at he ⊢
        simp only [Bool.or_eq_true, decide_eq_true_eq, not_or] at hb
        have hqx : q ≤ x.grams ∧ q ≤ y.grams := by omega
        have kx := hK.l x (mem_at hx); have ky := hK.l y (mem_at hy)
        have gx := hge.2 x (mem_at hx); have gy := hge.2 y (mem_at hy)
        have w1 : wrap64 (x.grams - q) = x.grams - q := wrap_in ⟨by omega, by omega⟩
        have w2 : wrap64 (y.grams - q) = y.grams - q := wrap_in ⟨by omega, by omega⟩
        have w3 : wrap64 (2 * q) = 2 * q := wrap_in ⟨by omega, by omega⟩
        have hne : (j - 1).toNat ≠ (i - 1).toNat := by omega
        have hy2 : (S.lots.set (i - 1).toNat { x with grams := x.grams - q })[(j - 1).toNat]? = some y := by
          rw [List.getElem?_set_ne (fun e => hne e.symm)]; exact hy
        have elots : (blendT S i j q x y).lots = ((S.lots.set (i - 1).toNat { x with grams := x.grams - q }).set (j - 1).toNat { y with grams := y.grams - q }) ++ [⟨bs [98, 108, 101, 110, 100], 2 * q, -1, false⟩] := by
          show ((S.lots.set (i - 1).toNat { x with grams := wrap64 (x.grams - q) }).set (j - 1).toNat { y with grams := wrap64 (y.grams - q) }) ++ [(⟨bs [98, 108, 101, 110, 100], wrap64 (2 * q), -1, false⟩ : Lot)] = _
          rw [w1, w2, w3]
        have et : tot (blendT S i j q x y).lots = tot S.lots := by
          rw [elots, tot_append, tot_set hy2, tot_set hx]; simp only [tot]; omega
        refine ⟨⟨fun z hz => ?_, ?_⟩, et⟩
        · have hz' : z ∈ (blendT S i j q x y).lots := hz
          rw [elots] at hz'
          rcases List.mem_append.1 hz' with h | h
          · rcases mem_set h with rfl | h
            · exact ⟨ky.1, by show 0 ≤ y.grams - q; omega, ky.2.2⟩
            · rcases mem_set h with rfl | h
              · exact ⟨kx.1, by show 0 ≤ x.grams - q; omega, kx.2.2⟩
              · exact hK.l z h
          · rw [List.mem_singleton.1 h]
            exact ⟨blend_spice, by show 0 ≤ 2 * q; omega, by show (-1 : Int) ≤ -1; omega, by show (-1 : Int) ≤ 7; omega⟩
        · show tot (blendT S i j q x y).lots ≤ _
          rw [et]; omega
  · rw [if_neg hal] at he; simp at he
theorem set_same {S : St} {i : Nat} {x y : Lot} {c : Nat} (hK : KI c S) (hx : S.lots[i]? = some x) (hg : y.grams = x.grams) (hy : LotK y) : KI (c + 1) { S with lots := S.lots.set i y } ∧ tot (S.lots.set i y) = tot S.lots := by
  have e : tot (S.lots.set i y) = tot S.lots := by rw [tot_set hx]; omega
  refine ⟨⟨fun z hz => ?_, ?_⟩, e⟩
  · rcases mem_set (show z ∈ S.lots.set i y from hz) with rfl | h
    · exact hy
    · exact hK.l z h
  · show tot (S.lots.set i y) ≤ _
    rw [e]; have := hK.t; omega
theorem put_law {c : Nat} {S : St} {i b : Int} (hK : KI c S) (hb : 0 ≤ b) (he : (putF S ⟨[i, b], bs [], true⟩).err = 0) :
    KI (c + 1) (putF S ⟨[i, b], bs [], true⟩).st ∧ tot (putF S ⟨[i, b], bs [], true⟩).st.lots = tot S.lots := by
  unfold putF at he ⊢
  simp only [List.getD_cons_zero, List.getD_cons_succ] at he ⊢
  by_cases hal : hasLot S i = true
  · rw [if_pos hal] at he ⊢
    by_cases h7 : 7 < b
    · rw [if_pos h7] at he; simp at he
    rw [if_neg h7] at he ⊢
    cases hx : S.lots[(i - 1).toNat]? with
    | none => rw [hx] at he; simp at he
    | some x =>
      rw [hx] at he
      simp only at he ⊢
      by_cases hc : x.closed = true
      · rw [if_pos hc] at he; simp at he
      rw [if_neg hc] at he ⊢
      by_cases ha : (List.range S.lots.length).any (clashAt S i b x) = true
      · rw [if_pos ha] at he; simp at he
      rw [if_neg ha]
      have kx := hK.l x (mem_at hx)
      exact set_same hK hx rfl ⟨kx.1, kx.2.1, by show -1 ≤ b; omega, by show b ≤ 7; omega⟩
  · rw [if_neg hal] at he; simp at he
theorem shut_law {c : Nat} {S : St} {a : FA} (hK : KI c S) (he : (shutF S a).err = 0) :
    KI (c + 1) (shutF S a).st ∧ tot (shutF S a).st.lots = tot S.lots := by
  unfold shutF at he ⊢
  by_cases hal : hasLot S (a.n.getD 0 0) = true
  · rw [if_pos hal] at he ⊢
    cases hx : S.lots[(a.n.getD 0 0 - 1).toNat]? with
    | none => rw [hx] at he; simp at he
    | some x =>
      rw [hx] at he
      simp only at he ⊢
      by_cases hc : x.closed = true
      · rw [if_pos hc] at he; simp at he
      rw [if_neg hc]
      have kx := hK.l x (mem_at hx)
      exact set_same hK hx rfl ⟨kx.1, kx.2.1, by show (-1 : Int) ≤ -1; omega, by show (-1 : Int) ≤ 7; omega⟩
  · rw [if_neg hal] at he; simp at he
/-- The grams change by take alone. -/
theorem step_law {c : Nat} {S : St} {s : ByteArray} (hK : KI c S) (hc : c ≤ 1000) (he : (doF runF S s).err = 0) :
    KI (c + 1) (doF runF S s).st ∧
    (((words s).headD (bs [])).data.toList = takeB → ∃ n, numR ((words s).getD ((words s).length - 1) ByteArray.empty) = (n, true) ∧ 0 ≤ n ∧ n ≤ 999999 ∧ tot (doF runF S s).st.lots = tot S.lots + n) ∧
    (((words s).headD (bs [])).data.toList ≠ takeB → tot (doF runF S s).st.lots = tot S.lots) := by
  obtain ⟨so, f, a, hf, hok, hr, hd⟩ := do_kind he
  rw [hd]
  obtain ⟨hch, _, _⟩ := form_head hf
  have hct := (ch_take hch).1
  by_cases h396 : f = 396
  · subst h396
    obtain ⟨h0, w, x, hw, ha, h1, h2, h3, h4⟩ := take_words hf hok
    subst ha
    have e : runF 396 S ⟨[atoiN x], w, true⟩ = takeF S ⟨[atoiN x], w, true⟩ := rfl
    rw [e] at hr ⊢
    obtain ⟨k1, k2⟩ := take_law hK h1 h3 h4 hr
    refine ⟨k1, fun _ => ⟨atoiN x, ?_, h3, h4, k2⟩, fun h => absurd (hct.2 rfl) h⟩
    rw [hw]
    exact h2
  · have hne : ((words s).headD (bs [])).data.toList ≠ takeB := fun e => h396 (hct.1 e)
    suffices h : KI (c + 1) (runF f S a).st ∧ tot (runF f S a).st.lots = tot S.lots from ⟨h.1, fun e => absurd e hne, fun _ => h.2⟩
    cases said_of hf hok with
    | take e n w ha hn hw => exact absurd e h396
    | blend e i j q ha hi hj hq => subst e ha; exact blend_law hK hc hq.1 hr
    | put e i b ha hi hb => subst e ha; exact put_law hK hb.1 hr
    | touch e i j ha hi hj =>
      subst e ha
      have e2 : (runF 399 S ⟨[i, j], bs [], true⟩).st.lots = S.lots := by
        show (touchF S _).st.lots = _
        unfold touchF; split
        · split <;> rfl
        · rfl
      exact ⟨hK.mono e2, by rw [e2]⟩
    | test e i w ha hi hw =>
      subst e ha
      have e2 : (runF 400 S ⟨[i], w, true⟩).st.lots = S.lots := by
        show (testF S _).st.lots = _
        unfold testF; split
        · split <;> rfl
        · rfl
      exact ⟨hK.mono e2, by rw [e2]⟩
    | close e i ha hi => subst e ha; exact shut_law hK hr
theorem take_shape {s : ByteArray} {S : St} (h : (doF runF S s).err = 0) (ht : ((words s).headD (bs [])).data.toList = takeB) : ∃ h0 w x, words s = [h0, w, x] := by
  obtain ⟨so, f, a, hf, hok, _, _⟩ := do_kind h
  obtain ⟨hch, _, _⟩ := form_head hf
  have e := (ch_take hch).1.1 ht
  subst e
  obtain ⟨h0, w, x, hw, _⟩ := take_words hf hok
  exact ⟨h0, w, x, hw⟩
theorem KI.start (g : List Int) : KI 0 (S0 g) := ⟨fun x hx => absurd hx List.not_mem_nil, by show tot [] ≤ _; simp [tot]⟩
end Go.Proofs.YteokloipniiakacGreatDoor

/- Where lots stand in the bays: plain Lean. -/
namespace Go.Proofs.YteokloipniiakacGreatDoor
set_option linter.unusedSimpArgs false
set_option linter.unusedVariables false
set_option linter.unnecessarySimpa false
open Go.RowKit

/-- Are two bays neighbours. -/
def adjG (g : List Int) (b c : Int) : Bool := g.getD b.toNat 0 / 2 ^ c.toNat % 2 == 1
/-- Two lots that may stand where they stand. -/
def okP (g : List Int) (x y : Lot) : Prop := 0 ≤ x.bay → 0 ≤ y.bay → x.bay ≠ y.bay ∧ (x.spice ≠ y.spice → adjG g x.bay y.bay = false)
structure BI (g : List Int) (S : St) : Prop where
  b : S.bays = g
  c : ∀ x ∈ S.lots, x.closed = true → x.bay < 0
  p : ∀ (i j : Nat) (x y : Lot), i ≠ j → S.lots[i]? = some x → S.lots[j]? = some y → okP g x y
theorem BI.same {g : List Int} {S S' : St} (h : BI g S) (e : S'.lots = S.lots) (eb : S'.bays = S.bays) : BI g S' := ⟨by rw [eb]; exact h.b, by rw [e]; exact h.c, by rw [e]; exact h.p⟩
theorem okP_out {g : List Int} {x y : Lot} (h : y.bay < 0) : okP g x y ∧ okP g y x := ⟨fun _ h2 => absurd h2 (by omega), fun h2 _ => absurd h2 (by omega)⟩
/-- A lot behind all that is in no bay. -/
theorem BI.snoc {g : List Int} {S : St} {z : Lot} (h : BI g S) (hz : z.bay = -1) : BI g { S with lots := S.lots ++ [z] } := by
  refine ⟨h.b, fun x hx hc => ?_, fun i j x y hij hi hj => ?_⟩
  · rcases List.mem_append.1 (show x ∈ S.lots ++ [z] from hx) with hx | hx
    · exact h.c x hx hc
    · rw [List.mem_singleton.1 hx, hz]; omega
  · have hi' : (S.lots ++ [z])[i]? = some x := hi
    have hj' : (S.lots ++ [z])[j]? = some y := hj
    have key : ∀ (k : Nat) (u : Lot), (S.lots ++ [z])[k]? = some u → S.lots[k]? = some u ∨ u = z := fun k u hk => by
      by_cases hl : k < S.lots.length
      · rw [List.getElem?_append_left hl] at hk; exact .inl hk
      · rw [List.getElem?_append_right (by omega)] at hk
        exact .inr (List.mem_singleton.1 (List.mem_of_getElem? hk))
    rcases key i x hi' with h1 | rfl
    · rcases key j y hj' with h2 | rfl
      · exact h.p i j x y hij h1 h2
      · exact (okP_out (by omega)).1
    · exact (okP_out (by omega)).2
/-- A lot in the same place, with the same spice, bay and mark. -/
theorem BI.set {g : List Int} {S : St} {k : Nat} {x z : Lot} (h : BI g S) (hx : S.lots[k]? = some x) (hs : z.spice = x.spice) (hc : z.closed = true → z.bay < 0)
    (hp : ∀ (j : Nat) (y : Lot), j ≠ k → S.lots[j]? = some y → okP g z y ∧ okP g y z) : BI g { S with lots := S.lots.set k z } := by
  have key : ∀ (i : Nat) (u : Lot), (S.lots.set k z)[i]? = some u → (i = k ∧ u = z) ∨ (i ≠ k ∧ S.lots[i]? = some u) := fun i u hi => by
    by_cases e : i = k
    · subst e
      have hl := (List.getElem?_eq_some_iff.1 hx).1
      rw [List.getElem?_set_self hl] at hi
      exact .inl ⟨rfl, (Option.some.inj hi).symm⟩
    · rw [List.getElem?_set_ne (fun h => e h.symm)] at hi
      exact .inr ⟨e, hi⟩
  refine ⟨h.b, fun u hu hcu => ?_, fun i j u v hij hi hj => ?_⟩
  · rcases mem_set (show u ∈ S.lots.set k z from hu) with rfl | hu
    · exact hc hcu
    · exact h.c u hu hcu
  · rcases key i u hi with ⟨e1, rfl⟩ | ⟨e1, h1⟩
    · rcases key j v hj with ⟨e2, rfl⟩ | ⟨e2, h2⟩
      · exact absurd (e1.trans e2.symm) hij
      · exact (hp j v e2 h2).1
    · rcases key j v hj with ⟨e2, rfl⟩ | ⟨e2, h2⟩
      · exact (hp i u e1 h1).2
      · exact h.p i j u v hij h1 h2
theorem BI.regram {g : List Int} {S : St} {k : Nat} {x z : Lot} (h : BI g S) (hx : S.lots[k]? = some x) (hs : z.spice = x.spice) (hb : z.bay = x.bay) (hcl : z.closed = x.closed) : BI g { S with lots := S.lots.set k z } := by
  refine h.set hx hs (fun e => ?_) (fun j y hj hy => ?_)
  · rw [hb]; exact h.c x (mem_at hx) (by rw [← hcl]; exact e)
  · have h1 := h.p k j x y (fun e => hj e.symm) hx hy
    have h2 := h.p j k y x hj hy hx
    unfold okP at h1 h2 ⊢
    rw [hs, hb]
    exact ⟨h1, h2⟩

theorem bi_take {g : List Int} {S : St} {n : Int} {w : ByteArray} (hB : BI g S) (he : (takeF S ⟨[n], w, true⟩).err = 0) : BI g (takeF S ⟨[n], w, true⟩).st := by
  unfold takeF at he ⊢
  split at he
  · simp at he
  · rename_i hl
    rw [if_neg hl]
    split at he
    · simp at he
    · rename_i hz
      rw [if_neg hz]
      exact hB.snoc rfl
theorem bi_blend {g : List Int} {S : St} {i j q : Int} (hB : BI g S) (he : (blendF S ⟨[i, j, q], bs [], true⟩).err = 0) : BI g (blendF S ⟨[i, j, q], bs [], true⟩).st := by
  unfold blendF at he ⊢
  simp only [List.getD_cons_zero, List.getD_cons_succ] at he ⊢
  by_cases h20 : S.lots.length = 20
  · rw [if_pos h20] at he; simp at he
  rw [if_neg h20] at he ⊢
  by_cases hal : allLots S [i, j] = true
  · rw [if_pos hal] at he ⊢
    by_cases hij : i = j ∨ q = 0
    · rw [if_pos hij] at he; simp at he
    rw [if_neg hij] at he ⊢
    unfold allLots at hal
    simp only [List.all_cons, List.all_nil, Bool.and_true, Bool.and_eq_true, hasLot, decide_eq_true_eq] at hal
    cases hx : S.lots[(i - 1).toNat]? with
    | none => rw [hx] at he; simp at he
    | some x =>
      cases hy : S.lots[(j - 1).toNat]? with
      | none => rw [hx, hy] at he; simp at he
      | some y =>
        rw [hx, hy] at he
        simp only at he ⊢
        by_cases hb : (x.closed || (y.closed || decide (min x.grams y.grams < q))) = true
        · rw [if_pos hb] at he; simp at he
        rw [if_neg hb]
        have hne : (j - 1).toNat ≠ (i - 1).toNat := by omega
        have h1 : BI g { S with lots := S.lots.set (i - 1).toNat { x with grams := wrap64 (x.grams - q) } } := hB.regram hx rfl rfl rfl
        have hy2 : (S.lots.set (i - 1).toNat { x with grams := wrap64 (x.grams - q) })[(j - 1).toNat]? = some y := by
          rw [List.getElem?_set_ne (fun e => hne e.symm)]; exact hy
        have h2 : BI g (blendS S i j q x y) := h1.regram (z := { y with grams := wrap64 (y.grams - q) }) hy2 rfl rfl rfl
        have h3 := h2.snoc (z := ⟨bs [98, 108, 101, 110, 100], wrap64 (2 * q), -1, false⟩) rfl
        exact h3.same rfl rfl
  · rw [if_neg hal] at he; simp at he
theorem adj_same {S : St} {b c : Int} (hc : c ≤ 7) : adjB S b c = adjG S.bays b c := by
  unfold adjB adjG
  rw [show min c.toNat 64 = c.toNat by omega]
theorem adj_sym {g : List Int} (hg : Graph g) {b c : Int} (hb : b.toNat < g.length) (hc : c.toNat < g.length) : adjG g b c = adjG g c b := by
  have := (hg.2.2 b.toNat hb).2.2.2 c.toNat hc
  unfold adjG
  rw [this]
theorem bi_put {g : List Int} {S : St} {c : Nat} {i b : Int} (hg : Graph g) (hg8 : g.length = 8) (hK : KI c S) (hB : BI g S) (hb : 0 ≤ b) (he : (putF S ⟨[i, b], bs [], true⟩).err = 0) : BI g (putF S ⟨[i, b], bs [], true⟩).st := by
  unfold putF at he ⊢
  simp only [List.getD_cons_zero, List.getD_cons_succ] at he ⊢
  by_cases hal : hasLot S i = true
  · rw [if_pos hal] at he ⊢
    by_cases h7 : 7 < b
    · rw [if_pos h7] at he; simp at he
    rw [if_neg h7] at he ⊢
    unfold hasLot at hal
    simp only [Bool.and_eq_true, decide_eq_true_eq] at hal
    cases hx : S.lots[(i - 1).toNat]? with
    | none => rw [hx] at he; simp at he
    | some x =>
      rw [hx] at he
      simp only at he ⊢
      by_cases hc : x.closed = true
      · rw [if_pos hc] at he; simp at he
      rw [if_neg hc] at he ⊢
      by_cases ha : (List.range S.lots.length).any (clashAt S i b x) = true
      · rw [if_pos ha] at he; simp at he
      rw [if_neg ha]
      refine hB.set hx rfl (fun e => absurd e hc) (fun j y hj hy => ?_)
      have hjl := (List.getElem?_eq_some_iff.1 hy).1
      have hcl : clashAt S i b x j = false := by
        cases h : clashAt S i b x j with
        | false => rfl
        | true => exact absurd (List.any_eq_true.2 ⟨j, List.mem_range.2 hjl, h⟩) ha
      unfold clashAt at hcl
      rw [hy] at hcl
      have hji : ((j : Int) == i - 1) = false := by rw [beq_eq_false_iff_ne]; omega
      have hky := hK.l y (mem_at hy)
      by_cases hyb : y.bay < 0
      · exact ⟨(okP_out hyb).1, (okP_out hyb).2⟩
      have hyc : y.closed = false := by
        cases h : y.closed with
        | false => rfl
        | true => exact absurd (hB.c y (mem_at hy) h) hyb
      simp only [hji, hyc, Bool.not_false, Bool.true_and, Bool.or_eq_false_iff, Bool.and_eq_false_iff, Bool.not_eq_false', decide_eq_true_eq] at hcl
      have hcl' : (y.bay == b) = false ∧ ((y.spice.toList == x.spice.toList) = true ∨ adjB S b y.bay = false) := by
        rcases hcl with h | h
        · exact absurd h hyb
        · exact h
      have hnb : y.bay ≠ b := beq_eq_false_iff_ne.1 hcl'.1
      have hsp : y.spice ≠ x.spice → adjG g b y.bay = false := fun hne => by
        rcases hcl'.2 with h | h
        · refine absurd ?_ hne
          have h2 := beq_iff_eq.1 h
          rw [Lib.toList_data, Lib.toList_data] at h2
          exact ByteArray.ext (Array.toList_inj.1 h2)
        · rw [adj_same (by exact hky.2.2.2), hB.b] at h; exact h
      have hbl : b.toNat < g.length := by omega
      have hyl : y.bay.toNat < g.length := by have := hky.2.2.2; omega
      refine ⟨fun _ _ => ⟨fun e => hnb e.symm, fun hne => hsp (fun e => hne e.symm)⟩, fun _ _ => ⟨hnb, fun hne => ?_⟩⟩
      show adjG g y.bay b = false
      rw [adj_sym hg hyl hbl]
      exact hsp hne
  · rw [if_neg hal] at he; simp at he
theorem bi_shut {g : List Int} {S : St} {a : FA} (hB : BI g S) (he : (shutF S a).err = 0) : BI g (shutF S a).st := by
  unfold shutF at he ⊢
  by_cases hal : hasLot S (a.n.getD 0 0) = true
  · rw [if_pos hal] at he ⊢
    cases hx : S.lots[(a.n.getD 0 0 - 1).toNat]? with
    | none => rw [hx] at he; simp at he
    | some x =>
      rw [hx] at he
      simp only at he ⊢
      by_cases hc : x.closed = true
      · rw [if_pos hc] at he; simp at he
      rw [if_neg hc]
      exact hB.set hx rfl (fun _ => by show (-1 : Int) < 0; omega) (fun j y _ _ => ⟨(okP_out (x := y) (by show (-1 : Int) < 0; omega)).2, (okP_out (x := y) (by show (-1 : Int) < 0; omega)).1⟩)
  · rw [if_neg hal] at he; simp at he
theorem bay_law {g : List Int} {c : Nat} {S : St} {s : ByteArray} (hg : Graph g) (hg8 : g.length = 8) (hK : KI c S) (hB : BI g S) (he : (doF runF S s).err = 0) : BI g (doF runF S s).st := by
  obtain ⟨so, f, a, hf, hok, hr, hd⟩ := do_kind he
  rw [hd]
  cases said_of hf hok with
  | take e n w ha hn hw => subst e ha; exact bi_take hB hr
  | blend e i j q ha hi hj hq => subst e ha; exact bi_blend hB hr
  | put e i b ha hi hb => subst e ha; exact bi_put hg hg8 hK hB hb.1 hr
  | touch e i j ha hi hj =>
    subst e ha
    have e2 : (runF 399 S ⟨[i, j], bs [], true⟩).st.lots = S.lots ∧ (runF 399 S ⟨[i, j], bs [], true⟩).st.bays = S.bays := by
      show (touchF S _).st.lots = _ ∧ (touchF S _).st.bays = _
      unfold touchF; split
      · split <;> exact ⟨rfl, rfl⟩
      · exact ⟨rfl, rfl⟩
    exact hB.same e2.1 e2.2
  | test e i w ha hi hw =>
    subst e ha
    have e2 : (runF 400 S ⟨[i], w, true⟩).st.lots = S.lots ∧ (runF 400 S ⟨[i], w, true⟩).st.bays = S.bays := by
      show (testF S _).st.lots = _ ∧ (testF S _).st.bays = _
      unfold testF; split
      · split <;> exact ⟨rfl, rfl⟩
      · exact ⟨rfl, rfl⟩
    exact hB.same e2.1 e2.2
  | close e i ha hi => subst e ha; exact bi_shut hB hr
theorem BI.start (g : List Int) : BI g (S0 g) := ⟨rfl, fun x hx => absurd hx List.not_mem_nil, fun i j x y _ h => by have h' : ([] : List Lot)[i]? = some x := h; simp at h'⟩
end Go.Proofs.YteokloipniiakacGreatDoor
