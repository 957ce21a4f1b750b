/- What house.collect makes of calls, in plain words: transactions, and their history. -/
import Derived.Test.YthdkamnclbfehaaGreatDoorSerialM28
import Derived.Test.YthdkamnclbfehaaGreatDoorSerialM25
import Derived.Test.YthdkamnclbfehaaGreatDoorSerialM13
import Derived.Test.YthdkamnclbfehaaGreatDoorSerialM27
import Derived.Test.YthdkamnclbfehaaGreatDoorSerialM23
import Derived.Test.YthdkamnclbfehaaGreatDoorSerialM5
import Derived.Test.YthdkamnclbfehaaGreatDoorSerialM10
import Derived.Test.YthdkamnclbfehaaGreatDoorSerialM8
import Derived.Test.YthdkamnclbfehaaGreatDoorSerialM26
import Derived.Test.YthdkamnclbfehaaGreatDoorSerialM24
import Derived.Deep.LoopGhost
/- What house.collect makes of calls, in plain words: transactions, and their history. -/
namespace Go.Proofs.YthdkamnclbfehaaGreatDoor
set_option linter.unusedSimpArgs false
set_option linter.unusedVariables false
set_option linter.unnecessarySimpa false
open Go.RowKit
def endB : ByteArray := bs [101, 110, 100]
structure CS where
  cur : Int → Int
  over : Int → Int
  all : List (List ByteArray)
  h : List LOp
def upI (f : Int → Int) (k v : Int) : Int → Int := fun y => if y = k then v else f y
def itemsF (s : ByteArray) : List Int := match formF s with | none => [] | some (_, _, a) => touchB s a
def newS (c : CS) (k : Int) : CS := if c.cur k = 0 then { c with all := c.all ++ [[]], cur := upI c.cur k ((c.all.length : Int) + 1) } else c
def lineS (c : CS) (t : Int) (s : ByteArray) : CS :=
  { c with all := c.all.set (t - 1).toNat (c.all.getD (t - 1).toNat [] ++ [s]), h := c.h ++ (itemsF s).map (fun i => (t, 0, i)) ++ (itemsF s).map (fun i => (t, 1, i)) }
def endCS (c : CS) (k t : Int) : CS := { c with h := c.h ++ [(t, 2, 0)], over := upI c.over k (c.over k + 1), cur := upI c.cur k 0 }
def colS (ends : Int → Int) (c : CS) (x : CallR) : CS :=
  if c.over x.1 = ends x.1 then c
  else if c.cur x.1 = 0 ∧ x.2 = endB then { c with over := upI c.over x.1 (c.over x.1 + 1) }
  else if x.2 = endB then endCS c x.1 (c.cur x.1)
  else lineS (newS c x.1) ((newS c x.1).cur x.1) x.2
def endsS (f : Int → Int) (x : CallR) : Int → Int := if x.2 = endB then upI f x.1 (f x.1 + 1) else f
def endsF (l : List CallR) : Int → Int := l.foldl endsS (fun _ => 0)
def c00 : CS := ⟨fun _ => 0, fun _ => 0, [], []⟩
def dayF (l : List CallR) : CS := l.foldl (colS (endsF l)) c00
theorem touchB_len {s : ByteArray} {so : List UInt8} {f : Nat} {a : FA} (h : formF s = some (so, f, a)) : (touchB s a).length ≤ 4 := by
  obtain ⟨_, h3, _, _⟩ := form_n h
  unfold touchB
  refine Nat.le_trans (compact_len _) ?_
  rw [sortI_length]
  unfold touchL
  split
  · simp
  · split
    · simp; omega
    · split
      · simp; omega
      · simp; omega
theorem itemsF_len (s : ByteArray) : (itemsF s).length ≤ 4 := by
  unfold itemsF
  split
  · simp
  · rename_i so f a e; exact touchB_len e
structure CInv (l : List CallR) (c : CS) (j : Nat) : Prop where
  cur : ∀ k, 0 ≤ c.cur k ∧ c.cur k ≤ c.all.length
  over : ∀ k, 0 ≤ c.over k ∧ c.over k ≤ j
  len : c.all.length ≤ j
  each : ∀ t ∈ c.all, t.length ≤ j ∧ ∀ s ∈ t, ∃ x ∈ l, x.2 = s
  h : c.h.length ≤ 8 * j
  txn : ∀ o ∈ c.h, 1 ≤ o.1 ∧ o.1 ≤ c.all.length
theorem cinv_start (l : List CallR) : CInv l c00 0 :=
  ⟨fun k => ⟨Int.le_refl _, by simp [c00]⟩, fun k => ⟨Int.le_refl _, by simp [c00]⟩, Nat.le_refl _, fun t h => (by cases h), Nat.le_refl _, fun o h => (by cases h)⟩
theorem CInv.next {l : List CallR} {c : CS} {j : Nat} (h : CInv l c j) : CInv l c (j + 1) :=
  ⟨h.cur, fun k => ⟨(h.over k).1, by have := (h.over k).2; omega⟩, by have := h.len; omega, fun t ht => ⟨by have := (h.each t ht).1; omega, (h.each t ht).2⟩, by have := h.h; omega, h.txn⟩
theorem CInv.new {l : List CallR} {c : CS} {j : Nat} (h : CInv l c j) (k : Int) :
    (∀ i, 0 ≤ (newS c k).cur i ∧ (newS c k).cur i ≤ (newS c k).all.length) ∧ 1 ≤ (newS c k).cur k ∧ (newS c k).over = c.over ∧ (newS c k).all.length ≤ j + 1 ∧ (∀ t ∈ (newS c k).all, t.length ≤ j ∧ ∀ s ∈ t, ∃ x ∈ l, x.2 = s) ∧
    (newS c k).h = c.h ∧ c.all.length ≤ (newS c k).all.length := by
  unfold newS
  by_cases e : c.cur k = 0
  · rw [if_pos e]
    refine ⟨fun i => ?_, ?_, rfl, by have := h.len; simp; omega, fun t ht => ?_, rfl, by simp⟩
    · have := h.cur i
      dsimp only [upI]
      rw [List.length_append]
      split <;> simp <;> omega
    · dsimp only [upI]; rw [if_pos rfl]; omega
    · rcases List.mem_append.1 ht with q | q
      · exact h.each t q
      · simp at q; rw [q]; exact ⟨Nat.zero_le _, fun s hs => by cases hs⟩
  · rw [if_neg e]
    exact ⟨h.cur, by have := h.cur k; omega, rfl, by have := h.len; omega, h.each, rfl, Nat.le_refl _⟩
theorem CInv.step {l : List CallR} {c : CS} {j : Nat} (h : CInv l c j) (ends : Int → Int) {x : CallR} (hx : x ∈ l) : CInv l (colS ends c x) (j + 1) := by
  unfold colS
  split
  · exact h.next
  · split
    · refine ⟨h.cur, fun k => ?_, by have := h.len; show c.all.length ≤ _; omega, fun t ht => ⟨by have := (h.each t ht).1; omega, (h.each t ht).2⟩, by have := h.h; show c.h.length ≤ _; omega, h.txn⟩
      dsimp only [upI]
      have := h.over k
      have := h.over x.1
      split <;> omega
    · rename_i hne
      split
      · rename_i he
        have hc := h.cur x.1
        have h0 : c.cur x.1 ≠ 0 := fun e => hne ⟨e, he⟩
        unfold endCS
        refine ⟨fun k => ?_, fun k => ?_, by have := h.len; show c.all.length ≤ _; omega, fun t ht => ⟨by have := (h.each t ht).1; omega, (h.each t ht).2⟩, ?_, fun o ho => ?_⟩
        · dsimp only [upI]
          have := h.cur k
          split <;> omega
        · dsimp only [upI]
          have := h.over k
          have := h.over x.1
          split <;> omega
        · have := h.h; show (c.h ++ _).length ≤ _; rw [List.length_append]; simp; omega
        · rcases List.mem_append.1 ho with q | q
          · exact h.txn o q
          · simp at q; rw [q]; show 1 ≤ c.cur x.1 ∧ c.cur x.1 ≤ _; dsimp only; omega
      · obtain ⟨n1, n2, n3, n4, n5, n6, n7⟩ := h.new x.1
        have hit := itemsF_len x.2
        unfold lineS
        refine ⟨fun k => ?_, fun k => ?_, ?_, fun t ht => ?_, ?_, fun o ho => ?_⟩
        · dsimp only; rw [List.length_set]; exact n1 k
        · dsimp only; rw [n3]; have := h.over k; omega
        · dsimp only; rw [List.length_set]; exact n4
        · rcases List.mem_or_eq_of_mem_set ht with q | q
          · exact ⟨by have := (n5 t q).1; omega, (n5 t q).2⟩
          · rw [q]
            have hd : ∀ (a : List (List ByteArray)) i, a.getD i [] = [] ∨ a.getD i [] ∈ a := fun a i => by
              by_cases e : i < a.length
              · right; simp [List.getD, List.getElem?_eq_getElem e]
              · left; simp [List.getD, List.getElem?_eq_none (Nat.le_of_not_lt e)]
            rcases hd (newS c x.1).all ((newS c x.1).cur x.1 - 1).toNat with e | e
            · rw [e]; exact ⟨by simp, fun s hs => by simp at hs; exact ⟨x, hx, hs.symm⟩⟩
            · refine ⟨by have := (n5 _ e).1; rw [List.length_append, List.length_singleton]; omega, fun s hs => ?_⟩
              rcases List.mem_append.1 hs with q2 | q2
              · exact (n5 _ e).2 s q2
              · simp at q2; exact ⟨x, hx, q2.symm⟩
        · have := h.h
          dsimp only; rw [n6, List.length_append, List.length_append, List.length_map, List.length_map]; omega
        · have hc := n1 x.1
          dsimp only at ho ⊢
          rw [List.length_set]
          rw [n6] at ho
          rcases List.mem_append.1 ho with q | q
          · rcases List.mem_append.1 q with q | q
            · have := h.txn o q; omega
            · obtain ⟨i, _, rfl⟩ := List.mem_map.1 q; exact ⟨n2, hc.2⟩
          · obtain ⟨i, _, rfl⟩ := List.mem_map.1 q; exact ⟨n2, hc.2⟩
theorem cinv_fold (l : List CallR) (ends : Int → Int) : ∀ (p : List CallR) (c : CS) (j : Nat), (∀ x ∈ p, x ∈ l) → CInv l c j → CInv l (p.foldl (colS ends) c) (j + p.length)
  | [], c, j, _, h => h
  | x :: p, c, j, hp, h => by
    have := cinv_fold l ends p _ (j + 1) (fun y hy => hp y (List.mem_cons_of_mem _ hy)) (h.step ends (hp x List.mem_cons_self))
    rw [List.foldl_cons, List.length_cons, show j + (p.length + 1) = j + 1 + p.length by omega]
    exact this
theorem dayF_inv (l : List CallR) : CInv l (dayF l) l.length := by
  have := cinv_fold l (endsF l) l c00 0 (fun _ h => h) (cinv_start l)
  rw [Nat.zero_add] at this
  exact this
theorem take_inv (l : List CallR) (j : Nat) (hj : j ≤ l.length) : CInv l ((l.take j).foldl (colS (endsF l)) c00) j := by
  have := cinv_fold l (endsF l) (l.take j) c00 0 (fun _ h => List.mem_of_mem_take h) (cinv_start l)
  rw [Nat.zero_add, List.length_take, Nat.min_eq_left hj] at this
  exact this
theorem ends_take (l : List CallR) (j : Nat) : ∀ k, 0 ≤ (l.take j).foldl endsS (fun _ => 0) k ∧ (l.take j).foldl endsS (fun _ => 0) k ≤ j := by
  have h : ∀ (p : List CallR) (f : Int → Int) (n : Nat), (∀ k, 0 ≤ f k ∧ f k ≤ n) → ∀ k, 0 ≤ p.foldl endsS f k ∧ p.foldl endsS f k ≤ (n + p.length : Nat) := by
    intro p
    induction p with
    | nil => intro f n h; exact h
    | cons x p ih =>
      intro f n h k
      have := ih (endsS f x) (n + 1) (fun i => by
        unfold endsS upI
        have := h i
        have := h x.1
        split
        · dsimp only; split <;> omega
        · omega) k
      rw [List.foldl_cons, List.length_cons]
      omega
  intro k
  have := h (l.take j) (fun _ => 0) 0 (fun _ => ⟨Int.le_refl _, Int.le_refl _⟩) k
  rw [List.length_take] at this
  omega
theorem fold_snoc {α β : Type} (f : β → α → β) (b : β) (l : List α) {j : Nat} {x : α} (h : l[j]? = some x) : (l.take (j + 1)).foldl f b = f ((l.take j).foldl f b) x := by
  rw [List.take_add_one, h, List.foldl_append]; rfl
end Go.Proofs.YthdkamnclbfehaaGreatDoor
/- What house.collect has in memory: three maps that count, the transactions' lines, the history. -/
namespace Go.Proofs.YthdkamnclbfehaaGreatDoor
set_option linter.unusedSimpArgs false
set_option linter.unusedVariables false
set_option linter.unnecessarySimpa false
open Go.RowKit
theorem zero3 (W : World) : (zeroValue 3).run Tryz.prog W = .ok (.int .i64 0) W := by kernel_rfl
def Cnt (w : World) (b n : Nat) (f : Int → Int) : Prop := ∃ g, MapAt w b n g ∧ ∀ x, (kI x).wf = true → (g x).getD (.int .i64 0) = .int .i64 (f x)
theorem Cnt.made (w : World) : Cnt (w.alloc (.map #[] 0)) w.heap.size 0 (fun _ => 0) := ⟨_, MapAt.made w, fun _ _ => rfl⟩
theorem Cnt.lt {w : World} {b n : Nat} {f : Int → Int} (h : Cnt w b n f) : b < w.heap.size := by obtain ⟨g, h, _⟩ := h; exact h.lt
theorem Cnt.mono {w : World} {b n m : Nat} {f : Int → Int} (h : Cnt w b n f) (hn : n ≤ m) : Cnt w b m f := by obtain ⟨g, h, e⟩ := h; exact ⟨g, h.mono hn, e⟩
theorem Cnt.keep {S : Nat → Prop} {w w' : World} {b n : Nat} {f : Int → Int} (h : Cnt w b n f) (k : Keep S w w') (hS : ¬ S b) : Cnt w' b n f := by obtain ⟨g, h, e⟩ := h; exact ⟨g, h.keep k hS, e⟩
theorem Cnt.look {w : World} {b n : Nat} {f : Int → Int} (h : Cnt w b n f) {t : TypeId} (ht : Tryz.prog.underlying t = some (.map 3 3)) {x : Int} (hx : (kI x).wf = true) :
    (Instr.lookup t (.map (some b)) (.int .i64 x) false).run Tryz.prog w = .ok (.int .i64 (f x)) w := by
  obtain ⟨g, h, e⟩ := h
  rw [h.look ht zero3 hx, e x hx]
theorem Cnt.store {w : World} {b n : Nat} {f : Int → Int} (h : Cnt w b n f) {t : TypeId} (ht : Tryz.prog.underlying t = some (.map 3 3)) (hn : n < maxLen) {x : Int} (hx : (kI x).wf = true) (y : Int) :
    ∃ w', (Instr.mapUpdate t (.map (some b)) (.int .i64 x) (.int .i64 y)).run Tryz.prog w = .ok () w' ∧ Cnt w' b (n + 1) (upI f x y) ∧ Keep (fun k => k = b) w w' ∧ w'.heap.size = w.heap.size := by
  obtain ⟨g, h, e⟩ := h
  obtain ⟨w', hr, hm, hk, hs⟩ := h.store ht hn hx (.int .i64 y)
  refine ⟨w', hr, ⟨_, hm, fun z hz => ?_⟩, hk, hs⟩
  show (if z = x then some (Value.int .i64 y) else g z).getD (.int .i64 0) = .int .i64 (if z = x then y else f z)
  by_cases q : z = x
  · rw [if_pos q, if_pos q]; rfl
  · rw [if_neg q, if_neg q]; exact e z hz
theorem Cnt.row {w : World} {b n : Nat} {f : Int → Int} (h : Cnt w b n f) {base : Nat} {e : TypeId} {size m : Nat} {v : Value} {xs : List Value} (ho : w.ownsRow base e size v m xs) : v.ownBlock ≠ some b := fun q => by
  obtain ⟨cur, fz, hc⟩ := ownsRow_cells ho q
  obtain ⟨g, hm, _⟩ := h
  exact hm.ne_cells hc rfl
theorem Cnt.keepRow {w w' : World} {b n : Nat} {f : Int → Int} (h : Cnt w b n f) {base : Nat} {e : TypeId} {size m : Nat} {v : Value} {xs : List Value} (ho : w.ownsRow base e size v m xs) (k : Keep (fun k => v.ownBlock = some k) w w') : Cnt w' b n f :=
  h.keep k (h.row ho)
theorem Cnt.blk {w : World} {b n r : Nat} {f : Int → Int} (h : Cnt w b n f) {cs : Array Value} {t : TypeId} (hb : Blk w r cs t) : r ≠ b := fun q => by
  obtain ⟨g, hm, _⟩ := h
  exact hm.ne_cells hb q.symm
def KB (w w' : World) : Prop := ∀ r cs, Blk w r cs 129 → Blk w' r cs 129
theorem KB.trans {a b c : World} (h : KB a b) (k : KB b c) : KB a c := fun r cs q => k r cs (h r cs q)
theorem KB.idle {a b : World} (k : Keep (fun _ => False) a b) : KB a b := fun r cs q => q.keep k (fun e => e)
structure TxAt (base : Nat) (w : World) (va : Value) (vs : List Value) (all : List (List ByteArray)) : Prop where
  len : vs.length = all.length
  row : w.ownsRow base 148 1 va all.length vs
  own : ∀ (i : Nat) v t, vs[i]? = some v → all[i]? = some t → w.ownsRow base 9 1 v t.length (strCells t)
  apart : ∀ (i j : Nat) v u g, vs[i]? = some v → vs[j]? = some u → v.ownBlock = some g → u.ownBlock = some g → i = j
theorem TxAt.start (base : Nat) (w : World) : TxAt base w (.slice none 0 0) [] [] :=
  ⟨rfl, World.ownsRow_nil _ _ _ _, fun i v t h => by simp at h, fun i j v u g h => by simp at h⟩
theorem TxAt.get {base : Nat} {w : World} {va : Value} {vs : List Value} {all : List (List ByteArray)} (h : TxAt base w va vs all) {i : Nat} {v : Value} (hv : vs[i]? = some v) : ∃ t, all[i]? = some t ∧ w.ownsRow base 9 1 v t.length (strCells t) := by
  have hi : i < vs.length := (List.getElem?_eq_some_iff.1 hv).1
  have hi2 : i < all.length := by rw [← h.len]; exact hi
  have ht : all[i]? = some all[i] := List.getElem?_eq_getElem hi2
  exact ⟨_, ht, h.own i v _ hv ht⟩
theorem TxAt.keep {S : Nat → Prop} {base : Nat} {w w' : World} {va : Value} {vs : List Value} {all : List (List ByteArray)} (h : TxAt base w va vs all) (k : Keep S w w') (ha : ∀ g, va.ownBlock = some g → ¬ S g) (hs : ∀ (i : Nat) v g, vs[i]? = some v → v.ownBlock = some g → ¬ S g) : TxAt base w' va vs all :=
  ⟨h.len, ownsRow_keep h.row k ha, fun i v t hv ht => ownsRow_keep (h.own i v t hv ht) k (fun g hg => hs i v g hv hg), h.apart⟩
theorem TxAt.keepRow {base : Nat} {w w' : World} {va : Value} {vs : List Value} {all : List (List ByteArray)} (h : TxAt base w va vs all) {b : Nat} {e : TypeId} {size m : Nat} {v : Value} {xs : List Value} (ho : w.ownsRow b e size v m xs) (e1 : e ≠ 148) (e2 : e ≠ 9) (k : Keep (fun k => v.ownBlock = some k) w w') : TxAt base w' va vs all :=
  h.keep k (fun g hg q => ownsRow_types ho h.row e1 g q hg) (fun i u g hv hg q => by obtain ⟨t, _, ht⟩ := h.get hv; exact ownsRow_types ho ht e2 g q hg)
theorem TxAt.keepMap {base b n : Nat} {f : Int → Int} {w w' : World} {va : Value} {vs : List Value} {all : List (List ByteArray)} (h : TxAt base w va vs all) (hm : Cnt w b n f) (k : Keep (fun k => k = b) w w') : TxAt base w' va vs all :=
  h.keep k (fun g hg q => hm.row h.row (q ▸ hg)) (fun i u g hv hg q => by obtain ⟨t, _, ht⟩ := h.get hv; exact hm.row ht (q ▸ hg))
theorem TxAt.one {base : Nat} {w : World} {va : Value} {vs : List Value} {all : List (List ByteArray)} (h : TxAt base w va vs all) : ∀ u ∈ vs, u.oneCell' = true := fun u hu => by
  obtain ⟨i, hi⟩ := List.mem_iff_getElem?.1 hu
  obtain ⟨t, _, ht⟩ := h.get hi
  obtain ⟨ao, cap, rfl, _⟩ := ownsRow_shape ht
  rfl
theorem TxAt.new {base : Nat} {w w' : World} {va v' : Value} {vs : List Value} {all : List (List ByteArray)} (h : TxAt base w va vs all) (a : App w base 148 1 va all.length vs 1 [.slice none 0 0] v' w') : TxAt base w' v' (vs ++ [.slice none 0 0]) (all ++ [[]]) := by
  have hlast : ∀ (i : Nat) v, (vs ++ [Value.slice none 0 0])[i]? = some v → (vs[i]? = some v ∧ i < vs.length) ∨ (i = vs.length ∧ v = .slice none 0 0) := fun i v hv => by
    by_cases hi : i < vs.length
    · rw [List.getElem?_append_left hi] at hv; exact .inl ⟨hv, hi⟩
    · rw [List.getElem?_append_right (by omega)] at hv
      have : i - vs.length = 0 := by
        rcases Nat.eq_zero_or_pos (i - vs.length) with e | e
        · exact e
        · rw [List.getElem?_eq_none (by simp; omega)] at hv; cases hv
      rw [this] at hv
      exact .inr ⟨by omega, (Option.some.inj hv).symm⟩
  refine ⟨by simp [h.len], by rw [List.length_append]; exact a.own, fun i v t hv ht => ?_, fun i j v u g hi hj hg hu => ?_⟩
  · rcases hlast i v hv with ⟨q, hl⟩ | ⟨rfl, rfl⟩
    · rw [List.getElem?_append_left (h.len ▸ hl)] at ht
      exact ownsRow_keep (h.own i v t q ht) a.keep (fun b hb e => ownsRow_types h.row (h.own i v t q ht) (by decide) b e hb)
    · rw [h.len, List.getElem?_append_right (Nat.le_refl _), Nat.sub_self] at ht
      cases ht
      exact World.ownsRow_nil _ _ _ _
  · rcases hlast i v hi with ⟨q, _⟩ | ⟨_, rfl⟩
    · rcases hlast j u hj with ⟨q', _⟩ | ⟨_, rfl⟩
      · exact h.apart i j v u g q q' hg hu
      · cases hu
    · cases hg
theorem TxAt.line {base : Nat} {w w1 : World} {g cap i : Nat} {v v' : Value} {vs : List Value} {all : List (List ByteArray)} {t : List ByteArray} {s : ByteArray} (h : TxAt base w (.slice (some ⟨g, 0, none⟩) all.length cap) vs all) (hv : vs[i]? = some v) (ht : all[i]? = some t)
    (a : App w base 9 1 v t.length (strCells t) 1 [.string s] v' w1) : TxAt base (w1.setCell ⟨g, i, none⟩ v') (.slice (some ⟨g, 0, none⟩) all.length cap) (vs.set i v') (all.set i (t ++ [s])) := by
  have hi : i < vs.length := (List.getElem?_eq_some_iff.1 hv).1
  have hown : w1.ownsRow base 9 1 v' (t ++ [s]).length (strCells (t ++ [s])) := by
    have := a.own
    rw [List.length_append, show strCells (t ++ [s]) = strCells t ++ [.string s] by simp [strCells]]
    exact this
  have hvt := h.own i v t hv ht
  have hrow1 := ownsRow_keep h.row a.keep (fun b hb q => ownsRow_types hvt h.row (by decide) b q hb)
  have hlt := (ownsRow_lt h.row g rfl).2
  have hng : ∀ b, v'.ownBlock = some b → b ≠ g := fun b hb e => ownsRow_types hown hrow1 (by decide) b hb (e ▸ rfl)
  refine ⟨by simp [h.len], by rw [List.length_set]; exact ownsRow_set hrow1 i hi v', fun j u x hu hx => ?_, fun j k u z b hu hz hub hzb => ?_⟩
  · by_cases e : j = i
    · subst e
      rw [List.getElem?_set_self hi] at hu
      rw [List.getElem?_set_self (h.len ▸ hi)] at hx
      cases hu; cases hx
      exact ownsRow_setCell hown _ _ (fun q => hng _ q rfl)
    · rw [List.getElem?_set_ne (Ne.symm e)] at hu hx
      have hj := h.own j u x hu hx
      have hj1 := ownsRow_keep hj a.keep (fun b hb q => e (h.apart j i u v b hu hv hb q))
      exact ownsRow_setCell hj1 _ _ (fun q => ownsRow_types hj1 hrow1 (by decide) _ q rfl)
  · have hold : ∀ (m : Nat) y c, m ≠ i → vs[m]? = some y → y.ownBlock = some c → v'.ownBlock ≠ some c := fun m y c hm hy hc q => by
      obtain ⟨tm, _, hrm⟩ := h.get hy
      rcases a.fresh with f | ⟨g2, f, hf⟩
      · exact hm (h.apart m i y v c hy hv hc (f ▸ q))
      · have := (ownsRow_lt hrm c hc).2
        rw [f] at q
        have : g2 = c := Option.some.inj q
        omega
    by_cases e1 : j = i
    · by_cases e2 : k = i
      · rw [e1, e2]
      · rw [List.getElem?_set_ne (Ne.symm e2)] at hz
        subst e1
        rw [List.getElem?_set_self hi] at hu
        cases hu
        exact absurd hub (hold k z b e2 hz hzb)
    · rw [List.getElem?_set_ne (Ne.symm e1)] at hu
      by_cases e2 : k = i
      · subst e2
        rw [List.getElem?_set_self hi] at hz
        cases hz
        exact absurd hzb (hold j u b e1 hu hub)
      · rw [List.getElem?_set_ne (Ne.symm e2)] at hz
        exact h.apart j k u z b hu hz hub hzb
structure ColAt (base : Nat) (w : World) (be bc bo : Nat) (ends : Int → Int) (va : Value) (vs : List Value) (vh : Value) (cs : CS) (n : Nat) : Prop where
  e : Cnt w be n ends
  c : Cnt w bc n cs.cur
  o : Cnt w bo n cs.over
  ne : be ≠ bc ∧ be ≠ bo ∧ bc ≠ bo
  ge : base ≤ be ∧ base ≤ bc ∧ base ≤ bo
  tx : TxAt base w va vs cs.all
  h : w.ownsRow base 146 3 vh cs.h.length (opsC cs.h)
theorem ColAt.mono {base be bc bo n m : Nat} {w : World} {ends : Int → Int} {va vh : Value} {vs : List Value} {c : CS} (h : ColAt base w be bc bo ends va vs vh c n) (hn : n ≤ m) : ColAt base w be bc bo ends va vs vh c m :=
  ⟨h.e.mono hn, h.c.mono hn, h.o.mono hn, h.ne, h.ge, h.tx, h.h⟩
theorem ColAt.idle {base be bc bo n : Nat} {w w' : World} {ends : Int → Int} {va vh : Value} {vs : List Value} {c : CS} (h : ColAt base w be bc bo ends va vs vh c n) (k : Keep (fun _ => False) w w') : ColAt base w' be bc bo ends va vs vh c n :=
  ⟨h.e.keep k (fun e => e), h.c.keep k (fun e => e), h.o.keep k (fun e => e), h.ne, h.ge, h.tx.keep k (fun _ _ e => e) (fun _ _ _ _ _ e => e), ownsRow_keep h.h k (fun _ _ e => e)⟩
theorem ColAt.over {base be bc bo n : Nat} {w : World} {ends : Int → Int} {va vh : Value} {vs : List Value} {c : CS} (h : ColAt base w be bc bo ends va vs vh c n) {t : TypeId} (ht : Tryz.prog.underlying t = some (.map 3 3)) (hn : n ≤ 1000000) {k : Int} (hk : (kI k).wf = true) (y : Int) :
    ∃ w', (Instr.mapUpdate t (.map (some bo)) (.int .i64 k) (.int .i64 y)).run Tryz.prog w = .ok () w' ∧ ColAt base w' be bc bo ends va vs vh { c with over := upI c.over k y } (n + 1) ∧ Keep (fun k => base ≤ k) w w' ∧ KB w w' := by
  obtain ⟨w', hr, hm, hkp, _⟩ := h.o.store ht (by unfold maxLen; omega) hk y
  exact ⟨w', hr, ⟨(h.e.keep hkp h.ne.2.1).mono (Nat.le_succ _), (h.c.keep hkp h.ne.2.2).mono (Nat.le_succ _), hm, h.ne, h.ge, h.tx.keepMap h.o hkp, ownsRow_keep h.h hkp (fun g hg q => h.o.row h.h (q ▸ hg))⟩,
    hkp.mono (fun i _ e => by have e' : i = bo := e; rw [e']; exact h.ge.2.2), fun r cs q => q.keep hkp (h.o.blk q)⟩
theorem ColAt.cur {base be bc bo n : Nat} {w : World} {ends : Int → Int} {va vh : Value} {vs : List Value} {c : CS} (h : ColAt base w be bc bo ends va vs vh c n) {t : TypeId} (ht : Tryz.prog.underlying t = some (.map 3 3)) (hn : n ≤ 1000000) {k : Int} (hk : (kI k).wf = true) (y : Int) :
    ∃ w', (Instr.mapUpdate t (.map (some bc)) (.int .i64 k) (.int .i64 y)).run Tryz.prog w = .ok () w' ∧ ColAt base w' be bc bo ends va vs vh { c with cur := upI c.cur k y } (n + 1) ∧ Keep (fun k => base ≤ k) w w' ∧ KB w w' := by
  obtain ⟨w', hr, hm, hkp, _⟩ := h.c.store ht (by unfold maxLen; omega) hk y
  exact ⟨w', hr, ⟨(h.e.keep hkp h.ne.1).mono (Nat.le_succ _), hm, (h.o.keep hkp (Ne.symm h.ne.2.2)).mono (Nat.le_succ _), h.ne, h.ge, h.tx.keepMap h.c hkp, ownsRow_keep h.h hkp (fun g hg q => h.c.row h.h (q ▸ hg))⟩,
    hkp.mono (fun i _ e => by have e' : i = bc := e; rw [e']; exact h.ge.2.1), fun r cs q => q.keep hkp (h.c.blk q)⟩
theorem ColAt.new {base be bc bo n : Nat} {w w' : World} {ends : Int → Int} {va vh v' : Value} {vs : List Value} {c : CS} (h : ColAt base w be bc bo ends va vs vh c n) (a : App w base 148 1 va c.all.length vs 1 [.slice none 0 0] v' w') :
    ColAt base w' be bc bo ends v' (vs ++ [.slice none 0 0]) vh { c with all := c.all ++ [[]] } n ∧ Keep (fun k => base ≤ k) w w' ∧ KB w w' :=
  ⟨⟨h.e.keepRow h.tx.row a.keep, h.c.keepRow h.tx.row a.keep, h.o.keepRow h.tx.row a.keep, h.ne, h.ge, h.tx.new a, ownsRow_keep h.h a.keep (fun g hg q => ownsRow_types h.h h.tx.row (by decide) g hg q)⟩,
   a.keep.mono (fun i _ e => (ownsRow_lt h.tx.row i e).1), fun r cs q => q.keep a.keep (ownsRow_blk h.tx.row q (by decide))⟩
theorem ColAt.op {base be bc bo n : Nat} {w w' : World} {ends : Int → Int} {va vh v' : Value} {vs : List Value} {c : CS} {o : LOp} (h : ColAt base w be bc bo ends va vs vh c n) (a : App w base 146 3 vh c.h.length (opsC c.h) 1 [.int .i64 o.1, .int .i64 o.2.1, .int .i64 o.2.2] v' w') :
    ColAt base w' be bc bo ends va vs v' { c with h := c.h ++ [o] } n ∧ Keep (fun k => base ≤ k) w w' ∧ KB w w' :=
  ⟨⟨h.e.keepRow h.h a.keep, h.c.keepRow h.h a.keep, h.o.keepRow h.h a.keep, h.ne, h.ge, h.tx.keepRow h.h (by decide) (by decide) a.keep, by
      have := a.own
      show w'.ownsRow base 146 3 v' (c.h ++ [o]).length (opsC (c.h ++ [o]))
      rw [opsC_snoc, List.length_append]
      exact this⟩,
   a.keep.mono (fun i _ e => (ownsRow_lt h.h i e).1), fun r cs q => q.keep a.keep (ownsRow_blk h.h q (by decide))⟩
theorem ColAt.line {base be bc bo n g cap i : Nat} {w w1 : World} {ends : Int → Int} {vh v v' : Value} {vs : List Value} {c : CS} {t : List ByteArray} {s : ByteArray} (h : ColAt base w be bc bo ends (.slice (some ⟨g, 0, none⟩) c.all.length cap) vs vh c n) (hv : vs[i]? = some v) (ht : c.all[i]? = some t)
    (a : App w base 9 1 v t.length (strCells t) 1 [.string s] v' w1) :
    ColAt base (w1.setCell ⟨g, i, none⟩ v') be bc bo ends (.slice (some ⟨g, 0, none⟩) c.all.length cap) (vs.set i v') vh { c with all := c.all.set i (t ++ [s]) } n ∧ Keep (fun k => base ≤ k) w (w1.setCell ⟨g, i, none⟩ v') ∧ KB w (w1.setCell ⟨g, i, none⟩ v') := by
  have hvt := h.tx.own i v t hv ht
  have hk2 : Keep (fun k => k = g) w1 (w1.setCell ⟨g, i, none⟩ v') := (Keep.refl _ _).setCell _ _ (fun _ => rfl)
  have hrow1 := ownsRow_keep h.tx.row a.keep (fun b hb q => ownsRow_types hvt h.tx.row (by decide) b q hb)
  have hgb := (ownsRow_lt h.tx.row g rfl).1
  have ke := h.e.keepRow hvt a.keep
  have kc := h.c.keepRow hvt a.keep
  have ko := h.o.keepRow hvt a.keep
  have kh := ownsRow_keep h.h a.keep (fun b hb q => ownsRow_types h.h hvt (by decide) b hb q)
  refine ⟨⟨ke.keep hk2 (fun e => ke.row hrow1 (e ▸ rfl)), kc.keep hk2 (fun e => kc.row hrow1 (e ▸ rfl)), ko.keep hk2 (fun e => ko.row hrow1 (e ▸ rfl)), h.ne, h.ge, ?_, ownsRow_keep kh hk2 (fun b hb e => ownsRow_types kh hrow1 (by decide) b hb (e ▸ rfl))⟩,
    (a.keep.mono (fun i _ e => (ownsRow_lt hvt i e).1)).trans hk2 (fun i _ e => by have e' : i = g := e; rw [e']; exact hgb),
    fun r cs q => (q.keep a.keep (ownsRow_blk hvt q (by decide))).keep hk2 (fun e => ownsRow_blk hrow1 (q.keep a.keep (ownsRow_blk hvt q (by decide))) (by decide) (e ▸ rfl))⟩
  have := h.tx.line hv ht a
  rw [show ({ c with all := c.all.set i (t ++ [s]) } : CS).all = c.all.set i (t ++ [s]) from rfl]
  have hlen : (c.all.set i (t ++ [s])).length = c.all.length := List.length_set
  exact this
end Go.Proofs.YthdkamnclbfehaaGreatDoor
/- A day in memory: the house, the replies so far. -/
namespace Go.Proofs.YthdkamnclbfehaaGreatDoor
set_option linter.unusedSimpArgs false
set_option linter.unusedVariables false
set_option linter.unnecessarySimpa false
open Go.RowKit
def gN (n : Nat) (ls : List ByteArray) : Dsk := ⟨false, -1, n, (cat ls).length, cat ls⟩
theorem calmN_step {n : Nat} {S : St} {ls : List ByteArray} (hl : (cat ls).length + 201 ≤ n) (s : ByteArray) :
    hdoF runF (gN n ls) S ls false s = if (doF runF S s).err = 0 then ⟨0, (doF runF S s).out, gN n (ls ++ [s]), (doF runF S s).st, ls ++ [s], false⟩ else ⟨(doF runF S s).err, bs [], gN n ls, S, ls, false⟩ := by
  unfold hdoF
  rw [if_neg (by simp)]
  by_cases he : (doF runF S s).err = 0
  · rw [if_pos he, if_pos he]
    have hsz := doF_size he
    have hzz : s.data.toList.length = s.size := by simp
    have ea : appendF (gN n ls) (s.data.toList ++ [10]) = (0, { gN n ls with bytes := cat ls ++ (s.data.toList ++ [10]) }) := by
      unfold appendF
      rw [if_neg (by simp only [gN, List.length_append, List.length_cons, List.length_nil]; omega)]
      simp [onF, gN]
    rw [ea]
    dsimp only
    rw [if_pos rfl]
    have es : syncF { gN n ls with bytes := cat ls ++ (s.data.toList ++ [10]) } = (0, gN n (ls ++ [s])) := by
      simp [syncF, onF, gN, cat_snoc]
    rw [es]
    simp
  · rw [if_neg he, if_neg he]
theorem getD_mem (a : List (List ByteArray)) (i : Nat) : a.getD i [] = [] ∨ a.getD i [] ∈ a := by
  by_cases e : i < a.length
  · right; simp [List.getD, List.getElem?_eq_getElem e]
  · left; simp [List.getD, List.getElem?_eq_none (Nat.le_of_not_lt e)]
def linesOf (done : List LOp) (all : List (List ByteArray)) : List ByteArray := done.flatMap fun o => if o.2.1 = 2 then all.getD (o.1 - 1).toNat [] else []
theorem linesOf_snoc (done : List LOp) (o : LOp) (all : List (List ByteArray)) : linesOf (done ++ [o]) all = linesOf done all ++ (if o.2.1 = 2 then all.getD (o.1 - 1).toNat [] else []) := by simp [linesOf]
theorem linesOf_take_le (done : List LOp) (all : List (List ByteArray)) (i : Nat) : (linesOf (done.take i) all).length ≤ (linesOf done all).length := by
  conv => rhs; rw [← List.take_append_drop i done]
  unfold linesOf
  rw [List.flatMap_append, List.length_append]
  omega
theorem linesOf_mem {done : List LOp} {all : List (List ByteArray)} {s : ByteArray} (h : s ∈ linesOf done all) : ∃ t ∈ all, s ∈ t := by
  unfold linesOf at h
  obtain ⟨o, _, ho⟩ := List.mem_flatMap.1 h
  split at ho
  · rcases getD_mem all (o.1 - 1).toNat with e | e
    · rw [e] at ho; cases ho
    · exact ⟨_, e, ho⟩
  · cases ho
theorem linesOf_len {all : List (List ByteArray)} {m : Nat} (hm : ∀ t ∈ all, t.length ≤ m) : ∀ done : List LOp, (linesOf done all).length ≤ done.length * m
  | [] => by simp [linesOf]
  | o :: l => by
    have ih := linesOf_len hm l
    have e : linesOf (o :: l) all = (if o.2.1 = 2 then all.getD (o.1 - 1).toNat [] else []) ++ linesOf l all := rfl
    have h1 : (if o.2.1 = 2 then all.getD (o.1 - 1).toNat [] else []).length ≤ m := by
      split
      · rcases getD_mem all (o.1 - 1).toNat with e | e
        · rw [e]; exact Nat.zero_le _
        · exact hm _ e
      · simp
    rw [e, List.length_append, List.length_cons, Nat.succ_mul]
    omega
theorem HouseAt.app {base b : Nat} {w w' : World} {H : HV} {D : Dsk} {S : St} {ls : List ByteArray} {lost : Bool} {v v' : Value} {n m : Nat} {e : TypeId} {size : Nat} {xs news : List Value} (h : HouseAt base w H D S ls lost) (a : App w b e size v n xs m news v' w')
    (hv : ∀ k, v.ownBlock = some k → ¬ H.tp k ∧ ¬ H.V.fp k) : HouseAt base w' H D S ls lost ∧ ∀ k, v'.ownBlock = some k → ¬ H.tp k ∧ ¬ H.V.fp k := by
  refine ⟨h.keep a.keep (fun i hi e => (hv i e).1 hi) (fun i hi e => (hv i e).2 hi), fun k hk => ?_⟩
  rcases a.fresh with f | ⟨g, f, hg⟩
  · exact hv k (f ▸ hk)
  · rw [f] at hk
    have e : g = k := Option.some.inj hk
    exact ⟨fun t => by have := h.tp_lt k t; omega, fun t => by have := h.fp_lt k t; omega⟩
structure DayAt (base n : Nat) (w1 : World) (H : HV) (S : St) (ls L : List ByteArray) (vo : Value) (H' : HV) (S' : St) (os ds : List ByteArray) (wx : World) : Prop where
  dayed : Dayed S L os ds S'
  at_ : HouseAt base wx H' (gN n (ls ++ ds)) S' (ls ++ ds) false
  chg : HChg w1 H H' wx
  out : wx.ownsRow w1.heap.size 9 1 vo os.length (strCells os)
  ap : ∀ k, vo.ownBlock = some k → ¬ H'.tp k ∧ ¬ H'.V.fp k
theorem DayAt.start {base n : Nat} {w1 : World} {H : HV} {S : St} {ls : List ByteArray} (h : HouseAt base w1 H (gN n ls) S ls false) : DayAt base n w1 H S ls [] (.slice none 0 0) H S [] [] w1 :=
  ⟨.nil _, by rw [List.append_nil]; exact h, HChg.refl _ _, World.ownsRow_nil _ _ _ _, fun k e => by cases e⟩
theorem DayAt.idle {base n : Nat} {w1 wx wy : World} {H H' : HV} {S S' : St} {ls L os ds : List ByteArray} {vo : Value} (h : DayAt base n w1 H S ls L vo H' S' os ds wx) (k : Keep (fun _ => False) wx wy) : DayAt base n w1 H S ls L vo H' S' os ds wy :=
  ⟨h.dayed, h.at_.idle k, h.chg.trans (HChg.idle H' k), ownsRow_keep h.out k (fun _ _ e => e), h.ap⟩
theorem DayAt.mid {base n : Nat} {w1 wx wy : World} {H H' H2 : HV} {S S' : St} {ls L os ds : List ByteArray} {vo : Value} (h : DayAt base n w1 H S ls L vo H' S' os ds wx) (c : HChg wx H' H2 wy) :
    wy.ownsRow w1.heap.size 9 1 vo os.length (strCells os) ∧ (∀ k, vo.ownBlock = some k → ¬ H2.tp k ∧ ¬ H2.V.fp k) ∧ HChg w1 H H2 wy := by
  refine ⟨ownsRow_keep h.out c.keep (fun g hg e => (h.ap g hg).1 e), fun k hk => ⟨fun e => ?_, fun e => ?_⟩, h.chg.trans c⟩
  · rcases c.tp k e with q | q
    · exact (h.ap k hk).1 q
    · have := (ownsRow_lt h.out k hk).2; omega
  · rcases c.fp k e with q | q
    · exact (h.ap k hk).2 q
    · have := (ownsRow_lt h.out k hk).2; omega
theorem HChg.app {w1 wy wz : World} {H H2 : HV} (c : HChg w1 H H2 wy) {v v' : Value} {n m : Nat} {e : TypeId} {size : Nat} {xs news : List Value} (ho : wy.ownsRow w1.heap.size e size v n xs) {b : Nat} (a : App wy b e size v n xs m news v' wz) : HChg w1 H H2 wz :=
  ⟨c.h, c.d, c.tp, c.fp, c.keep.trans a.keep (fun k hk q => by have := (ownsRow_lt ho k q).1; omega)⟩
theorem DayAt.ok {base n : Nat} {w1 wx wy wz : World} {H H' H2 : HV} {S S' : St} {ls L os ds : List ByteArray} {vo v' : Value} {s : ByteArray} (h : DayAt base n w1 H S ls L vo H' S' os ds wx) (he : (doF runF S' s).err = 0) (c : HChg wx H' H2 wy)
    (h' : HouseAt base wy H2 (gN n (ls ++ ds ++ [s])) (doF runF S' s).st (ls ++ ds ++ [s]) false) (a : App wy w1.heap.size 9 1 vo os.length (strCells os) 1 [.string (doF runF S' s).out] v' wz) :
    DayAt base n w1 H S ls (L ++ [s]) v' H2 (doF runF S' s).st (os ++ [(doF runF S' s).out]) (ds ++ [s]) wz := by
  obtain ⟨h1, h2, h3⟩ := h.mid c
  obtain ⟨h4, h5⟩ := h'.app a h2
  refine ⟨h.dayed.snoc he, by rw [← List.append_assoc]; exact h4, h3.app h1 a, ?_, h5⟩
  have := a.own
  rw [List.length_append, show strCells (os ++ [(doF runF S' s).out]) = strCells os ++ [.string (doF runF S' s).out] by simp [strCells]]
  exact this
theorem DayAt.bad {base n : Nat} {w1 wx wy wz : World} {H H' H2 : HV} {S S' : St} {ls L os ds : List ByteArray} {vo v' : Value} {s : ByteArray} (h : DayAt base n w1 H S ls L vo H' S' os ds wx) (he : (doF runF S' s).err ≠ 0) (c : HChg wx H' H2 wy)
    (h' : HouseAt base wy H2 (gN n (ls ++ ds)) S' (ls ++ ds) false) (a : App wy w1.heap.size 9 1 vo os.length (strCells os) 1 [.string bang] v' wz) :
    DayAt base n w1 H S ls (L ++ [s]) v' H2 S' (os ++ [bang]) ds wz := by
  obtain ⟨h1, h2, h3⟩ := h.mid c
  obtain ⟨h4, h5⟩ := h'.app a h2
  refine ⟨h.dayed.snoc_bad he, h4, h3.app h1 a, ?_, h5⟩
  have := a.own
  rw [List.length_append, show strCells (os ++ [bang]) = strCells os ++ [.string bang] by simp [strCells]]
  exact this
end Go.Proofs.YthdkamnclbfehaaGreatDoor
/- What the walk of house.collect needs. -/
namespace Go.Proofs.YthdkamnclbfehaaGreatDoor
set_option linter.unusedSimpArgs false
set_option linter.unusedVariables false
set_option linter.unnecessarySimpa false
open Go.RowKit
theorem info148 : (Tryz.prog.info? 148).map (fun i => (i.zero, i.size, i.bytes)) = some (some (.agg #[.slice none 0 0]), 1, 24) := by kernel_rfl
theorem enters106 : Enters 106 := enters_of Tryz.func106 (by kernel_rfl) rfl
def okC (c : CS) : Bool := !(c.all.any fun t => decide (6 < t.length)) && (decide (c.all.length ≤ 6) && decide (c.h.length ≤ 40))
def ColPost (w : World) (l : List CallR) (e : Ending) (w' : World) : Prop :=
  ∃ va vs vh, e = .returned (.tuple #[va, vh, .bool (okC (dayF l))]) ∧ TxAt w.heap.size w' va vs (dayF l).all ∧ w'.ownsRow w.heap.size 146 3 vh (dayF l).h.length (opsC (dayF l).h) ∧ Keep (fun _ => False) w w'
def ColRel (w : World) (l : List CallR) (bc : Nat) (s37 s2 s3 : Value) (wx : World) : Prop :=
  ∃ (j : Nat) (vs : List Value), j ≤ l.length ∧ s37 = .int .i64 j ∧ ColAt w.heap.size wx w.heap.size bc (bc + 1) (endsF l) s2 vs s3 ((l.take j).foldl (colS (endsF l)) c00) (l.length + 2 * j) ∧ Keep (fun _ => False) w wx
theorem kI3 {x : Int} (h : 0 ≤ x ∧ x ≤ 3) : (kI x).wf = true := kI_wf h.1 (by omega)
theorem small_wrap {x : Int} (h : 0 ≤ x ∧ x ≤ 1000000) : IntKind.i64.wrap x = x := IntWalk.i64_in _ (by omega)
def opsUp (t : Int) (its : List Int) (k m : Nat) : List LOp := ((List.range k).flatMap fun (q : Nat) => its.map fun i => (t, (q : Int), i)) ++ (its.take m).map fun i => (t, (k : Int), i)
theorem opsUp_start (t : Int) (its : List Int) : opsUp t its 0 0 = [] := by simp [opsUp]
theorem opsUp_next (t : Int) (its : List Int) (k : Nat) : opsUp t its k its.length = opsUp t its (k + 1) 0 := by
  unfold opsUp
  rw [List.range_succ, List.flatMap_append]
  simp
theorem opsUp_snoc (t : Int) (its : List Int) (k m : Nat) {x : Int} (h : its[m]? = some x) : opsUp t its k (m + 1) = opsUp t its k m ++ [(t, (k : Int), x)] := by
  unfold opsUp
  rw [List.take_add_one, h]
  simp
theorem opsUp_two (t : Int) (its : List Int) : opsUp t its 2 0 = its.map (fun i => (t, 0, i)) ++ its.map (fun i => (t, 1, i)) := by
  unfold opsUp
  rw [show List.range 2 = [0, 1] from rfl]
  simp
theorem opsUp_len (t : Int) (its : List Int) (k m : Nat) (hk : k ≤ 2) (hi : its.length ≤ 4) : (opsUp t its k m).length ≤ 12 := by
  have h1 : (its.take m).length ≤ 4 := by rw [List.length_take]; omega
  unfold opsUp
  rw [List.length_append, List.length_map]
  rcases (by omega : k = 0 ∨ k = 1 ∨ k = 2) with rfl | rfl | rfl
  · simp; simp at h1; omega
  · rw [show List.range 1 = [0] from rfl]; simp; simp at h1; omega
  · rw [show List.range 2 = [0, 1] from rfl]; simp; simp at h1; omega
def lineK (c : CS) (t : Int) (s : ByteArray) (k m : Nat) : CS :=
  { c with all := c.all.set (t - 1).toNat (c.all.getD (t - 1).toNat [] ++ [s]), h := c.h ++ opsUp t (itemsF s) k m }
theorem lineK_start (c : CS) (t : Int) (s : ByteArray) : lineK c t s 0 0 = { c with all := c.all.set (t - 1).toNat (c.all.getD (t - 1).toNat [] ++ [s]) } := by
  unfold lineK; rw [opsUp_start, List.append_nil]
theorem lineK_two (c : CS) (t : Int) (s : ByteArray) : lineK c t s 2 0 = lineS c t s := by
  unfold lineK lineS; rw [opsUp_two, List.append_assoc]
theorem lineK_snoc (c : CS) (t : Int) (s : ByteArray) (k m : Nat) {x : Int} (h : (itemsF s)[m]? = some x) : lineK c t s k (m + 1) = { lineK c t s k m with h := (lineK c t s k m).h ++ [(t, (k : Int), x)] } := by
  unfold lineK; rw [opsUp_snoc _ _ _ _ h, List.append_assoc]
theorem colS_over {ends : Int → Int} {c : CS} {x : Int} {y : ByteArray} (h : c.over x = ends x) : colS ends c (x, y) = c := by
  unfold colS; rw [if_pos h]
theorem colS_skip {ends : Int → Int} {c : CS} {x : Int} {y : ByteArray} (h : c.over x ≠ ends x) (h0 : c.cur x = 0) (hy : y = endB) : colS ends c (x, y) = { c with over := upI c.over x (c.over x + 1) } := by
  unfold colS; rw [if_neg h, if_pos ⟨h0, hy⟩]
theorem colS_end {ends : Int → Int} {c : CS} {x : Int} {y : ByteArray} (h : c.over x ≠ ends x) (h0 : c.cur x ≠ 0) (hy : y = endB) : colS ends c (x, y) = endCS c x (c.cur x) := by
  unfold colS; rw [if_neg h, if_neg (fun q => h0 q.1), if_pos hy]
theorem colS_line {ends : Int → Int} {c : CS} {x : Int} {y : ByteArray} (h : c.over x ≠ ends x) (hy : y ≠ endB) : colS ends c (x, y) = lineS (newS c x) ((newS c x).cur x) y := by
  unfold colS; rw [if_neg h, if_neg (fun q => hy q.2), if_neg hy]
theorem ColAt.idleApp {base be bc bo n : Nat} {w W w' : World} {ends : Int → Int} {va vh v v' : Value} {vs : List Value} {c : CS} {b m k : Nat} {e : TypeId} {size : Nat} {xs news : List Value} (h : ColAt base w be bc bo ends va vs vh c n) (_ : App W b e size v m xs k news v' w') (q : Keep (fun _ => False) w W) : ColAt base W be bc bo ends va vs vh c n := h.idle q
theorem row_cell {w : World} {base : Nat} {e : TypeId} {g n cap : Nat} {xs : List Value} (h : w.ownsRow base e 1 (.slice (some ⟨g, 0, none⟩) n cap) n xs) {i : Nat} {u : Value} (hu : xs[i]? = some u) : w.cell? ⟨g, i, none⟩ = some u ∧ w.frozen? ⟨g, i, none⟩ = false := by
  rcases h.2 with ⟨hv, _⟩ | ⟨g', c, cur, hv, hb, hgg, hnc, hcm, hcs, htake⟩
  · cases hv
  · cases hv
    refine ⟨?_, by simp [World.frozen?, hgg]⟩
    rw [cell_of_row w g i cur e (0, 0) hgg]
    rw [← htake, List.getElem?_take] at hu
    split at hu
    · simpa using hu
    · cases hu
theorem end_t {y : ByteArray} (h : y = endB) : (y.toList == [101, 110, 100]) = true := beq_iff_eq.2 ((toList_bs _ _).2 h)
theorem end_f {y : ByteArray} (h : y ≠ endB) : (y.toList == [101, 110, 100]) = false := beq_eq_false_iff_ne.2 (fun q => h ((toList_bs _ _).1 q))
end Go.Proofs.YthdkamnclbfehaaGreatDoor
/- house.collect, walked: the transactions of calls, and their history. -/
namespace Go.Proofs.YthdkamnclbfehaaGreatDoor
set_option linter.unusedSimpArgs false
set_option linter.unusedVariables false
set_option linter.unnecessarySimpa false
open Go.RowKit
set_option maxHeartbeats 16000000 in
set_option maxRecDepth 100000 in
theorem collect_any {w : World} {v : Value} {l : List CallR} (hG : Glob w) (hr : Rd w 2 v l.length (callsC l)) (hl : l.length ≤ 12)
    (hgood : ∀ c ∈ l, (0 ≤ c.1 ∧ c.1 ≤ 3) ∧ c.2.size ≤ 9223372036854775807 ∧ (c.2 = endB ∨ ∃ so f a, formF c.2 = some (so, f, a))) :
    Calls Tryz.prog 72 #[v] w (ColPost w l) := by
  obtain ⟨ao, cap, rfl, _⟩ := hr.shape
  have HR := Lib.hid hr; have HG := Lib.hid hG; have HGD := Lib.hid hgood; clear hr hG hgood
  have hmm := @run_makeMap Tryz.prog
  go_enter Tryz.func72, Tryz.ntmps72
  go_wp2_with fail
  go_loopw [20] (fun v20 wr => ∃ j : Nat, j ≤ l.length ∧ v20 = .int .i64 j ∧ Cnt wr w.heap.size j ((l.take j).foldl endsS (fun _ => 0)) ∧ Keep (fun _ => False) w wr) (fun v _ => l.length - (intOf v).toNat)
  case atStart => exact ⟨0, by omega, rfl, Cnt.made w, (Keep.refl _ _).alloc _⟩
  case round =>
    obtain ⟨j, hj, rfl, hcn, hk⟩ := hrel
    have HCN := Lib.hid hcn; have HK := Lib.hid hk; clear hcn hk
    by_cases hjl : j < l.length
    · obtain ⟨g, o, cp, p, hvv, hp, e0, e1⟩ := rd_call (HR.out.keep HK.out (fun _ _ e => e)) hjl
      obtain ⟨x, y⟩ := p
      injection hvv with h1 h2 h3
      subst h1
      have hj1 : ((j : Int) < (l.length : Int)) = True := eq_true (by omega)
      have hj0 : ((0 : Int) ≤ (j : Int)) = True := eq_true (by omega)
      have hw : IntKind.i64.wrap ((j : Int) + 1) = ((j + 1 : Nat) : Int) := by rw [show ((j : Int) + 1) = ((j + 1 : Nat) : Int) by omega]; exact IntWalk.i64_in _ (by omega)
      have hxy := HGD.out _ (List.mem_of_getElem? hp)
      have hek := ends_take l j x
      obtain ⟨f, hf⟩ : ∃ f, (l.take j).foldl endsS (fun _ => 0) = f := ⟨_, rfl⟩
      rw [hf] at hek
      have HSN : Hid ((l.take (j + 1)).foldl endsS (fun _ => 0) = endsS f (x, y)) := Lib.hid (by rw [fold_snoc _ _ _ hp, hf])
      have HC : Hid (Cnt wr w.heap.size j f) := Lib.hid (hf ▸ HCN.out)
      have HJL := Lib.hid hjl
      have hx3 := kI3 hxy.1
      clear HCN hf h2 h3 hp hjl hxy
      by_cases hye : y = endB
      · have z := end_t hye
        have HE : Hid (endsS f (x, y) = upI f x (f x + 1)) := Lib.hid (by unfold endsS; rw [if_pos hye])
        have hlk := (HC.out.keep ((Keep.refl (fun _ => False) wr).alloc (.cells #[.int .i64 x, .string y] 129)) (fun e => e)).look Tryz.underlying187 hx3
        obtain ⟨w2, hrun, hc2, hk2, _⟩ := (HC.out.keep ((Keep.refl (fun _ => False) wr).alloc (.cells #[.int .i64 x, .string y] 129)) (fun e => e)).store Tryz.underlying187 (by unfold maxLen; omega) hx3 (f x + 1)
        have hw2 : IntKind.i64.wrap (f x + 1) = f x + 1 := small_wrap (by omega)
        have HC2 := Lib.hid hc2
        have HK2 := Lib.hid ((HK.out.alloc (.cells #[.int .i64 x, .string y] 129)).trans hk2 (fun k hk e => by have e' : k = w.heap.size := e; omega))
        clear hye hc2 hk2
        go_wp2_with fail
        go_roundw
        case rel => exact ⟨j + 1, by have := HJL.out; omega, rfl, by rw [HSN.out, HE.out]; exact HC2.out, HK2.out⟩
        case measure => have := HJL.out; simp [intOf]; omega
      · have z := end_f hye
        have HE : Hid (endsS f (x, y) = f) := Lib.hid (by unfold endsS; rw [if_neg hye])
        clear hye
        go_wp2_with fail
        go_roundw
        case rel => exact ⟨j + 1, by have := HJL.out; omega, rfl, by rw [HSN.out, HE.out]; exact (HC.out.keep ((Keep.refl (fun _ => False) wr).alloc _) (fun e => e)).mono (Nat.le_succ _), HK.out.alloc _⟩
        case measure => have := HJL.out; simp [intOf]; omega
    · have hj1 : ((j : Int) < (l.length : Int)) = False := eq_false (by omega)
      have hc0 : ColAt w.heap.size ((wr.alloc (.map #[] 0)).alloc (.map #[] 0)) w.heap.size wr.heap.size (wr.heap.size + 1) (endsF l) (.slice none 0 0) [] (.slice none 0 0) c00 (l.length + 2 * 0) := by
        have hsz := HK.out.size
        have hlt := HCN.out.lt
        have e1 := HCN.out
        rw [List.take_of_length_le (by omega)] at e1
        have e3 := Cnt.made (wr.alloc (.map #[] 0))
        rw [World.size_alloc] at e3
        exact ⟨(e1.keep (((Keep.refl (fun _ => False) wr).alloc _).alloc _) (fun e => e)).mono (by omega), ((Cnt.made wr).keep ((Keep.refl (fun _ => False) _).alloc _) (fun e => e)).mono (by omega), e3.mono (by omega), ⟨by omega, by omega, by omega⟩, ⟨Nat.le_refl _, hsz, by omega⟩, TxAt.start _ _, World.ownsRow_nil _ _ _ _⟩
      have HC0 := Lib.hid hc0
      have HK0 : Hid (Keep (fun _ => False) w ((wr.alloc (.map #[] 0)).alloc (.map #[] 0))) := Lib.hid ((HK.out.alloc _).alloc _)
      clear hc0 hjl HCN
      go_wp2_with fail
      obtain ⟨bc, hbc⟩ : ∃ bc, wr.heap.size = bc := ⟨_, rfl⟩
      rw [hbc] at HC0 ⊢
      clear hbc
      go_loopw [37, 2, 3] (fun s37 s2 s3 wx => ColRel w l bc s37 s2 s3 wx) (fun s37 _ _ _ => l.length - (intOf s37).toNat)
      case atStart => exact ⟨0, [], Nat.zero_le _, rfl, HC0.out, HK0.out⟩
      case round =>
        clear HC0 HK0 HK hj1
        obtain ⟨j, vs, hj, rfl, hcol, hk⟩ := hrel
        have hinv := take_inv l j hj
        obtain ⟨c, hc⟩ : ∃ c, (l.take j).foldl (colS (endsF l)) c00 = c := ⟨_, rfl⟩
        rw [hc] at hcol hinv
        obtain ⟨ao2, cap2, rfl, _⟩ := ownsRow_shape hcol.tx.row
        obtain ⟨hao, hcap, rfl, _⟩ := ownsRow_shape hcol.h
        have HCOL := Lib.hid hcol; have HK := Lib.hid hk; have HI := Lib.hid hinv
        have hilen := hinv.len
        have hihlen := hinv.h
        clear hcol hk
        by_cases hjl : j < l.length
        · obtain ⟨g, o, cp, p, hvv, hp, e0, e1⟩ := rd_call (HR.out.keep HK.out (fun _ _ e => e)) hjl
          obtain ⟨x, y⟩ := p
          injection hvv with h1 h2 h3
          subst h1
          have hj1 : ((j : Int) < (l.length : Int)) = True := eq_true (by omega)
          have hj0 : ((0 : Int) ≤ (j : Int)) = True := eq_true (by omega)
          have hw : IntKind.i64.wrap ((j : Int) + 1) = ((j + 1 : Nat) : Int) := by rw [show ((j : Int) + 1) = ((j + 1 : Nat) : Int) by omega]; exact IntWalk.i64_in _ (by omega)
          have hxy := HGD.out _ (List.mem_of_getElem? hp)
          have hx3 := kI3 hxy.1
          have HXY := Lib.hid hxy.2
          have HSN : Hid ((l.take (j + 1)).foldl (colS (endsF l)) c00 = colS (endsF l) c (x, y)) := Lib.hid (by rw [fold_snoc _ _ _ hp, hc])
          have HJL := Lib.hid hjl
          have hov12 := hinv.over x
          have hcu12 := hinv.cur x
          clear h2 h3 hp hjl hxy hc hinv
          go_upto_region 13 with fail
          obtain ⟨w1, hw1⟩ : ∃ w1, w1 = wr.alloc (.cells #[.int .i64 x, .string y] 129) := ⟨_, rfl⟩
          obtain ⟨r, hre⟩ : ∃ r, r = wr.heap.size := ⟨_, rfl⟩
          have hk1 : Keep (fun _ => False) wr w1 := by rw [hw1]; exact (Keep.refl _ _).alloc _
          have HB1 : Hid (Blk w1 r #[.int .i64 x, .string y] 129) := Lib.hid (by rw [hw1, hre]; exact Blk.new _ _ _)
          have HC1 := Lib.hid (HCOL.out.idle hk1)
          have HK1 := Lib.hid (HK.out.trans hk1 (fun _ _ e => e))
          rw [← hw1, ← hre]
          clear hw1 hk1 hre e0 e1 HCOL
          have b0 : w1.cell? ⟨r, 0, none⟩ = some (.int .i64 x) := HB1.out.cell 0
          have b1 : w1.cell? ⟨r, 1, none⟩ = some (.string y) := HB1.out.cell 1
          have hle := HC1.out.e.look Tryz.underlying187 hx3
          have hlc := HC1.out.c.look Tryz.underlying187 hx3
          have hlo := HC1.out.o.look Tryz.underlying187 hx3
          have hwo : IntKind.i64.wrap (c.over x + 1) = c.over x + 1 := small_wrap (by omega)
          by_cases hov : c.over x = endsF l x
          · have z : (c.over x == endsF l x) = true := beq_iff_eq.2 hov
            have HS := Lib.hid (colS_over (y := y) hov)
            clear hov
            go_wp2_with fail
            go_roundw
            case rel => exact ⟨j + 1, vs, HJL.out, rfl, by rw [HSN.out, HS.out]; exact HC1.out.mono (by omega), HK1.out⟩
            case measure => have := HJL.out; simp [intOf]; omega
          · have z : (c.over x == endsF l x) = false := beq_eq_false_iff_ne.2 hov
            by_cases hye : y = endB
            · have zy := end_t hye
              by_cases hcu : c.cur x = 0
              · have zc : (c.cur x == 0) = true := beq_iff_eq.2 hcu
                have HS := Lib.hid (colS_skip hov hcu hye)
                obtain ⟨w2, hrun, hc2, hk2, _⟩ := HC1.out.over Tryz.underlying187 (by omega) hx3 (c.over x + 1)
                have HC2 := Lib.hid hc2
                have HK2 := Lib.hid (HK1.out.trans hk2 (fun k hk e => by omega))
                clear hov hcu hye hc2 hk2
                go_wp2_with fail
                go_roundw
                case rel => exact ⟨j + 1, vs, HJL.out, rfl, by rw [HSN.out, HS.out]; exact HC2.out.mono (by omega), HK2.out⟩
                case measure => have := HJL.out; simp [intOf]; omega
              · have zc : (c.cur x == 0) = false := beq_eq_false_iff_ne.2 hcu
                have HS := Lib.hid (colS_end hov hcu hye)
                clear hov hcu hye
                go_wp2_with (at_builtin; refine wpList_app (w := w1.alloc (.cells #[.int .i64 (c.cur x), .int .i64 2, .int .i64 0] 146)) rfl (.tmp 86) (.tmp 89) 140 140 rfl 146 (.agg #[.int .i64 0, .int .i64 0, .int .i64 0]) 3 24 Tryz.underlying140 info146 rfl (HC1.out.h.alloc _) rfl (Src.new (P := Tryz.prog) Tryz.underlying140 w1 1 [.int .i64 (c.cur x), .int .i64 2, .int .i64 0] 146 rfl (by simp [Value.oneCell'])) rfl (by unfold maxLen; omega) (by omega) (Nat.le_trans HK1.out.size (by simp)) ?_; intro v' wa happ; go_loud (obtain ⟨hA, hkA, hbA⟩ := (HC1.out.idle ((Keep.refl (fun _ => False) w1).alloc _)).op (o := (c.cur x, 2, 0)) happ; have hlo2 := hA.o.look Tryz.underlying187 hx3; obtain ⟨w5, hr5, hA5, hk5, hb5⟩ := hA.over Tryz.underlying187 (by omega) hx3 (c.over x + 1); obtain ⟨w6, hr6, hA6, hk6, hb6⟩ := hA5.cur Tryz.underlying187 (by omega) hx3 0; have hq := hbA _ _ ((HB1.out.alloc _)); have f0 : wa.cell? ⟨r, 0, none⟩ = some (.int .i64 x) := hq.cell 0; have f1 : w5.cell? ⟨r, 0, none⟩ = some (.int .i64 x) := (hb5 _ _ hq).cell 0; have HA6 := Lib.hid hA6; have HK6 := Lib.hid (((((HK1.out.alloc _).trans hkA (fun k hk e => by omega)).trans hk5 (fun k hk e => by omega)).trans hk6 (fun k hk e => by omega))); clear happ hA hkA hbA hA5 hk5 hb5 hA6 hk6 hb6 hq))
                go_roundw
                case rel => exact ⟨j + 1, vs, HJL.out, rfl, by rw [HSN.out, HS.out]; exact HA6.out.mono (by omega), HK6.out⟩
                case measure => have := HJL.out; simp [intOf]; omega
            · have zy := end_f hye
              have HS := Lib.hid (colS_line (x := x) hov hye)
              obtain ⟨so, fm, fa, hform⟩ := HXY.out.2.resolve_left hye
              have HFM := Lib.hid hform
              have HIT : Hid (itemsF y = touchB y fa) := Lib.hid (by unfold itemsF; rw [hform])
              have HNW := Lib.hid (HI.out.new x)
              clear hov hye hform
              by_cases hcu : c.cur x = 0
              · have zc : (c.cur x == 0) = true := beq_iff_eq.2 hcu
                have HN : Hid (newS c x = { c with all := c.all ++ [[]], cur := upI c.cur x ((c.all.length : Int) + 1) }) := Lib.hid (by unfold newS; rw [if_pos hcu])
                clear hcu
                go_upto_region 19 with (at_builtin; go_loud (refine wpList_app (w := w1.alloc (.cells #[.slice none 0 0] 148)) rfl (.tmp 70) (.tmp 72) 138 138 rfl 148 (.agg #[.slice none 0 0]) 1 24 Tryz.underlying138 info148 rfl (HC1.out.tx.row.alloc _) rfl (Src.new (P := Tryz.prog) Tryz.underlying138 w1 1 [.slice none 0 0] 148 rfl (by simp [Value.oneCell'])) rfl (by unfold maxLen; omega) (by omega) (Nat.le_trans HK1.out.size (by simp)) ?_); intro v' wa happ; go_loud (obtain ⟨ao9, cap9, rfl, _⟩ := ownsRow_shape happ.own; obtain ⟨hA, hkA, hbA⟩ := (HC1.out.idle ((Keep.refl (fun _ => False) w1).alloc _)).new happ; obtain ⟨w5, hr5, hA5, hk5, hb5⟩ := hA.cur Tryz.underlying187 (by omega) hx3 ((c.all.length : Int) + 1); have hq := hbA _ _ ((HB1.out.alloc _)); have f0 : wa.cell? ⟨r, 0, none⟩ = some (.int .i64 x) := hq.cell 0; have HB5 := Lib.hid (hb5 _ _ hq); have HA5 := Lib.hid hA5; have HK5 := Lib.hid ((((HK1.out.alloc _).trans hkA (fun k hk e => by omega)).trans hk5 (fun k hk e => by omega))); clear happ hA hkA hbA hA5 hk5 hb5 hq))
                obtain ⟨va1, hva1⟩ : ∃ va1, va1 = Value.slice ao9 (c.all.length + 1) cap9 := ⟨_, rfl⟩
                have hcc := HA5.out
                have hkc := HK5.out
                have hbc := HB5.out
                rw [← hva1] at hcc
                rw [← hva1]
                have hcc : ColAt w.heap.size w5 w.heap.size bc (bc + 1) (endsF l) va1 (vs ++ [.slice none 0 0]) (.slice hao c.h.length hcap) (newS c x) (l.length + 2 * j + 1) := by rw [HN.out]; exact hcc
                obtain ⟨vs1, hvs1⟩ : ∃ vs1, vs ++ [Value.slice none 0 0] = vs1 := ⟨_, rfl⟩
                rw [hvs1] at hcc
                clear hva1 hvs1 HA5 HK5 HB5 hr5 f0 hle hlc hlo b0 b1 HC1 HK1 HB1 hov12 hcu12 HI HN zc
                obtain ⟨n1, n2, _, n4, n5, n6, _⟩ := HNW.out
                obtain ⟨c1, hc1⟩ : ∃ c1, newS c x = c1 := ⟨_, rfl⟩
                rw [hc1] at hcc n1 n2 n4 n5 n6 HS
                have hch : c.h.length = c1.h.length := by rw [n6]
                rw [hch] at hcc hihlen ⊢
                have hcur1 := n1 x
                obtain ⟨tt, htt⟩ : ∃ tt, c1.cur x = tt := ⟨_, rfl⟩
                rw [htt] at n2 hcur1 HS
                obtain ⟨i, hi⟩ : ∃ i : Nat, tt = (i : Int) + 1 := ⟨(tt - 1).toNat, by omega⟩
                have hil : i < c1.all.length := by omega
                have hil2 : i < vs1.length := by rw [hcc.tx.len]; exact hil
                obtain ⟨ao1, cap1, hva2, hle1, _, hnil1, hspot1⟩ := ownsRow_shape hcc.tx.row
                subst hva2
                obtain ⟨g1, hg1⟩ : ∃ g1, ao1 = some ⟨g1, 0, none⟩ := by
                  rcases ao1 with _ | ⟨a, b, s⟩
                  · have := (hnil1 rfl).1; omega
                  · have := hspot1 _ rfl; simp only at this; obtain ⟨rfl, rfl, _⟩ := this; exact ⟨a, rfl⟩
                subst hg1
                obtain ⟨vi, hvi⟩ : ∃ vi, vs1[i]? = some vi := ⟨_, List.getElem?_eq_getElem hil2⟩
                obtain ⟨ti, hti⟩ : ∃ ti, c1.all[i]? = some ti := ⟨_, List.getElem?_eq_getElem hil⟩
                have hown := hcc.tx.own i vi ti hvi hti
                have htil : ti.length ≤ 12 := by have := (n5 ti (List.mem_of_getElem? hti)).1; omega
                obtain ⟨tao, tcap, rfl, _⟩ := ownsRow_shape hown
                obtain ⟨a0, a1⟩ := row_cell hcc.tx.row hvi
                have a0' : (w5.alloc (.cells #[.string y] 9)).cell? ⟨g1, i, none⟩ = some (.slice tao ti.length tcap) := (((Keep.refl (fun _ => False) w5).alloc _).cell (p := ⟨g1, i, none⟩) (ownsRow_lt hcc.tx.row g1 rfl).2 (fun e => e)).trans a0
                have b0 : w5.cell? ⟨r, 0, none⟩ = some (.int .i64 x) := hbc.cell 0
                have b1 : w5.cell? ⟨r, 1, none⟩ = some (.string y) := hbc.cell 1
                have hlc := hcc.c.look Tryz.underlying187 hx3
                rw [htt] at hlc
                have hsub : IntKind.i64.wrap (tt - 1) = (i : Int) := by rw [show tt - 1 = (i : Int) by omega]; exact small_wrap (by omega)
                have hi0 : ((0 : Int) ≤ (i : Int)) = True := eq_true (by omega)
                have hi1 : ((i : Int) < (c1.all.length : Int)) = True := eq_true (by omega)
                have HSC : Hid (∀ W, Keep (fun k => k ≠ r) w5 W → W.cell? ⟨r, 1, none⟩ = some (.string y)) := Lib.hid fun W k => (hbc.keep k (fun e => e rfl)).cell 1
                have HNE : Hid (g1 ≠ r) := Lib.hid (fun e => ownsRow_blk hcc.tx.row hbc (by decide) (e ▸ rfl))
                have HNV : Hid (∀ k, (Value.slice tao ti.length tcap).ownBlock = some k → k ≠ r) := Lib.hid (fun k e q => ownsRow_blk hown hbc (by decide) (q ▸ e))
                have HRI : Hid (∀ W, Keep (fun _ => False) w5 W → W.ownsRow w.heap.size 9 1 (.slice tao ti.length tcap) ti.length (strCells ti)) := Lib.hid fun W k => ownsRow_keep hown k (fun _ _ e => e)
                have HBS := Lib.hid hkc.size
                have HVI := Lib.hid hvi; have HTI := Lib.hid hti; have HCC := Lib.hid hcc; have HKC := Lib.hid hkc; have HBC := Lib.hid hbc
                have HLE : Hid ({ c1 with all := c1.all.set i (ti ++ [y]) } = lineK c1 tt y 0 0) := Lib.hid (by
                  rw [lineK_start, show (tt - 1).toNat = i by omega]
                  congr 2
                  simp [List.getD, hti])
                clear hcc hkc hbc hown hvi hti hi htt n1 n2 n4 n5 n6 HNW hil hil2 hcur1 hc1 hnil1 hspot1 hle1
                go_upto_region 24 with fail
                go_cut [99] from 99 to 113 (fun s99 wx => ∃ vs', ColAt w.heap.size wx w.heap.size bc (bc + 1) (endsF l) (.slice (some ⟨g1, 0, none⟩) c1.all.length cap1) vs' (.slice hao c1.h.length hcap) (lineK c1 tt y 0 0) (l.length + 2 * j + 1) ∧ Keep (fun _ => False) w wx ∧ Blk wx r #[.int .i64 x, .string y] 129)
                case first =>
                  rename_i Jq Kq hJq hKq
                  refine wp_region_noPanic ?_
                  refine wp_region_held_drew (S := fun W => W.cell? ⟨r, 1, none⟩ = some (.string y)) (by kernel_rfl) (HSC.out _ ((Keep.refl _ _).drew)) (fun hHeld => ?_)
                  refine wpAnyH_take (i := 0) (oi := _) (v := ?_) rfl (by kernel_rfl) (by kernel_rfl) (by kernel_rfl) (fun _ _ _ h => h) (Or.inl ⟨by rfl, ?_⟩) (by assumption) ?_
                  rotate_left
                  · (intro w hSw; (try dsimp only at hSw); go_simp) <;> with_reducible rfl
                  (try simp only [List.getElem_toArray, List.getElem_cons_zero, List.getElem_cons_succ, Act.put, List.setIfInBounds_toArray, List.set_cons_zero, List.set_cons_succ])
                  refine wpAnyH_take (i := 1) (oi := _) (v := ?_) rfl (by kernel_rfl) (by kernel_rfl) (by kernel_rfl) (fun _ _ _ h => h) (Or.inl ⟨by rfl, ?_⟩) (by assumption) ?_
                  rotate_left
                  · (intro w hSw; (try dsimp only at hSw); go_simp) <;> with_reducible rfl
                  (try simp only [List.getElem_toArray, List.getElem_cons_zero, List.getElem_cons_succ, Act.put, List.setIfInBounds_toArray, List.set_cons_zero, List.set_cons_succ])
                  refine wpAnyH_take (i := 2) (oi := _) (v := ?_) rfl (by kernel_rfl) (by kernel_rfl) (by kernel_rfl) (fun _ _ _ h => h) (Or.inl ⟨by rfl, ?_⟩) (by assumption) ?_
                  rotate_left
                  · (intro w hSw; (try dsimp only at hSw); go_simp) <;> with_reducible rfl
                  (try simp only [List.getElem_toArray, List.getElem_cons_zero, List.getElem_cons_succ, Act.put, List.setIfInBounds_toArray, List.set_cons_zero, List.set_cons_succ])
                  refine wpAnyH_take (i := 3) (oi := _) (v := ?_) rfl (by kernel_rfl) (by kernel_rfl) (by kernel_rfl) (fun _ _ _ h => h) (Or.inl ⟨by rfl, ?_⟩) (by assumption) ?_
                  rotate_left
                  · (intro w hSw; (try dsimp only at hSw); go_simp) <;> with_reducible rfl
                  (try simp only [List.getElem_toArray, List.getElem_cons_zero, List.getElem_cons_succ, Act.put, List.setIfInBounds_toArray, List.set_cons_zero, List.set_cons_succ])
                  refine wpAnyH_take (i := 4) (oi := _) (v := ?_) rfl (by kernel_rfl) (by kernel_rfl) (by kernel_rfl) (fun _ _ _ h => h) (Or.inl ⟨by rfl, ?_⟩) (by assumption) ?_
                  rotate_left
                  · (intro w hSw; (try dsimp only at hSw); go_simp) <;> with_reducible rfl
                  (try simp only [List.getElem_toArray, List.getElem_cons_zero, List.getElem_cons_succ, Act.put, List.setIfInBounds_toArray, List.set_cons_zero, List.set_cons_succ])
                  refine wpAnyH_take (i := 5) (oi := _) (v := ?_) rfl (by kernel_rfl) (by kernel_rfl) (by kernel_rfl) (fun _ _ _ h => h) (Or.inl ⟨by rfl, ?_⟩) (by assumption) ?_
                  rotate_left
                  · (intro w hSw; (try dsimp only at hSw); go_simp) <;> with_reducible rfl
                  (try simp only [List.getElem_toArray, List.getElem_cons_zero, List.getElem_cons_succ, Act.put, List.setIfInBounds_toArray, List.set_cons_zero, List.set_cons_succ])
                  refine wpAnyH_take (i := 6) (oi := _) (v := ?_) rfl (by kernel_rfl) (by kernel_rfl) (by kernel_rfl) (fun _ _ _ h => h) (Or.inl ⟨by rfl, ?_⟩) (by assumption) ?_
                  rotate_left
                  · (intro w hSw; (try dsimp only at hSw); go_simp) <;> with_reducible rfl
                  (try simp only [List.getElem_toArray, List.getElem_cons_zero, List.getElem_cons_succ, Act.put, List.setIfInBounds_toArray, List.set_cons_zero, List.set_cons_succ])
                  refine wpAnyH_take (i := 7) (oi := _) (v := ?_) rfl (by kernel_rfl) (by kernel_rfl) (by kernel_rfl) (fun _ _ _ h => h) (Or.inl ⟨by rfl, ?_⟩) (by assumption) ?_
                  rotate_left
                  · (intro w hSw; (try dsimp only at hSw); go_simp) <;> with_reducible rfl
                  (try simp only [List.getElem_toArray, List.getElem_cons_zero, List.getElem_cons_succ, Act.put, List.setIfInBounds_toArray, List.set_cons_zero, List.set_cons_succ])
                  refine wpAnyH_take (i := 9) (oi := _) (v := ?_) rfl (by kernel_rfl) (by kernel_rfl) (by kernel_rfl) (fun _ _ _ h => h) (Or.inl ⟨by rfl, ?_⟩) (by assumption) ?_
                  rotate_left
                  · (intro w hSw; (try dsimp only at hSw); go_simp) <;> with_reducible rfl
                  (try simp only [List.getElem_toArray, List.getElem_cons_zero, List.getElem_cons_succ, Act.put, List.setIfInBounds_toArray, List.set_cons_zero, List.set_cons_succ])
                  refine wpAnyH_take (i := 10) (oi := _) (v := ?_) rfl (by kernel_rfl) (by kernel_rfl) (by kernel_rfl) (fun _ _ _ h => h) (Or.inl ⟨by rfl, ?_⟩) (by assumption) ?_
                  rotate_left
                  · (intro w hSw; (try dsimp only at hSw); go_simp) <;> with_reducible rfl
                  (try simp only [List.getElem_toArray, List.getElem_cons_zero, List.getElem_cons_succ, Act.put, List.setIfInBounds_toArray, List.set_cons_zero, List.set_cons_succ])
                  refine wpAnyH_ready (rs := [8, 11]) (by kernel_rfl) (by simp) ?_
                  refine AllReadyH.cons (o := _) rfl (fun K hK => ?_) (AllReadyH.cons (o := _) rfl (fun K hK => ?_) AllReadyH.nil)
                  · go_simp
                    refine hK.out _ _ ?_ (fun hHeld => ?_)
                    · ((try dsimp only); refine HSC.out _ ?_; repeat (first | exact HKR.out | exact Keep.refl _ _ | apply Keep.drew | apply Keep.alloc | refine Keep.setCell ?_ _ _ (fun _ => HNE.out)))
                    clear hK K
                    (try simp only [List.getElem_toArray, List.getElem_cons_zero, List.getElem_cons_succ, Act.put, List.setIfInBounds_toArray, List.set_cons_zero, List.set_cons_succ])
                    refine wpAnyH_ready (rs := [11]) (by kernel_rfl) (by simp) ?_; refine AllReadyH.cons (o := _) rfl (fun K hK => ?_) AllReadyH.nil
                    go_simp
                    refine hK.out _ _ ?_ (fun hHeld => ?_)
                    · ((try dsimp only); refine HSC.out _ ?_; repeat (first | exact HKR.out | exact Keep.refl _ _ | apply Keep.drew | apply Keep.alloc | refine Keep.setCell ?_ _ _ (fun _ => HNE.out)))
                    clear hK K
                    (try simp only [List.getElem_toArray, List.getElem_cons_zero, List.getElem_cons_succ, Act.put, List.setIfInBounds_toArray, List.set_cons_zero, List.set_cons_succ])
                    refine wpAnyH_ready (rs := [12]) (by kernel_rfl) (by simp) ?_; refine AllReadyH.cons (o := _) rfl (fun K hK => ?_) AllReadyH.nil
                    rw [if_pos (by rfl)]
                    refine oper_app (base := w.heap.size) (.tmp 107) (.tmp 110) 44 44 rfl 9 (.string ⟨#[]⟩) 1 16 Tryz.underlying44 info9 rfl (v := .slice tao ti.length tcap) (n := ti.length) (xs := strCells ti) (HRI.out _ (by repeat (first | exact Keep.refl _ _ | apply Keep.drew | apply Keep.alloc))) rfl (m := 1) (news := [.string y]) (by first | exact (Rd.new w5 1 1 [.string y] 9 rfl (by simp [Value.oneCell']) (by unfold maxLen; omega)).src Tryz.underlying44 | exact (Rd.new w5 1 1 [.string y] 9 rfl (by simp [Value.oneCell']) (by unfold maxLen; omega)).drew.src Tryz.underlying44 | exact ((Rd.new w5 1 1 [.string y] 9 rfl (by simp [Value.oneCell']) (by unfold maxLen; omega)).keep ((Keep.refl (fun _ => False) _).drew) (fun _ _ h => h)).src Tryz.underlying44) rfl (by unfold maxLen; omega) (by omega) (Nat.le_trans HBS.out (Keep.size (show Keep (fun _ => False) w5 _ by repeat (first | exact Keep.refl _ _ | apply Keep.drew | apply Keep.alloc)))) (fun v' w7 happ => ?_)
                    obtain ⟨ao7, cap7, rfl, _⟩ := ownsRow_shape happ.own
                    have hq0 := HCC.out.idleApp happ (by repeat (first | exact Keep.refl _ _ | apply Keep.drew | apply Keep.alloc))
                    have HLN := Lib.hid (hq0.line HVI.out HTI.out happ)
                    have hr7 := row_cell (ownsRow_keep hq0.tx.row happ.keep (fun b hb q => ownsRow_types (hq0.tx.own i _ ti HVI.out HTI.out) hq0.tx.row (by decide) b q hb)) HVI.out
                    obtain ⟨y1, y0⟩ := hr7
                    have HKR : Hid (Keep (fun k => k ≠ r) w5 w7) := Lib.hid (Keep.trans (show Keep (fun k => k ≠ r) w5 _ by repeat (first | exact Keep.refl _ _ | apply Keep.drew | apply Keep.alloc)) happ.keep (fun k _ e => HNV.out k e))
                    have HK7 : Hid (KB w5 (w7.setCell ⟨g1, i, none⟩ (.slice ao7 (ti.length + 1) cap7))) := Lib.hid ((KB.idle (show Keep (fun _ => False) w5 _ by repeat (first | exact Keep.refl _ _ | apply Keep.drew | apply Keep.alloc))).trans HLN.out.2.2)
                    have HKK : Hid (Keep (fun _ => False) w (w7.setCell ⟨g1, i, none⟩ (.slice ao7 (ti.length + 1) cap7))) := Lib.hid ((HKC.out.trans (show Keep (fun _ => False) w5 _ by repeat (first | exact Keep.refl _ _ | apply Keep.drew | apply Keep.alloc)) (fun _ _ e => e)).trans HLN.out.2.1 (fun k hk e => by omega))
                    clear happ hq0
                    refine hK.out _ _ ?_ (fun hHeld => ?_)
                    · ((try dsimp only); refine HSC.out _ ?_; repeat (first | exact HKR.out | exact Keep.refl _ _ | apply Keep.drew | apply Keep.alloc | refine Keep.setCell ?_ _ _ (fun _ => HNE.out)))
                    clear hK K
                    (try simp only [List.getElem_toArray, List.getElem_cons_zero, List.getElem_cons_succ, Act.put, List.setIfInBounds_toArray, List.set_cons_zero, List.set_cons_succ])
                    refine wpAnyH_take (i := 13) (oi := _) (v := ?_) rfl (by kernel_rfl) (by kernel_rfl) (by kernel_rfl) (fun _ _ _ h => h) (Or.inl ⟨by rfl, ?_⟩) (by assumption) ?_
                    rotate_left
                    · (intro w hSw; (try dsimp only at hSw); go_simp) <;> with_reducible rfl
                    (try simp only [List.getElem_toArray, List.getElem_cons_zero, List.getElem_cons_succ, Act.put, List.setIfInBounds_toArray, List.set_cons_zero, List.set_cons_succ])
                    refine wpAnyH_take (i := 14) (oi := _) (v := ?_) rfl (by kernel_rfl) (by kernel_rfl) (by kernel_rfl) (fun _ _ _ h => h) (Or.inl ⟨by rfl, ?_⟩) (by assumption) ?_
                    rotate_left
                    · (intro w hSw; (try dsimp only at hSw); go_simp) <;> with_reducible rfl
                    (try simp only [List.getElem_toArray, List.getElem_cons_zero, List.getElem_cons_succ, Act.put, List.setIfInBounds_toArray, List.set_cons_zero, List.set_cons_succ])
                    refine wpAnyH_ready (rs := [15]) (by kernel_rfl) (by simp) ?_; refine AllReadyH.cons (o := _) rfl (fun K hK => ?_) AllReadyH.nil
                    go_simp
                    refine hK.out _ _ ?_ (fun hHeld => ?_)
                    · ((try dsimp only); refine HSC.out _ ?_; repeat (first | exact HKR.out | exact Keep.refl _ _ | apply Keep.drew | apply Keep.alloc | refine Keep.setCell ?_ _ _ (fun _ => HNE.out)))
                    clear hK K
                    (try simp only [List.getElem_toArray, List.getElem_cons_zero, List.getElem_cons_succ, Act.put, List.setIfInBounds_toArray, List.set_cons_zero, List.set_cons_succ])
                    refine wpAnyH_done (by kernel_rfl) ?_ _
                    refine NoPanic.normal ?_
                    refine hKq _ _ (Met.intro (hJq _ _ ?_))
                    exact ⟨_, _, _, _, _, _, _, _, _, _, _, _, _, _, _, ⟨_, HLE.out ▸ HLN.out.1, HKK.out, HK7.out _ _ HBC.out⟩, rfl⟩
                  · go_simp
                    refine hK.out _ _ ?_ (fun hHeld => ?_)
                    · ((try dsimp only); refine HSC.out _ ?_; repeat (first | exact HKR.out | exact Keep.refl _ _ | apply Keep.drew | apply Keep.alloc | refine Keep.setCell ?_ _ _ (fun _ => HNE.out)))
                    clear hK K
                    (try simp only [List.getElem_toArray, List.getElem_cons_zero, List.getElem_cons_succ, Act.put, List.setIfInBounds_toArray, List.set_cons_zero, List.set_cons_succ])
                    refine wpAnyH_ready (rs := [8]) (by kernel_rfl) (by simp) ?_; refine AllReadyH.cons (o := _) rfl (fun K hK => ?_) AllReadyH.nil
                    go_simp
                    refine hK.out _ _ ?_ (fun hHeld => ?_)
                    · ((try dsimp only); refine HSC.out _ ?_; repeat (first | exact HKR.out | exact Keep.refl _ _ | apply Keep.drew | apply Keep.alloc | refine Keep.setCell ?_ _ _ (fun _ => HNE.out)))
                    clear hK K
                    (try simp only [List.getElem_toArray, List.getElem_cons_zero, List.getElem_cons_succ, Act.put, List.setIfInBounds_toArray, List.set_cons_zero, List.set_cons_succ])
                    refine wpAnyH_ready (rs := [12]) (by kernel_rfl) (by simp) ?_; refine AllReadyH.cons (o := _) rfl (fun K hK => ?_) AllReadyH.nil
                    rw [if_pos (by rfl)]
                    refine oper_app (base := w.heap.size) (.tmp 107) (.tmp 110) 44 44 rfl 9 (.string ⟨#[]⟩) 1 16 Tryz.underlying44 info9 rfl (v := .slice tao ti.length tcap) (n := ti.length) (xs := strCells ti) (HRI.out _ (by repeat (first | exact Keep.refl _ _ | apply Keep.drew | apply Keep.alloc))) rfl (m := 1) (news := [.string y]) (by first | exact (Rd.new w5 1 1 [.string y] 9 rfl (by simp [Value.oneCell']) (by unfold maxLen; omega)).src Tryz.underlying44 | exact (Rd.new w5 1 1 [.string y] 9 rfl (by simp [Value.oneCell']) (by unfold maxLen; omega)).drew.src Tryz.underlying44 | exact ((Rd.new w5 1 1 [.string y] 9 rfl (by simp [Value.oneCell']) (by unfold maxLen; omega)).keep ((Keep.refl (fun _ => False) _).drew) (fun _ _ h => h)).src Tryz.underlying44) rfl (by unfold maxLen; omega) (by omega) (Nat.le_trans HBS.out (Keep.size (show Keep (fun _ => False) w5 _ by repeat (first | exact Keep.refl _ _ | apply Keep.drew | apply Keep.alloc)))) (fun v' w7 happ => ?_)
                    obtain ⟨ao7, cap7, rfl, _⟩ := ownsRow_shape happ.own
                    have hq0 := HCC.out.idleApp happ (by repeat (first | exact Keep.refl _ _ | apply Keep.drew | apply Keep.alloc))
                    have HLN := Lib.hid (hq0.line HVI.out HTI.out happ)
                    have hr7 := row_cell (ownsRow_keep hq0.tx.row happ.keep (fun b hb q => ownsRow_types (hq0.tx.own i _ ti HVI.out HTI.out) hq0.tx.row (by decide) b q hb)) HVI.out
                    obtain ⟨y1, y0⟩ := hr7
                    have HKR : Hid (Keep (fun k => k ≠ r) w5 w7) := Lib.hid (Keep.trans (show Keep (fun k => k ≠ r) w5 _ by repeat (first | exact Keep.refl _ _ | apply Keep.drew | apply Keep.alloc)) happ.keep (fun k _ e => HNV.out k e))
                    have HK7 : Hid (KB w5 (w7.setCell ⟨g1, i, none⟩ (.slice ao7 (ti.length + 1) cap7))) := Lib.hid ((KB.idle (show Keep (fun _ => False) w5 _ by repeat (first | exact Keep.refl _ _ | apply Keep.drew | apply Keep.alloc))).trans HLN.out.2.2)
                    have HKK : Hid (Keep (fun _ => False) w (w7.setCell ⟨g1, i, none⟩ (.slice ao7 (ti.length + 1) cap7))) := Lib.hid ((HKC.out.trans (show Keep (fun _ => False) w5 _ by repeat (first | exact Keep.refl _ _ | apply Keep.drew | apply Keep.alloc)) (fun _ _ e => e)).trans HLN.out.2.1 (fun k hk e => by omega))
                    clear happ hq0
                    refine hK.out _ _ ?_ (fun hHeld => ?_)
                    · ((try dsimp only); refine HSC.out _ ?_; repeat (first | exact HKR.out | exact Keep.refl _ _ | apply Keep.drew | apply Keep.alloc | refine Keep.setCell ?_ _ _ (fun _ => HNE.out)))
                    clear hK K
                    (try simp only [List.getElem_toArray, List.getElem_cons_zero, List.getElem_cons_succ, Act.put, List.setIfInBounds_toArray, List.set_cons_zero, List.set_cons_succ])
                    refine wpAnyH_take (i := 13) (oi := _) (v := ?_) rfl (by kernel_rfl) (by kernel_rfl) (by kernel_rfl) (fun _ _ _ h => h) (Or.inl ⟨by rfl, ?_⟩) (by assumption) ?_
                    rotate_left
                    · (intro w hSw; (try dsimp only at hSw); go_simp) <;> with_reducible rfl
                    (try simp only [List.getElem_toArray, List.getElem_cons_zero, List.getElem_cons_succ, Act.put, List.setIfInBounds_toArray, List.set_cons_zero, List.set_cons_succ])
                    refine wpAnyH_take (i := 14) (oi := _) (v := ?_) rfl (by kernel_rfl) (by kernel_rfl) (by kernel_rfl) (fun _ _ _ h => h) (Or.inl ⟨by rfl, ?_⟩) (by assumption) ?_
                    rotate_left
                    · (intro w hSw; (try dsimp only at hSw); go_simp) <;> with_reducible rfl
                    (try simp only [List.getElem_toArray, List.getElem_cons_zero, List.getElem_cons_succ, Act.put, List.setIfInBounds_toArray, List.set_cons_zero, List.set_cons_succ])
                    refine wpAnyH_ready (rs := [15]) (by kernel_rfl) (by simp) ?_; refine AllReadyH.cons (o := _) rfl (fun K hK => ?_) AllReadyH.nil
                    go_simp
                    refine hK.out _ _ ?_ (fun hHeld => ?_)
                    · ((try dsimp only); refine HSC.out _ ?_; repeat (first | exact HKR.out | exact Keep.refl _ _ | apply Keep.drew | apply Keep.alloc | refine Keep.setCell ?_ _ _ (fun _ => HNE.out)))
                    clear hK K
                    (try simp only [List.getElem_toArray, List.getElem_cons_zero, List.getElem_cons_succ, Act.put, List.setIfInBounds_toArray, List.set_cons_zero, List.set_cons_succ])
                    refine wpAnyH_done (by kernel_rfl) ?_ _
                    refine NoPanic.normal ?_
                    refine hKq _ _ (Met.intro (hJq _ _ ?_))
                    exact ⟨_, _, _, _, _, _, _, _, _, _, _, _, _, _, _, ⟨_, HLE.out ▸ HLN.out.1, HKK.out, HK7.out _ _ HBC.out⟩, rfl⟩
                case rest =>
                  clear b0 b1 a0 a0' a1 hlc HSC HNE HNV HRI HBS HVI HTI HCC HKC HBC HLE
                  obtain ⟨vs2, hcc2, hkc2, hbc2⟩ := hcut
                  have HCC2 := Lib.hid hcc2; have HKC2 := Lib.hid hkc2; have HBC2 := Lib.hid hbc2; clear hcc2 hkc2 hbc2
                  go_wp2_with fail
                  go_loopw [114, 3] (fun s114 s3 wx => ∃ k : Nat, k ≤ 2 ∧ s114 = .int .i64 k ∧ ColAt w.heap.size wx w.heap.size bc (bc + 1) (endsF l) (.slice (some ⟨g1, 0, none⟩) c1.all.length cap1) vs2 s3 (lineK c1 tt y k 0) (l.length + 2 * j + 1) ∧ Keep (fun _ => False) w wx ∧ Blk wx r #[.int .i64 x, .string y] 129) (fun v _ _ => 2 - (intOf v).toNat)
                  case atStart => exact ⟨0, by omega, rfl, HCC2.out, HKC2.out, HBC2.out⟩
                  case round =>
                    clear HCC2 HKC2 HBC2
                    obtain ⟨k, hk2, rfl, hcc, hkc, hbc⟩ := hrel
                    obtain ⟨c2, hc2⟩ : ∃ c2, lineK c1 tt y k 0 = c2 := ⟨_, rfl⟩
                    have hlen2 : c2.h.length ≤ 200 := by
                      rw [← hc2]
                      show (c1.h ++ opsUp tt (itemsF y) k 0).length ≤ 200
                      have := opsUp_len tt (itemsF y) k 0 hk2 (itemsF_len y)
                      rw [List.length_append]; omega
                    rw [hc2] at hcc
                    obtain ⟨hao2, hcap2, rfl, _⟩ := ownsRow_shape hcc.h
                    have b1 : wr.cell? ⟨r, 1, none⟩ = some (.string y) := hbc.cell 1
                    have HCC := Lib.hid hcc; have HKC := Lib.hid hkc; have HBC := Lib.hid hbc; have HC2 := Lib.hid hc2; clear hcc hkc hbc hc2
                    by_cases hkl : k < 2
                    · have hk1 : ((k : Int) < 2) = True := eq_true (by omega)
                      have hk3 : decide ((k : Int) < 2) = true := decide_eq_true (by omega)
                      have hwk : IntKind.i64.wrap ((k : Int) + 1) = ((k + 1 : Nat) : Int) := by rw [show ((k : Int) + 1) = ((k + 1 : Nat) : Int) by omega]; exact IntWalk.i64_in _ (by omega)
                      have HKL := Lib.hid hkl; clear hkl
                      go_wp2_with (go_at_call 104; have hh := touches_any (HG.out.keep HKC.out) HXY.out.1 HFM.out; rw [← HIT.out] at hh; refine Calls.mono hh ?_; clear hh; rintro e w5 ⟨vt, rfl, hot, hkt⟩; obtain ⟨tao5, tcap5, rfl, _⟩ := ownsRow_shape hot; have HOT := Lib.hid hot; have HCC5 := Lib.hid (HCC.out.idle hkt); have HKC5 := Lib.hid (HKC.out.trans hkt (fun _ _ e => e)); have HBC5 := Lib.hid (HBC.out.keep hkt (fun e => e)); clear hot hkt)
                      obtain ⟨its, hits⟩ : ∃ its, itemsF y = its := ⟨_, rfl⟩
                      have hil4 : its.length ≤ 4 := by rw [← hits]; exact itemsF_len y
                      rw [hits] at HOT ⊢
                      have HITS := Lib.hid hits
                      obtain ⟨bt, hbt⟩ : ∃ bt, wr.heap.size = bt := ⟨_, rfl⟩
                      rw [hbt] at HOT
                      clear hits b1 hbt
                      go_loopw [121, 3] (fun s121 s3 wx => ∃ m : Nat, m ≤ its.length ∧ s121 = .int .i64 m ∧ ColAt w.heap.size wx w.heap.size bc (bc + 1) (endsF l) (.slice (some ⟨g1, 0, none⟩) c1.all.length cap1) vs2 s3 (lineK c1 tt y k m) (l.length + 2 * j + 1) ∧ wx.ownsRow bt 3 1 (.slice tao5 its.length tcap5) its.length (icells its) ∧ Keep (fun _ => False) w wx ∧ Blk wx r #[.int .i64 x, .string y] 129) (fun v _ _ => its.length - (intOf v).toNat)
                      case atStart => exact ⟨0, Nat.zero_le _, rfl, by rw [HC2.out]; exact HCC5.out, HOT.out, HKC5.out, HBC5.out⟩
                      case round =>
                        clear HCC5 HKC5 HBC5 HOT HCC HKC HBC
                        obtain ⟨m, hm, rfl, hcc, hot, hkc, hbc⟩ := hrel
                        obtain ⟨c3, hc3⟩ : ∃ c3, lineK c1 tt y k m = c3 := ⟨_, rfl⟩
                        have hlen3 : c3.h.length ≤ 200 := by
                          rw [← hc3]
                          show (c1.h ++ opsUp tt (itemsF y) k m).length ≤ 200
                          have := opsUp_len tt (itemsF y) k m hk2 (itemsF_len y)
                          rw [List.length_append]; omega
                        rw [hc3] at hcc
                        obtain ⟨hao3, hcap3, rfl, _⟩ := ownsRow_shape hcc.h
                        have HCC := Lib.hid hcc; have HKC := Lib.hid hkc; have HBC := Lib.hid hbc; have HOT := Lib.hid hot; have HC3 := Lib.hid hc3; clear hcc hkc hbc hot hc3
                        by_cases hml : m < its.length
                        · obtain ⟨gt, ot, ct, hvt, hct⟩ := rd_int (ownsRow_rd HOT.out (icells_one _)) hml
                          injection hvt with q1 q2 q3
                          subst q1
                          obtain ⟨z5, hz5⟩ : ∃ z5, its[m]? = some z5 := ⟨_, List.getElem?_eq_getElem hml⟩
                          have hz6 : its.getD m 0 = z5 := by simp [List.getD, hz5]
                          rw [hz6] at hct
                          have HSN3 : Hid (lineK c1 tt y k (m + 1) = { c3 with h := c3.h ++ [(tt, (k : Int), z5)] }) := Lib.hid (by rw [lineK_snoc _ _ _ _ _ (by rw [HITS.out]; exact hz5), HC3.out])
                          have hm1 : ((m : Int) < (its.length : Int)) = True := eq_true (by omega)
                          have hm0 : ((0 : Int) ≤ (m : Int)) = True := eq_true (by omega)
                          have hwm : IntKind.i64.wrap ((m : Int) + 1) = ((m + 1 : Nat) : Int) := by rw [show ((m : Int) + 1) = ((m + 1 : Nat) : Int) by omega]; exact IntWalk.i64_in _ (by omega)
                          have HML := Lib.hid hml; clear q2 q3 hz5 hz6 hml
                          go_wp2_with (at_builtin; go_loud (refine wpList_app (w := wr.alloc (.cells #[.int .i64 tt, .int .i64 (k : Int), .int .i64 z5] 146)) rfl (.tmp 125) (.tmp 130) 140 140 rfl 146 (.agg #[.int .i64 0, .int .i64 0, .int .i64 0]) 3 24 Tryz.underlying140 info146 rfl (HCC.out.h.alloc _) rfl (Src.new (P := Tryz.prog) Tryz.underlying140 wr 1 [.int .i64 tt, .int .i64 (k : Int), .int .i64 z5] 146 rfl (by simp [Value.oneCell'])) rfl (by unfold maxLen; omega) (by omega) (Nat.le_trans HKC.out.size (by simp)) ?_); intro v' wa happ; go_loud (obtain ⟨hA, hkA, hbA⟩ := (HCC.out.idle ((Keep.refl (fun _ => False) wr).alloc _)).op (o := (tt, (k : Int), z5)) happ; have HA := Lib.hid hA; have HKA := Lib.hid ((HKC.out.alloc _).trans hkA (fun k hk e => by omega)); have HBA := Lib.hid (hbA _ _ (HBC.out.alloc _)); have HOA := Lib.hid (ownsRow_keep (HOT.out.alloc _) happ.keep (fun b hb q => ownsRow_types HCC.out.h HOT.out (by decide) b q hb)); clear happ hA hkA hbA))
                          go_roundw
                          case rel => exact ⟨m + 1, HML.out, rfl, by rw [HSN3.out]; exact HA.out, HOA.out, HKA.out, HBA.out⟩
                          case measure => have := HML.out; simp [intOf]; omega
                        · have hm1 : ((m : Int) < (its.length : Int)) = False := eq_false (by omega)
                          have HEQ : Hid (c3 = lineK c1 tt y (k + 1) 0) := Lib.hid (by
                            rw [← HC3.out, show m = its.length by omega]
                            unfold lineK
                            rw [HITS.out, opsUp_next])
                          clear hml
                          go_wp2_with fail
                          go_roundw
                          case rel => exact ⟨k + 1, HKL.out, rfl, by rw [← HEQ.out]; exact HCC.out, HKC.out, HBC.out⟩
                          case measure => have := HKL.out; simp [intOf]; omega
                    · have hk1 : ((k : Int) < 2) = False := eq_false (by omega)
                      have hk3 : decide ((k : Int) < 2) = false := decide_eq_false (by omega)
                      have HK2 : Hid (k = 2) := Lib.hid (by omega)
                      clear hkl
                      go_wp2_with fail
                      go_roundw
                      case rel =>
                        have h := HCC.out.mono (show l.length + 2 * j + 1 ≤ l.length + 2 * (j + 1) by omega)
                        have e : c2 = lineS c1 tt y := by rw [← HC2.out, HK2.out, lineK_two]
                        exact ⟨j + 1, vs2, HJL.out, rfl, by rw [HSN.out, HS.out, ← e]; exact h, HKC.out⟩
                      case measure => have := HJL.out; simp [intOf]; omega
              · have zc : (c.cur x == 0) = false := beq_eq_false_iff_ne.2 hcu
                have HN : Hid (newS c x = c) := Lib.hid (by unfold newS; rw [if_neg hcu])
                clear hcu
                go_upto_region 19 with fail
                obtain ⟨va1, hva1⟩ : ∃ va1, va1 = Value.slice ao2 c.all.length cap2 := ⟨_, rfl⟩
                have hcc := HC1.out.mono (show l.length + 2 * j ≤ l.length + 2 * j + 1 by omega)
                have hkc := HK1.out
                have hbc := HB1.out
                rw [← hva1] at hcc
                rw [← hva1]
                have hcc : ColAt w.heap.size w1 w.heap.size bc (bc + 1) (endsF l) va1 vs (.slice hao c.h.length hcap) (newS c x) (l.length + 2 * j + 1) := by rw [HN.out]; exact hcc
                obtain ⟨vs1, hvs1⟩ : ∃ vs1, vs = vs1 := ⟨_, rfl⟩
                rw [hvs1] at hcc
                clear hva1 hle hlc hlo b0 b1 HC1 HK1 HB1 hov12 hcu12 HI HN zc
                obtain ⟨n1, n2, _, n4, n5, n6, _⟩ := HNW.out
                obtain ⟨c1, hc1⟩ : ∃ c1, newS c x = c1 := ⟨_, rfl⟩
                rw [hc1] at hcc n1 n2 n4 n5 n6 HS
                have hch : c.h.length = c1.h.length := by rw [n6]
                rw [hch] at hcc hihlen ⊢
                have hcur1 := n1 x
                obtain ⟨tt, htt⟩ : ∃ tt, c1.cur x = tt := ⟨_, rfl⟩
                rw [htt] at n2 hcur1 HS
                obtain ⟨i, hi⟩ : ∃ i : Nat, tt = (i : Int) + 1 := ⟨(tt - 1).toNat, by omega⟩
                have hil : i < c1.all.length := by omega
                have hil2 : i < vs1.length := by rw [hcc.tx.len]; exact hil
                obtain ⟨ao1, cap1, hva2, hle1, _, hnil1, hspot1⟩ := ownsRow_shape hcc.tx.row
                subst hva2
                obtain ⟨g1, hg1⟩ : ∃ g1, ao1 = some ⟨g1, 0, none⟩ := by
                  rcases ao1 with _ | ⟨a, b, s⟩
                  · have := (hnil1 rfl).1; omega
                  · have := hspot1 _ rfl; simp only at this; obtain ⟨rfl, rfl, _⟩ := this; exact ⟨a, rfl⟩
                subst hg1
                obtain ⟨vi, hvi⟩ : ∃ vi, vs1[i]? = some vi := ⟨_, List.getElem?_eq_getElem hil2⟩
                obtain ⟨ti, hti⟩ : ∃ ti, c1.all[i]? = some ti := ⟨_, List.getElem?_eq_getElem hil⟩
                have hown := hcc.tx.own i vi ti hvi hti
                have htil : ti.length ≤ 12 := by have := (n5 ti (List.mem_of_getElem? hti)).1; omega
                obtain ⟨tao, tcap, rfl, _⟩ := ownsRow_shape hown
                obtain ⟨a0, a1⟩ := row_cell hcc.tx.row hvi
                have a0' : (w1.alloc (.cells #[.string y] 9)).cell? ⟨g1, i, none⟩ = some (.slice tao ti.length tcap) := (((Keep.refl (fun _ => False) w1).alloc _).cell (p := ⟨g1, i, none⟩) (ownsRow_lt hcc.tx.row g1 rfl).2 (fun e => e)).trans a0
                have b0 : w1.cell? ⟨r, 0, none⟩ = some (.int .i64 x) := hbc.cell 0
                have b1 : w1.cell? ⟨r, 1, none⟩ = some (.string y) := hbc.cell 1
                have hlc := hcc.c.look Tryz.underlying187 hx3
                rw [htt] at hlc
                have hsub : IntKind.i64.wrap (tt - 1) = (i : Int) := by rw [show tt - 1 = (i : Int) by omega]; exact small_wrap (by omega)
                have hi0 : ((0 : Int) ≤ (i : Int)) = True := eq_true (by omega)
                have hi1 : ((i : Int) < (c1.all.length : Int)) = True := eq_true (by omega)
                have HSC : Hid (∀ W, Keep (fun k => k ≠ r) w1 W → W.cell? ⟨r, 1, none⟩ = some (.string y)) := Lib.hid fun W k => (hbc.keep k (fun e => e rfl)).cell 1
                have HNE : Hid (g1 ≠ r) := Lib.hid (fun e => ownsRow_blk hcc.tx.row hbc (by decide) (e ▸ rfl))
                have HNV : Hid (∀ k, (Value.slice tao ti.length tcap).ownBlock = some k → k ≠ r) := Lib.hid (fun k e q => ownsRow_blk hown hbc (by decide) (q ▸ e))
                have HRI : Hid (∀ W, Keep (fun _ => False) w1 W → W.ownsRow w.heap.size 9 1 (.slice tao ti.length tcap) ti.length (strCells ti)) := Lib.hid fun W k => ownsRow_keep hown k (fun _ _ e => e)
                have HBS := Lib.hid hkc.size
                have HVI := Lib.hid hvi; have HTI := Lib.hid hti; have HCC := Lib.hid hcc; have HKC := Lib.hid hkc; have HBC := Lib.hid hbc
                have HLE : Hid ({ c1 with all := c1.all.set i (ti ++ [y]) } = lineK c1 tt y 0 0) := Lib.hid (by
                  rw [lineK_start, show (tt - 1).toNat = i by omega]
                  congr 2
                  simp [List.getD, hti])
                clear hcc hkc hbc hown hvi hti hi htt n1 n2 n4 n5 n6 HNW hil hil2 hcur1 hc1 hnil1 hspot1 hle1
                go_upto_region 24 with fail
                go_cut [99] from 99 to 113 (fun s99 wx => ∃ vs', ColAt w.heap.size wx w.heap.size bc (bc + 1) (endsF l) (.slice (some ⟨g1, 0, none⟩) c1.all.length cap1) vs' (.slice hao c1.h.length hcap) (lineK c1 tt y 0 0) (l.length + 2 * j + 1) ∧ Keep (fun _ => False) w wx ∧ Blk wx r #[.int .i64 x, .string y] 129)
                case first =>
                  rename_i Jq Kq hJq hKq
                  refine wp_region_noPanic ?_
                  refine wp_region_held_drew (S := fun W => W.cell? ⟨r, 1, none⟩ = some (.string y)) (by kernel_rfl) (HSC.out _ ((Keep.refl _ _).drew)) (fun hHeld => ?_)
                  refine wpAnyH_take (i := 0) (oi := _) (v := ?_) rfl (by kernel_rfl) (by kernel_rfl) (by kernel_rfl) (fun _ _ _ h => h) (Or.inl ⟨by rfl, ?_⟩) (by assumption) ?_
                  rotate_left
                  · (intro w hSw; (try dsimp only at hSw); go_simp) <;> with_reducible rfl
                  (try simp only [List.getElem_toArray, List.getElem_cons_zero, List.getElem_cons_succ, Act.put, List.setIfInBounds_toArray, List.set_cons_zero, List.set_cons_succ])
                  refine wpAnyH_take (i := 1) (oi := _) (v := ?_) rfl (by kernel_rfl) (by kernel_rfl) (by kernel_rfl) (fun _ _ _ h => h) (Or.inl ⟨by rfl, ?_⟩) (by assumption) ?_
                  rotate_left
                  · (intro w hSw; (try dsimp only at hSw); go_simp) <;> with_reducible rfl
                  (try simp only [List.getElem_toArray, List.getElem_cons_zero, List.getElem_cons_succ, Act.put, List.setIfInBounds_toArray, List.set_cons_zero, List.set_cons_succ])
                  refine wpAnyH_take (i := 2) (oi := _) (v := ?_) rfl (by kernel_rfl) (by kernel_rfl) (by kernel_rfl) (fun _ _ _ h => h) (Or.inl ⟨by rfl, ?_⟩) (by assumption) ?_
                  rotate_left
                  · (intro w hSw; (try dsimp only at hSw); go_simp) <;> with_reducible rfl
                  (try simp only [List.getElem_toArray, List.getElem_cons_zero, List.getElem_cons_succ, Act.put, List.setIfInBounds_toArray, List.set_cons_zero, List.set_cons_succ])
                  refine wpAnyH_take (i := 3) (oi := _) (v := ?_) rfl (by kernel_rfl) (by kernel_rfl) (by kernel_rfl) (fun _ _ _ h => h) (Or.inl ⟨by rfl, ?_⟩) (by assumption) ?_
                  rotate_left
                  · (intro w hSw; (try dsimp only at hSw); go_simp) <;> with_reducible rfl
                  (try simp only [List.getElem_toArray, List.getElem_cons_zero, List.getElem_cons_succ, Act.put, List.setIfInBounds_toArray, List.set_cons_zero, List.set_cons_succ])
                  refine wpAnyH_take (i := 4) (oi := _) (v := ?_) rfl (by kernel_rfl) (by kernel_rfl) (by kernel_rfl) (fun _ _ _ h => h) (Or.inl ⟨by rfl, ?_⟩) (by assumption) ?_
                  rotate_left
                  · (intro w hSw; (try dsimp only at hSw); go_simp) <;> with_reducible rfl
                  (try simp only [List.getElem_toArray, List.getElem_cons_zero, List.getElem_cons_succ, Act.put, List.setIfInBounds_toArray, List.set_cons_zero, List.set_cons_succ])
                  refine wpAnyH_take (i := 5) (oi := _) (v := ?_) rfl (by kernel_rfl) (by kernel_rfl) (by kernel_rfl) (fun _ _ _ h => h) (Or.inl ⟨by rfl, ?_⟩) (by assumption) ?_
                  rotate_left
                  · (intro w hSw; (try dsimp only at hSw); go_simp) <;> with_reducible rfl
                  (try simp only [List.getElem_toArray, List.getElem_cons_zero, List.getElem_cons_succ, Act.put, List.setIfInBounds_toArray, List.set_cons_zero, List.set_cons_succ])
                  refine wpAnyH_take (i := 6) (oi := _) (v := ?_) rfl (by kernel_rfl) (by kernel_rfl) (by kernel_rfl) (fun _ _ _ h => h) (Or.inl ⟨by rfl, ?_⟩) (by assumption) ?_
                  rotate_left
                  · (intro w hSw; (try dsimp only at hSw); go_simp) <;> with_reducible rfl
                  (try simp only [List.getElem_toArray, List.getElem_cons_zero, List.getElem_cons_succ, Act.put, List.setIfInBounds_toArray, List.set_cons_zero, List.set_cons_succ])
                  refine wpAnyH_take (i := 7) (oi := _) (v := ?_) rfl (by kernel_rfl) (by kernel_rfl) (by kernel_rfl) (fun _ _ _ h => h) (Or.inl ⟨by rfl, ?_⟩) (by assumption) ?_
                  rotate_left
                  · (intro w hSw; (try dsimp only at hSw); go_simp) <;> with_reducible rfl
                  (try simp only [List.getElem_toArray, List.getElem_cons_zero, List.getElem_cons_succ, Act.put, List.setIfInBounds_toArray, List.set_cons_zero, List.set_cons_succ])
                  refine wpAnyH_take (i := 9) (oi := _) (v := ?_) rfl (by kernel_rfl) (by kernel_rfl) (by kernel_rfl) (fun _ _ _ h => h) (Or.inl ⟨by rfl, ?_⟩) (by assumption) ?_
                  rotate_left
                  · (intro w hSw; (try dsimp only at hSw); go_simp) <;> with_reducible rfl
                  (try simp only [List.getElem_toArray, List.getElem_cons_zero, List.getElem_cons_succ, Act.put, List.setIfInBounds_toArray, List.set_cons_zero, List.set_cons_succ])
                  refine wpAnyH_take (i := 10) (oi := _) (v := ?_) rfl (by kernel_rfl) (by kernel_rfl) (by kernel_rfl) (fun _ _ _ h => h) (Or.inl ⟨by rfl, ?_⟩) (by assumption) ?_
                  rotate_left
                  · (intro w hSw; (try dsimp only at hSw); go_simp) <;> with_reducible rfl
                  (try simp only [List.getElem_toArray, List.getElem_cons_zero, List.getElem_cons_succ, Act.put, List.setIfInBounds_toArray, List.set_cons_zero, List.set_cons_succ])
                  refine wpAnyH_ready (rs := [8, 11]) (by kernel_rfl) (by simp) ?_
                  refine AllReadyH.cons (o := _) rfl (fun K hK => ?_) (AllReadyH.cons (o := _) rfl (fun K hK => ?_) AllReadyH.nil)
                  · go_simp
                    refine hK.out _ _ ?_ (fun hHeld => ?_)
                    · ((try dsimp only); refine HSC.out _ ?_; repeat (first | exact HKR.out | exact Keep.refl _ _ | apply Keep.drew | apply Keep.alloc | refine Keep.setCell ?_ _ _ (fun _ => HNE.out)))
                    clear hK K
                    (try simp only [List.getElem_toArray, List.getElem_cons_zero, List.getElem_cons_succ, Act.put, List.setIfInBounds_toArray, List.set_cons_zero, List.set_cons_succ])
                    refine wpAnyH_ready (rs := [11]) (by kernel_rfl) (by simp) ?_; refine AllReadyH.cons (o := _) rfl (fun K hK => ?_) AllReadyH.nil
                    go_simp
                    refine hK.out _ _ ?_ (fun hHeld => ?_)
                    · ((try dsimp only); refine HSC.out _ ?_; repeat (first | exact HKR.out | exact Keep.refl _ _ | apply Keep.drew | apply Keep.alloc | refine Keep.setCell ?_ _ _ (fun _ => HNE.out)))
                    clear hK K
                    (try simp only [List.getElem_toArray, List.getElem_cons_zero, List.getElem_cons_succ, Act.put, List.setIfInBounds_toArray, List.set_cons_zero, List.set_cons_succ])
                    refine wpAnyH_ready (rs := [12]) (by kernel_rfl) (by simp) ?_; refine AllReadyH.cons (o := _) rfl (fun K hK => ?_) AllReadyH.nil
                    rw [if_pos (by rfl)]
                    refine oper_app (base := w.heap.size) (.tmp 107) (.tmp 110) 44 44 rfl 9 (.string ⟨#[]⟩) 1 16 Tryz.underlying44 info9 rfl (v := .slice tao ti.length tcap) (n := ti.length) (xs := strCells ti) (HRI.out _ (by repeat (first | exact Keep.refl _ _ | apply Keep.drew | apply Keep.alloc))) rfl (m := 1) (news := [.string y]) (by first | exact (Rd.new w1 1 1 [.string y] 9 rfl (by simp [Value.oneCell']) (by unfold maxLen; omega)).src Tryz.underlying44 | exact (Rd.new w1 1 1 [.string y] 9 rfl (by simp [Value.oneCell']) (by unfold maxLen; omega)).drew.src Tryz.underlying44 | exact ((Rd.new w1 1 1 [.string y] 9 rfl (by simp [Value.oneCell']) (by unfold maxLen; omega)).keep ((Keep.refl (fun _ => False) _).drew) (fun _ _ h => h)).src Tryz.underlying44) rfl (by unfold maxLen; omega) (by omega) (Nat.le_trans HBS.out (Keep.size (show Keep (fun _ => False) w1 _ by repeat (first | exact Keep.refl _ _ | apply Keep.drew | apply Keep.alloc)))) (fun v' w7 happ => ?_)
                    obtain ⟨ao7, cap7, rfl, _⟩ := ownsRow_shape happ.own
                    have hq0 := HCC.out.idleApp happ (by repeat (first | exact Keep.refl _ _ | apply Keep.drew | apply Keep.alloc))
                    have HLN := Lib.hid (hq0.line HVI.out HTI.out happ)
                    have hr7 := row_cell (ownsRow_keep hq0.tx.row happ.keep (fun b hb q => ownsRow_types (hq0.tx.own i _ ti HVI.out HTI.out) hq0.tx.row (by decide) b q hb)) HVI.out
                    obtain ⟨y1, y0⟩ := hr7
                    have HKR : Hid (Keep (fun k => k ≠ r) w1 w7) := Lib.hid (Keep.trans (show Keep (fun k => k ≠ r) w1 _ by repeat (first | exact Keep.refl _ _ | apply Keep.drew | apply Keep.alloc)) happ.keep (fun k _ e => HNV.out k e))
                    have HK7 : Hid (KB w1 (w7.setCell ⟨g1, i, none⟩ (.slice ao7 (ti.length + 1) cap7))) := Lib.hid ((KB.idle (show Keep (fun _ => False) w1 _ by repeat (first | exact Keep.refl _ _ | apply Keep.drew | apply Keep.alloc))).trans HLN.out.2.2)
                    have HKK : Hid (Keep (fun _ => False) w (w7.setCell ⟨g1, i, none⟩ (.slice ao7 (ti.length + 1) cap7))) := Lib.hid ((HKC.out.trans (show Keep (fun _ => False) w1 _ by repeat (first | exact Keep.refl _ _ | apply Keep.drew | apply Keep.alloc)) (fun _ _ e => e)).trans HLN.out.2.1 (fun k hk e => by omega))
                    clear happ hq0
                    refine hK.out _ _ ?_ (fun hHeld => ?_)
                    · ((try dsimp only); refine HSC.out _ ?_; repeat (first | exact HKR.out | exact Keep.refl _ _ | apply Keep.drew | apply Keep.alloc | refine Keep.setCell ?_ _ _ (fun _ => HNE.out)))
                    clear hK K
                    (try simp only [List.getElem_toArray, List.getElem_cons_zero, List.getElem_cons_succ, Act.put, List.setIfInBounds_toArray, List.set_cons_zero, List.set_cons_succ])
                    refine wpAnyH_take (i := 13) (oi := _) (v := ?_) rfl (by kernel_rfl) (by kernel_rfl) (by kernel_rfl) (fun _ _ _ h => h) (Or.inl ⟨by rfl, ?_⟩) (by assumption) ?_
                    rotate_left
                    · (intro w hSw; (try dsimp only at hSw); go_simp) <;> with_reducible rfl
                    (try simp only [List.getElem_toArray, List.getElem_cons_zero, List.getElem_cons_succ, Act.put, List.setIfInBounds_toArray, List.set_cons_zero, List.set_cons_succ])
                    refine wpAnyH_take (i := 14) (oi := _) (v := ?_) rfl (by kernel_rfl) (by kernel_rfl) (by kernel_rfl) (fun _ _ _ h => h) (Or.inl ⟨by rfl, ?_⟩) (by assumption) ?_
                    rotate_left
                    · (intro w hSw; (try dsimp only at hSw); go_simp) <;> with_reducible rfl
                    (try simp only [List.getElem_toArray, List.getElem_cons_zero, List.getElem_cons_succ, Act.put, List.setIfInBounds_toArray, List.set_cons_zero, List.set_cons_succ])
                    refine wpAnyH_ready (rs := [15]) (by kernel_rfl) (by simp) ?_; refine AllReadyH.cons (o := _) rfl (fun K hK => ?_) AllReadyH.nil
                    go_simp
                    refine hK.out _ _ ?_ (fun hHeld => ?_)
                    · ((try dsimp only); refine HSC.out _ ?_; repeat (first | exact HKR.out | exact Keep.refl _ _ | apply Keep.drew | apply Keep.alloc | refine Keep.setCell ?_ _ _ (fun _ => HNE.out)))
                    clear hK K
                    (try simp only [List.getElem_toArray, List.getElem_cons_zero, List.getElem_cons_succ, Act.put, List.setIfInBounds_toArray, List.set_cons_zero, List.set_cons_succ])
                    refine wpAnyH_done (by kernel_rfl) ?_ _
                    refine NoPanic.normal ?_
                    refine hKq _ _ (Met.intro (hJq _ _ ?_))
                    exact ⟨_, _, _, _, _, _, _, _, _, _, _, _, _, _, _, ⟨_, HLE.out ▸ HLN.out.1, HKK.out, HK7.out _ _ HBC.out⟩, rfl⟩
                  · go_simp
                    refine hK.out _ _ ?_ (fun hHeld => ?_)
                    · ((try dsimp only); refine HSC.out _ ?_; repeat (first | exact HKR.out | exact Keep.refl _ _ | apply Keep.drew | apply Keep.alloc | refine Keep.setCell ?_ _ _ (fun _ => HNE.out)))
                    clear hK K
                    (try simp only [List.getElem_toArray, List.getElem_cons_zero, List.getElem_cons_succ, Act.put, List.setIfInBounds_toArray, List.set_cons_zero, List.set_cons_succ])
                    refine wpAnyH_ready (rs := [8]) (by kernel_rfl) (by simp) ?_; refine AllReadyH.cons (o := _) rfl (fun K hK => ?_) AllReadyH.nil
                    go_simp
                    refine hK.out _ _ ?_ (fun hHeld => ?_)
                    · ((try dsimp only); refine HSC.out _ ?_; repeat (first | exact HKR.out | exact Keep.refl _ _ | apply Keep.drew | apply Keep.alloc | refine Keep.setCell ?_ _ _ (fun _ => HNE.out)))
                    clear hK K
                    (try simp only [List.getElem_toArray, List.getElem_cons_zero, List.getElem_cons_succ, Act.put, List.setIfInBounds_toArray, List.set_cons_zero, List.set_cons_succ])
                    refine wpAnyH_ready (rs := [12]) (by kernel_rfl) (by simp) ?_; refine AllReadyH.cons (o := _) rfl (fun K hK => ?_) AllReadyH.nil
                    rw [if_pos (by rfl)]
                    refine oper_app (base := w.heap.size) (.tmp 107) (.tmp 110) 44 44 rfl 9 (.string ⟨#[]⟩) 1 16 Tryz.underlying44 info9 rfl (v := .slice tao ti.length tcap) (n := ti.length) (xs := strCells ti) (HRI.out _ (by repeat (first | exact Keep.refl _ _ | apply Keep.drew | apply Keep.alloc))) rfl (m := 1) (news := [.string y]) (by first | exact (Rd.new w1 1 1 [.string y] 9 rfl (by simp [Value.oneCell']) (by unfold maxLen; omega)).src Tryz.underlying44 | exact (Rd.new w1 1 1 [.string y] 9 rfl (by simp [Value.oneCell']) (by unfold maxLen; omega)).drew.src Tryz.underlying44 | exact ((Rd.new w1 1 1 [.string y] 9 rfl (by simp [Value.oneCell']) (by unfold maxLen; omega)).keep ((Keep.refl (fun _ => False) _).drew) (fun _ _ h => h)).src Tryz.underlying44) rfl (by unfold maxLen; omega) (by omega) (Nat.le_trans HBS.out (Keep.size (show Keep (fun _ => False) w1 _ by repeat (first | exact Keep.refl _ _ | apply Keep.drew | apply Keep.alloc)))) (fun v' w7 happ => ?_)
                    obtain ⟨ao7, cap7, rfl, _⟩ := ownsRow_shape happ.own
                    have hq0 := HCC.out.idleApp happ (by repeat (first | exact Keep.refl _ _ | apply Keep.drew | apply Keep.alloc))
                    have HLN := Lib.hid (hq0.line HVI.out HTI.out happ)
                    have hr7 := row_cell (ownsRow_keep hq0.tx.row happ.keep (fun b hb q => ownsRow_types (hq0.tx.own i _ ti HVI.out HTI.out) hq0.tx.row (by decide) b q hb)) HVI.out
                    obtain ⟨y1, y0⟩ := hr7
                    have HKR : Hid (Keep (fun k => k ≠ r) w1 w7) := Lib.hid (Keep.trans (show Keep (fun k => k ≠ r) w1 _ by repeat (first | exact Keep.refl _ _ | apply Keep.drew | apply Keep.alloc)) happ.keep (fun k _ e => HNV.out k e))
                    have HK7 : Hid (KB w1 (w7.setCell ⟨g1, i, none⟩ (.slice ao7 (ti.length + 1) cap7))) := Lib.hid ((KB.idle (show Keep (fun _ => False) w1 _ by repeat (first | exact Keep.refl _ _ | apply Keep.drew | apply Keep.alloc))).trans HLN.out.2.2)
                    have HKK : Hid (Keep (fun _ => False) w (w7.setCell ⟨g1, i, none⟩ (.slice ao7 (ti.length + 1) cap7))) := Lib.hid ((HKC.out.trans (show Keep (fun _ => False) w1 _ by repeat (first | exact Keep.refl _ _ | apply Keep.drew | apply Keep.alloc)) (fun _ _ e => e)).trans HLN.out.2.1 (fun k hk e => by omega))
                    clear happ hq0
                    refine hK.out _ _ ?_ (fun hHeld => ?_)
                    · ((try dsimp only); refine HSC.out _ ?_; repeat (first | exact HKR.out | exact Keep.refl _ _ | apply Keep.drew | apply Keep.alloc | refine Keep.setCell ?_ _ _ (fun _ => HNE.out)))
                    clear hK K
                    (try simp only [List.getElem_toArray, List.getElem_cons_zero, List.getElem_cons_succ, Act.put, List.setIfInBounds_toArray, List.set_cons_zero, List.set_cons_succ])
                    refine wpAnyH_take (i := 13) (oi := _) (v := ?_) rfl (by kernel_rfl) (by kernel_rfl) (by kernel_rfl) (fun _ _ _ h => h) (Or.inl ⟨by rfl, ?_⟩) (by assumption) ?_
                    rotate_left
                    · (intro w hSw; (try dsimp only at hSw); go_simp) <;> with_reducible rfl
                    (try simp only [List.getElem_toArray, List.getElem_cons_zero, List.getElem_cons_succ, Act.put, List.setIfInBounds_toArray, List.set_cons_zero, List.set_cons_succ])
                    refine wpAnyH_take (i := 14) (oi := _) (v := ?_) rfl (by kernel_rfl) (by kernel_rfl) (by kernel_rfl) (fun _ _ _ h => h) (Or.inl ⟨by rfl, ?_⟩) (by assumption) ?_
                    rotate_left
                    · (intro w hSw; (try dsimp only at hSw); go_simp) <;> with_reducible rfl
                    (try simp only [List.getElem_toArray, List.getElem_cons_zero, List.getElem_cons_succ, Act.put, List.setIfInBounds_toArray, List.set_cons_zero, List.set_cons_succ])
                    refine wpAnyH_ready (rs := [15]) (by kernel_rfl) (by simp) ?_; refine AllReadyH.cons (o := _) rfl (fun K hK => ?_) AllReadyH.nil
                    go_simp
                    refine hK.out _ _ ?_ (fun hHeld => ?_)
                    · ((try dsimp only); refine HSC.out _ ?_; repeat (first | exact HKR.out | exact Keep.refl _ _ | apply Keep.drew | apply Keep.alloc | refine Keep.setCell ?_ _ _ (fun _ => HNE.out)))
                    clear hK K
                    (try simp only [List.getElem_toArray, List.getElem_cons_zero, List.getElem_cons_succ, Act.put, List.setIfInBounds_toArray, List.set_cons_zero, List.set_cons_succ])
                    refine wpAnyH_done (by kernel_rfl) ?_ _
                    refine NoPanic.normal ?_
                    refine hKq _ _ (Met.intro (hJq _ _ ?_))
                    exact ⟨_, _, _, _, _, _, _, _, _, _, _, _, _, _, _, ⟨_, HLE.out ▸ HLN.out.1, HKK.out, HK7.out _ _ HBC.out⟩, rfl⟩
                case rest =>
                  clear b0 b1 a0 a0' a1 hlc HSC HNE HNV HRI HBS HVI HTI HCC HKC HBC HLE
                  obtain ⟨vs2, hcc2, hkc2, hbc2⟩ := hcut
                  have HCC2 := Lib.hid hcc2; have HKC2 := Lib.hid hkc2; have HBC2 := Lib.hid hbc2; clear hcc2 hkc2 hbc2
                  go_wp2_with fail
                  go_loopw [114, 3] (fun s114 s3 wx => ∃ k : Nat, k ≤ 2 ∧ s114 = .int .i64 k ∧ ColAt w.heap.size wx w.heap.size bc (bc + 1) (endsF l) (.slice (some ⟨g1, 0, none⟩) c1.all.length cap1) vs2 s3 (lineK c1 tt y k 0) (l.length + 2 * j + 1) ∧ Keep (fun _ => False) w wx ∧ Blk wx r #[.int .i64 x, .string y] 129) (fun v _ _ => 2 - (intOf v).toNat)
                  case atStart => exact ⟨0, by omega, rfl, HCC2.out, HKC2.out, HBC2.out⟩
                  case round =>
                    clear HCC2 HKC2 HBC2
                    obtain ⟨k, hk2, rfl, hcc, hkc, hbc⟩ := hrel
                    obtain ⟨c2, hc2⟩ : ∃ c2, lineK c1 tt y k 0 = c2 := ⟨_, rfl⟩
                    have hlen2 : c2.h.length ≤ 200 := by
                      rw [← hc2]
                      show (c1.h ++ opsUp tt (itemsF y) k 0).length ≤ 200
                      have := opsUp_len tt (itemsF y) k 0 hk2 (itemsF_len y)
                      rw [List.length_append]; omega
                    rw [hc2] at hcc
                    obtain ⟨hao2, hcap2, rfl, _⟩ := ownsRow_shape hcc.h
                    have b1 : wr.cell? ⟨r, 1, none⟩ = some (.string y) := hbc.cell 1
                    have HCC := Lib.hid hcc; have HKC := Lib.hid hkc; have HBC := Lib.hid hbc; have HC2 := Lib.hid hc2; clear hcc hkc hbc hc2
                    by_cases hkl : k < 2
                    · have hk1 : ((k : Int) < 2) = True := eq_true (by omega)
                      have hk3 : decide ((k : Int) < 2) = true := decide_eq_true (by omega)
                      have hwk : IntKind.i64.wrap ((k : Int) + 1) = ((k + 1 : Nat) : Int) := by rw [show ((k : Int) + 1) = ((k + 1 : Nat) : Int) by omega]; exact IntWalk.i64_in _ (by omega)
                      have HKL := Lib.hid hkl; clear hkl
                      go_wp2_with (go_at_call 104; have hh := touches_any (HG.out.keep HKC.out) HXY.out.1 HFM.out; rw [← HIT.out] at hh; refine Calls.mono hh ?_; clear hh; rintro e w5 ⟨vt, rfl, hot, hkt⟩; obtain ⟨tao5, tcap5, rfl, _⟩ := ownsRow_shape hot; have HOT := Lib.hid hot; have HCC5 := Lib.hid (HCC.out.idle hkt); have HKC5 := Lib.hid (HKC.out.trans hkt (fun _ _ e => e)); have HBC5 := Lib.hid (HBC.out.keep hkt (fun e => e)); clear hot hkt)
                      obtain ⟨its, hits⟩ : ∃ its, itemsF y = its := ⟨_, rfl⟩
                      have hil4 : its.length ≤ 4 := by rw [← hits]; exact itemsF_len y
                      rw [hits] at HOT ⊢
                      have HITS := Lib.hid hits
                      obtain ⟨bt, hbt⟩ : ∃ bt, wr.heap.size = bt := ⟨_, rfl⟩
                      rw [hbt] at HOT
                      clear hits b1 hbt
                      go_loopw [121, 3] (fun s121 s3 wx => ∃ m : Nat, m ≤ its.length ∧ s121 = .int .i64 m ∧ ColAt w.heap.size wx w.heap.size bc (bc + 1) (endsF l) (.slice (some ⟨g1, 0, none⟩) c1.all.length cap1) vs2 s3 (lineK c1 tt y k m) (l.length + 2 * j + 1) ∧ wx.ownsRow bt 3 1 (.slice tao5 its.length tcap5) its.length (icells its) ∧ Keep (fun _ => False) w wx ∧ Blk wx r #[.int .i64 x, .string y] 129) (fun v _ _ => its.length - (intOf v).toNat)
                      case atStart => exact ⟨0, Nat.zero_le _, rfl, by rw [HC2.out]; exact HCC5.out, HOT.out, HKC5.out, HBC5.out⟩
                      case round =>
                        clear HCC5 HKC5 HBC5 HOT HCC HKC HBC
                        obtain ⟨m, hm, rfl, hcc, hot, hkc, hbc⟩ := hrel
                        obtain ⟨c3, hc3⟩ : ∃ c3, lineK c1 tt y k m = c3 := ⟨_, rfl⟩
                        have hlen3 : c3.h.length ≤ 200 := by
                          rw [← hc3]
                          show (c1.h ++ opsUp tt (itemsF y) k m).length ≤ 200
                          have := opsUp_len tt (itemsF y) k m hk2 (itemsF_len y)
                          rw [List.length_append]; omega
                        rw [hc3] at hcc
                        obtain ⟨hao3, hcap3, rfl, _⟩ := ownsRow_shape hcc.h
                        have HCC := Lib.hid hcc; have HKC := Lib.hid hkc; have HBC := Lib.hid hbc; have HOT := Lib.hid hot; have HC3 := Lib.hid hc3; clear hcc hkc hbc hot hc3
                        by_cases hml : m < its.length
                        · obtain ⟨gt, ot, ct, hvt, hct⟩ := rd_int (ownsRow_rd HOT.out (icells_one _)) hml
                          injection hvt with q1 q2 q3
                          subst q1
                          obtain ⟨z5, hz5⟩ : ∃ z5, its[m]? = some z5 := ⟨_, List.getElem?_eq_getElem hml⟩
                          have hz6 : its.getD m 0 = z5 := by simp [List.getD, hz5]
                          rw [hz6] at hct
                          have HSN3 : Hid (lineK c1 tt y k (m + 1) = { c3 with h := c3.h ++ [(tt, (k : Int), z5)] }) := Lib.hid (by rw [lineK_snoc _ _ _ _ _ (by rw [HITS.out]; exact hz5), HC3.out])
                          have hm1 : ((m : Int) < (its.length : Int)) = True := eq_true (by omega)
                          have hm0 : ((0 : Int) ≤ (m : Int)) = True := eq_true (by omega)
                          have hwm : IntKind.i64.wrap ((m : Int) + 1) = ((m + 1 : Nat) : Int) := by rw [show ((m : Int) + 1) = ((m + 1 : Nat) : Int) by omega]; exact IntWalk.i64_in _ (by omega)
                          have HML := Lib.hid hml; clear q2 q3 hz5 hz6 hml
                          go_wp2_with (at_builtin; go_loud (refine wpList_app (w := wr.alloc (.cells #[.int .i64 tt, .int .i64 (k : Int), .int .i64 z5] 146)) rfl (.tmp 125) (.tmp 130) 140 140 rfl 146 (.agg #[.int .i64 0, .int .i64 0, .int .i64 0]) 3 24 Tryz.underlying140 info146 rfl (HCC.out.h.alloc _) rfl (Src.new (P := Tryz.prog) Tryz.underlying140 wr 1 [.int .i64 tt, .int .i64 (k : Int), .int .i64 z5] 146 rfl (by simp [Value.oneCell'])) rfl (by unfold maxLen; omega) (by omega) (Nat.le_trans HKC.out.size (by simp)) ?_); intro v' wa happ; go_loud (obtain ⟨hA, hkA, hbA⟩ := (HCC.out.idle ((Keep.refl (fun _ => False) wr).alloc _)).op (o := (tt, (k : Int), z5)) happ; have HA := Lib.hid hA; have HKA := Lib.hid ((HKC.out.alloc _).trans hkA (fun k hk e => by omega)); have HBA := Lib.hid (hbA _ _ (HBC.out.alloc _)); have HOA := Lib.hid (ownsRow_keep (HOT.out.alloc _) happ.keep (fun b hb q => ownsRow_types HCC.out.h HOT.out (by decide) b q hb)); clear happ hA hkA hbA))
                          go_roundw
                          case rel => exact ⟨m + 1, HML.out, rfl, by rw [HSN3.out]; exact HA.out, HOA.out, HKA.out, HBA.out⟩
                          case measure => have := HML.out; simp [intOf]; omega
                        · have hm1 : ((m : Int) < (its.length : Int)) = False := eq_false (by omega)
                          have HEQ : Hid (c3 = lineK c1 tt y (k + 1) 0) := Lib.hid (by
                            rw [← HC3.out, show m = its.length by omega]
                            unfold lineK
                            rw [HITS.out, opsUp_next])
                          clear hml
                          go_wp2_with fail
                          go_roundw
                          case rel => exact ⟨k + 1, HKL.out, rfl, by rw [← HEQ.out]; exact HCC.out, HKC.out, HBC.out⟩
                          case measure => have := HKL.out; simp [intOf]; omega
                    · have hk1 : ((k : Int) < 2) = False := eq_false (by omega)
                      have hk3 : decide ((k : Int) < 2) = false := decide_eq_false (by omega)
                      have HK2 : Hid (k = 2) := Lib.hid (by omega)
                      clear hkl
                      go_wp2_with fail
                      go_roundw
                      case rel =>
                        have h := HCC.out.mono (show l.length + 2 * j + 1 ≤ l.length + 2 * (j + 1) by omega)
                        have e : c2 = lineS c1 tt y := by rw [← HC2.out, HK2.out, lineK_two]
                        exact ⟨j + 1, vs2, HJL.out, rfl, by rw [HSN.out, HS.out, ← e]; exact h, HKC.out⟩
                      case measure => have := HJL.out; simp [intOf]; omega
        · have hj1 : ((j : Int) < (l.length : Int)) = False := eq_false (by omega)
          have hjl2 : (l.take j).foldl (colS (endsF l)) c00 = dayF l := by rw [List.take_of_length_le (by omega)]; rfl
          have HD : Hid (c = dayF l) := Lib.hid (hc.symm.trans hjl2)
          have hcc := HCOL.out
          have HPT : Hid (∀ W, Keep (fun _ => False) wr W → Calls Tryz.prog 105 #[.slice ao2 c.all.length cap2, .func (.func 106) #[] #[]] W (IdxPost W (.bool (c.all.any fun t => decide (6 < t.length))))) := Lib.hid fun W hkW => by
            have hcW := hcc.idle hkW
            have hrd := ownsRow_rd hcW.tx.row hcW.tx.one
            rw [← hcW.tx.len] at hrd
            have hp : PredT W 106 #[] vs (fun k => decide (6 < (c.all.getD k []).length)) := by
              intro W1 hk1 k x hx
              obtain ⟨t, ht, hot⟩ := hcW.tx.get hx
              obtain ⟨ax, cx, rfl, _⟩ := ownsRow_shape hot
              have hg : c.all.getD k [] = t := by simp [List.getD, ht]
              show Calls Tryz.prog 106 #[.agg #[.slice ax t.length cx]] W1 (fun e w2 => e = .returned (.bool (decide (6 < (c.all.getD k []).length))) ∧ Keep (fun _ => False) W1 w2)
              rw [hg]
              exact large_any ax t.length cx
            have h5 := contT_any hrd (by exact enters106) hp (by rw [hcW.tx.len]; omega)
            have hq : ((idxs vs.length).any fun i => decide (6 < (c.all.getD i.toNat []).length)) = c.all.any fun t => decide (6 < t.length) := by
              rw [hcW.tx.len]
              have e : (idxs c.all.length).map (fun i => c.all.getD i.toNat []) = c.all := by
                apply List.ext_getElem
                · simp [idxs]
                · intro i h1 h2
                  simp [idxs, List.getD, h2]
              conv => rhs; rw [← e, List.any_map]
              rfl
            rw [hq, hcW.tx.len] at h5
            exact h5
          clear hjl hjl2 hc hcc hinv
          obtain ⟨lg, hlg⟩ : ∃ lg, (c.all.any fun t => decide (6 < t.length)) = lg := ⟨_, rfl⟩
          rw [hlg] at HPT
          have HOK : Hid (okC (dayF l) = (!lg && (decide ((c.all.length : Int) ≤ 6) && decide ((c.h.length : Int) ≤ 40)))) := Lib.hid (by
            rw [← HD.out]; unfold okC; rw [hlg]
            congr 2
            · exact decide_eq_decide.2 (by omega)
            · exact decide_eq_decide.2 (by omega))
          clear hlg
          cases lg with
          | true =>
            go_wp2_with (go_at_call 105; refine Calls.mono (HPT.out _ (Keep.refl _ _)) ?_; rintro e w5 ⟨rfl, hk5⟩; have HC5 := Lib.hid (HCOL.out.idle hk5); have HK5 := Lib.hid (HK.out.trans hk5 (fun _ _ e => e)); clear hk5)
            go_ret3
            exact ⟨_, vs, _, by rw [HOK.out]; rfl, by rw [← HD.out]; exact HC5.out.tx, by rw [← HD.out]; exact HC5.out.h, HK5.out⟩
          | false =>
            by_cases h6 : (c.all.length : Int) ≤ 6
            · have u6 : decide ((c.all.length : Int) ≤ 6) = true := decide_eq_true h6
              have HO2 : Hid (okC (dayF l) = decide ((c.h.length : Int) ≤ 40)) := Lib.hid (by rw [HOK.out, u6]; rfl)
              clear h6
              go_wp2_with (go_at_call 105; refine Calls.mono (HPT.out _ (Keep.refl _ _)) ?_; rintro e w5 ⟨rfl, hk5⟩; have HC5 := Lib.hid (HCOL.out.idle hk5); have HK5 := Lib.hid (HK.out.trans hk5 (fun _ _ e => e)); clear hk5)
              go_ret3
              exact ⟨_, vs, _, by rw [HO2.out]; rfl, by rw [← HD.out]; exact HC5.out.tx, by rw [← HD.out]; exact HC5.out.h, HK5.out⟩
            · have u6 : decide ((c.all.length : Int) ≤ 6) = false := decide_eq_false h6
              have HO2 : Hid (okC (dayF l) = false) := Lib.hid (by rw [HOK.out, u6]; rfl)
              clear h6
              go_wp2_with (go_at_call 105; refine Calls.mono (HPT.out _ (Keep.refl _ _)) ?_; rintro e w5 ⟨rfl, hk5⟩; have HC5 := Lib.hid (HCOL.out.idle hk5); have HK5 := Lib.hid (HK.out.trans hk5 (fun _ _ e => e)); clear hk5)
              go_ret3
              exact ⟨_, vs, _, by rw [HO2.out]; rfl, by rw [← HD.out]; exact HC5.out.tx, by rw [← HD.out]; exact HC5.out.h, HK5.out⟩
end Go.Proofs.YthdkamnclbfehaaGreatDoor
/- (*House).Day, walked: the lines of the transactions that are committed, one after another. -/
namespace Go.Proofs.YthdkamnclbfehaaGreatDoor
set_option linter.unusedSimpArgs false
set_option linter.unusedVariables false
set_option linter.unnecessarySimpa false
open Go.RowKit
def dayBad (l : List CallR) : Bool := decide (12 < l.length) || (l.any badCall || (!okC (dayF l) || !validHB (dayF l).h))
def DayPost (base n : Nat) (w : World) (H : HV) (S : St) (ls : List ByteArray) (l : List CallR) (e : Ending) (w' : World) : Prop :=
  (dayBad l = true ∧ e = .returned (.tuple #[.slice none 0 0, .int .i64 2]) ∧ Keep (fun _ => False) w w') ∨
  (dayBad l = false ∧ ∃ s' H' S' os ds vo, LRun 0 s0L (dayF l).h s' ∧ Ok s' ∧ e = .returned (.tuple #[vo, .int .i64 0]) ∧ Dayed S (linesOf s'.done (dayF l).all) os ds S' ∧
    HouseAt base w' H' (gN n (ls ++ ds)) S' (ls ++ ds) false ∧ HChg w H H' w' ∧ w'.ownsRow w.heap.size 9 1 vo os.length (strCells os) ∧ ∀ k, vo.ownBlock = some k → ¬ H'.tp k)
theorem Rep.append {F : Nat → St → FA → Res} {S S1 S2 : St} {l m : List ByteArray} (h : Rep F S l S1) : Rep F S1 m S2 → Rep F S (l ++ m) S2 := by
  induction h with
  | nil S => exact id
  | cons h t ih => exact fun q => .cons h (ih q)
theorem cat_append (l m : List ByteArray) : cat (l ++ m) = cat l ++ cat m := by simp [cat]
theorem good_call {l : List CallR} (h : l.any badCall = false) {c : CallR} (hc : c ∈ l) : (0 ≤ c.1 ∧ c.1 ≤ 3) ∧ (c.2 = endB ∨ ∃ so f a, formF c.2 = some (so, f, a)) := by
  have hb : badCall c = false := by
    cases e : badCall c with
    | false => rfl
    | true =>
      have : l.any badCall = true := List.any_eq_true.2 ⟨c, hc, e⟩
      rw [h] at this; cases this
  unfold badCall at hb
  simp only [Bool.or_eq_false_iff, decide_eq_false_iff_not, Bool.and_eq_false_iff, Bool.not_eq_false', decide_eq_true_eq] at hb
  refine ⟨⟨by omega, by omega⟩, ?_⟩
  rcases hb.2.2 with q | q
  · right
    unfold okB at q
    split at q
    · cases q
    · rename_i so f a e; exact ⟨so, f, a, e⟩
  · exact .inl q
def txnQ (n : Nat) (o : LOp) : Prop := o.2.1 = 2 → 1 ≤ o.1 ∧ o.1 ≤ n
theorem done_txn {l : List CallR} {s' : LS} (h : LRun 0 s0L (dayF l).h s') : ∀ o ∈ s'.done, o.2.1 = 2 → 1 ≤ o.1 ∧ o.1 ≤ (dayF l).all.length := by
  have hq := (Of.run (Q := txnQ (dayF l).all.length) (fun t e => by cases e) h (Of.start _) (fun o ho _ => (dayF_inv l).txn o ho)).done
  exact fun o ho e => hq o ho e
theorem rd_row {w : World} {g n cap : Nat} {xs : List Value} (h : Rd w 1 (.slice (some ⟨g, 0, none⟩) n cap) n xs) {i : Nat} {u : Value} (hu : xs[i]? = some u) : w.cell? ⟨g, i, none⟩ = some u := by
  rcases h.2.2 with ⟨hv, _⟩ | ⟨b, o, c, hv, _, _, hx⟩
  · cases hv
  · cases hv
    have := hx i u hu
    rwa [Nat.zero_add] at this
set_option maxHeartbeats 16000000 in
set_option maxRecDepth 100000 in
theorem day_any {base n : Nat} {w : World} {H : HV} {S : St} {g : List Int} {ls : List ByteArray} {l : List CallR} {v : Value} (hG : GW base w) (h : HouseAt base w H (gN n ls) S ls false) (hg : g.length = 8) (hrep : Rep runF (S0 g) ls S) (hls : ls.length ≤ 1000)
    (hr : Rd w 2 v l.length (callsC l)) (hl : l.length ≤ 14) (hsz : ∀ c ∈ l, c.2.size ≤ 9223372036854775807) (hn1 : n ≤ 1000000)
    (hn : okC (dayF l) = true → ∀ s', LRun 0 s0L (dayF l).h s' → Ok s' → (cat ls).length + 201 * ((linesOf s'.done (dayF l).all).length + 1) ≤ n) :
    Calls Tryz.prog 36 #[.pointer (some ⟨H.h, 0, none⟩), v] w (DayPost base n w H S ls l) := by
  obtain ⟨ao, cap, rfl, _⟩ := hr.shape
  have c3 := h.blk.cell 3
  simp at c3
  have HH := Lib.hid h
  have HTP : Hid (∀ k, H.tp k → base ≤ k ∧ k < w.heap.size) := Lib.hid (fun k hk => ⟨h.tp_ge k hk, h.tp_lt k hk⟩)
  have HGW := Lib.hid hG; have HREP := Lib.hid hrep; have HG8 := Lib.hid hg
  have HWB := Lib.hid hG.size
  have HNN := Lib.hid hn; have HSS0 := Lib.hid hsz; have HR := Lib.hid hr
  have HC69 := Lib.hid (contC_any hr enters70 (badCall_any hG.glob l hsz) (by omega))
  clear h hG hrep hg hn hsz hr
  by_cases h12 : 12 < l.length
  · have u0 : decide ((12 : Int) < (l.length : Int)) = true := decide_eq_true (by omega)
    have HB : Hid (dayBad l = true) := Lib.hid (by unfold dayBad; rw [decide_eq_true h12]; rfl)
    clear h12
    go_enter Tryz.func36, Tryz.ntmps36
    go_wp2_with (first
      | (go_at_call 52; refine (hnone_any HH.out).mono ?_; rintro e w' ⟨rfl, rfl⟩))
    go_ret2
    exact .inl ⟨HB.out, rfl, Keep.refl _ _⟩
  · have u0 : decide ((12 : Int) < (l.length : Int)) = false := decide_eq_false (by omega)
    have hl12 : l.length ≤ 12 := by omega
    have HL12 : Hid (decide (12 < l.length) = false) := Lib.hid (decide_eq_false h12)
    clear h12
    cases hbad : l.any badCall with
    | true =>
      have HBAD := Lib.hid hbad
      have HB : Hid (dayBad l = true) := Lib.hid (by unfold dayBad; rw [HL12.out, hbad]; rfl)
      clear hbad
      go_enter Tryz.func36, Tryz.ntmps36
      go_wp2_with (first
        | (go_at_call 52; refine (hnone_any HH.out).mono ?_; rintro e w' ⟨rfl, rfl⟩)
        | (go_at_call 69; refine Calls.mono HC69.out ?_; rintro e w1 ⟨rfl, hk1⟩; rw [HBAD.out]; have HK1 := Lib.hid hk1; clear hk1))
      go_ret2
      exact .inl ⟨HB.out, rfl, HK1.out⟩
    | false =>
      have HBAD := Lib.hid hbad
      have HC72 : Hid (∀ W, Keep (fun _ => False) w W → Calls Tryz.prog 72 #[.slice ao l.length cap] W (ColPost W l)) := Lib.hid fun W hk =>
        collect_any (HGW.out.glob.keep hk) (HR.out.keep hk (fun _ _ e => e)) hl12 (fun c hc => ⟨(good_call HBAD.out hc).1, HSS0.out c hc, (good_call HBAD.out hc).2⟩)
      clear hbad
      have hih := (dayF_inv l).h
      have hil := (dayF_inv l).len
      cases hokc : okC (dayF l) with
      | false =>
        have HOKC := Lib.hid hokc
        have HB : Hid (dayBad l = true) := Lib.hid (by unfold dayBad; rw [HL12.out, HBAD.out, hokc]; rfl)
        clear hokc
        go_enter Tryz.func36, Tryz.ntmps36
        go_wp2_with (first
          | (go_at_call 52; refine (hnone_any HH.out).mono ?_; rintro e w' ⟨rfl, rfl⟩)
          | (go_at_call 69; refine Calls.mono HC69.out ?_; rintro e w1 ⟨rfl, hk1⟩; rw [HBAD.out]; have HK1 := Lib.hid hk1; clear hk1)
          | (go_at_call 72; refine Calls.mono (HC72.out _ HK1.out) ?_; rintro e w2 ⟨va, vs, vh, rfl, htx, hoh, hk2⟩; obtain ⟨aoa, capa, rfl, _⟩ := ownsRow_shape htx.row; obtain ⟨aoh, caph, rfl, _⟩ := ownsRow_shape hoh; rw [HOKC.out]; have HTX := Lib.hid htx; have HOH := Lib.hid hoh; have HK2 := Lib.hid (HK1.out.trans hk2 (fun _ _ e => e)); clear htx hoh hk2))
        go_ret2
        exact .inl ⟨HB.out, rfl, HK2.out⟩
      | true =>
        have HOKC := Lib.hid hokc
        cases hvh : validHB (dayF l).h with
        | false =>
          have HVH := Lib.hid hvh
          have HB : Hid (dayBad l = true) := Lib.hid (by unfold dayBad; rw [HL12.out, HBAD.out, hokc, hvh]; rfl)
          clear hokc hvh
          go_enter Tryz.func36, Tryz.ntmps36
          go_wp2_with (first
            | (go_at_call 52; refine (hnone_any HH.out).mono ?_; rintro e w' ⟨rfl, rfl⟩)
            | (go_at_call 69; refine Calls.mono HC69.out ?_; rintro e w1 ⟨rfl, hk1⟩; rw [HBAD.out]; have HK1 := Lib.hid hk1; clear hk1)
            | (go_at_call 72; refine Calls.mono (HC72.out _ HK1.out) ?_; rintro e w2 ⟨va, vs, vh, rfl, htx, hoh, hk2⟩; obtain ⟨aoa, capa, rfl, _⟩ := ownsRow_shape htx.row; obtain ⟨aoh, caph, rfl, _⟩ := ownsRow_shape hoh; rw [HOKC.out]; have HTX := Lib.hid htx; have HOH := Lib.hid hoh; have HK2 := Lib.hid (HK1.out.trans hk2 (fun _ _ e => e)); clear htx hoh hk2)
            | (go_at_call 73; refine Calls.mono (lock_any (ownsRow_rd HOH.out (opsC_one _)) (by omega)) ?_; rintro e w3 ⟨hk3, hlk⟩; obtain ⟨_, rfl⟩ := hlk.resolve_right (fun q => by rw [HVH.out] at q; cases q.1); have HK3 := Lib.hid (HK2.out.trans hk3 (fun _ _ e => e)); clear hk3 hlk))
          go_ret2
          exact .inl ⟨HB.out, rfl, HK3.out⟩
        | true =>
          have HVH := Lib.hid hvh
          have HB : Hid (dayBad l = false) := Lib.hid (by unfold dayBad; rw [HL12.out, HBAD.out, hokc, hvh]; rfl)
          clear hokc hvh
          go_enter Tryz.func36, Tryz.ntmps36
          go_wp2_with (first
            | (go_at_call 52; refine (hnone_any HH.out).mono ?_; rintro e w' ⟨rfl, rfl⟩)
            | (go_at_call 69; refine Calls.mono HC69.out ?_; rintro e w1 ⟨rfl, hk1⟩; rw [HBAD.out]; have HK1 := Lib.hid hk1; clear hk1)
            | (go_at_call 72; refine Calls.mono (HC72.out _ HK1.out) ?_; rintro e w2 ⟨va, vs, vh, rfl, htx, hoh, hk2⟩; obtain ⟨aoa, capa, rfl, _⟩ := ownsRow_shape htx.row; obtain ⟨aoh, caph, rfl, _⟩ := ownsRow_shape hoh; rw [HOKC.out]; have HTX := Lib.hid htx; have HOH := Lib.hid hoh; have HK2 := Lib.hid (HK1.out.trans hk2 (fun _ _ e => e)); clear htx hoh hk2)
            | (go_at_call 73; refine Calls.mono (lock_any (ownsRow_rd HOH.out (opsC_one _)) (by omega)) ?_; rintro e w3 ⟨hk3, hlk⟩; obtain ⟨_, s', vd, va9, rfl, hrun, hoks, hod⟩ := hlk.resolve_left (fun q => by rw [HVH.out] at q; cases q.1); obtain ⟨aod, capd, rfl, _⟩ := ownsRow_shape hod; have HRUN := Lib.hid hrun; have HOKS := Lib.hid hoks; have HOD := Lib.hid hod; have HK23 := Lib.hid hk3; have HK3 := Lib.hid (HK2.out.trans hk3 (fun _ _ e => e)); clear hk3 hlk hrun hoks hod))
          obtain ⟨done, hdone⟩ : ∃ done, s'.done = done := ⟨_, rfl⟩
          have hdl : done.length ≤ 1000 := by have := HOKS.out.tot; unfold tot at this; rw [← hdone]; omega
          obtain ⟨all, hall⟩ : ∃ all, (dayF l).all = all := ⟨_, rfl⟩
          have hdt := done_txn HRUN.out
          have htot := HNN.out HOKC.out s' HRUN.out HOKS.out
          have HEA := Lib.hid (dayF_inv l).each
          rw [hdone] at HOD hdt htot ⊢
          rw [hall] at HTX hdt htot HEA hil ⊢
          have HDT := Lib.hid hdt; have HDN := Lib.hid hdone; have HAL := Lib.hid hall
          obtain ⟨total, htl⟩ : ∃ total, (linesOf done all).length = total := ⟨_, rfl⟩
          rw [htl] at htot
          have HTL := Lib.hid htl
          have HRT : Hid (∀ wx, Keep H.tp w3 wx → Rd wx 3 (.slice aod done.length capd) done.length (opsC done) ∧ Rd wx 1 (.slice aoa all.length capa) all.length vs ∧ ∀ (i : Nat) vi ti, vs[i]? = some vi → all[i]? = some ti → Rd wx 1 vi ti.length (strCells ti)) := Lib.hid fun wx kx => by
            have hz1 := HK1.out.size
            have hz2 := HK2.out.size
            have ht3 := HTX.out.keep HK23.out (fun _ _ e => e) (fun _ _ _ _ _ e => e)
            refine ⟨(ownsRow_rd HOD.out (opsC_one _)).keep kx (fun k hk e => ?_), (ownsRow_rd ht3.row ht3.one).keep kx (fun k hk e => ?_), fun i vi ti hv ht => (ownsRow_rd (ht3.own i vi ti hv ht) (strCells_one ti)).keep kx (fun k hk e => ?_)⟩
            · have := (ownsRow_lt HOD.out k hk).1; have := (HTP.out k e).2; omega
            · have := (ownsRow_lt ht3.row k hk).1; have := (HTP.out k e).2; omega
            · have := (ownsRow_lt (ht3.own i vi ti hv ht) k hk).1; have := (HTP.out k e).2; omega
          have HLN := Lib.hid HTX.out.len
          have hnil := ownsRow_shape HTX.out.row
          have HNIL : Hid (aoa = none → all.length = 0) := Lib.hid (by obtain ⟨a2, c2, hv, _, _, hz, _⟩ := hnil; cases hv; exact fun e => (hz e).1)
          have HSP : Hid (∀ a, aoa = some a → a.off = 0 ∧ a.spot = none) := Lib.hid (by obtain ⟨a2, c2, hv, _, _, _, hz⟩ := hnil; cases hv; exact fun a e => ⟨(hz a e).1, (hz a e).2.1⟩)
          have HDAY0 := Lib.hid (DayAt.start (n := n) (HH.out.idle HK3.out))
          have HKK : Hid (Keep H.tp w w3) := Lib.hid (HK3.out.mono (fun _ _ e => e.elim))
          clear hnil hdone hall hdt htl HTX HOD HNN HR HC69 HC72 c3
          go_loopw [55, 13] (fun s55 s13 wx => ∃ (i : Nat) (H' : HV) (S' : St) (os ds : List ByteArray), i ≤ done.length ∧ s55 = .int .i64 i ∧ DayAt base n w3 H S ls (linesOf (done.take i) all) s13 H' S' os ds wx) (fun v _ _ => done.length - (intOf v).toNat)
          case atStart => exact ⟨0, H, S, [], [], Nat.zero_le _, rfl, HDAY0.out⟩
          case round =>
            clear HDAY0
            obtain ⟨i, H', S', os, ds, hi, rfl, hday⟩ := hrel
            obtain ⟨aoo, capo, rfl, _⟩ := ownsRow_shape hday.out
            have hrt := HRT.out wr hday.chg.keep
            have HDY := Lib.hid hday; clear hday
            by_cases hil2 : i < done.length
            · obtain ⟨gd, od, cd, p, hvv, hp, e0, e1, e2⟩ := rd_op hrt.1 hil2
              obtain ⟨txn, kind, item⟩ := p
              injection hvv with q1 q2 q3
              subst q1
              have hj1 : ((i : Int) < (done.length : Int)) = True := eq_true (by omega)
              have hj0 : ((0 : Int) ≤ (i : Int)) = True := eq_true (by omega)
              have hwi : IntKind.i64.wrap ((i : Int) + 1) = ((i + 1 : Nat) : Int) := by rw [show ((i : Int) + 1) = ((i + 1 : Nat) : Int) by omega]; exact IntWalk.i64_in _ (by omega)
              have f0 : wr.cell? ⟨gd, od + i * 3, none⟩ = some (.int .i64 txn) := by rw [Nat.mul_comm i 3]; exact e0
              have f1 : wr.cell? ⟨gd, od + i * 3 + 1, none⟩ = some (.int .i64 kind) := by rw [Nat.mul_comm i 3, Nat.add_assoc]; exact e1
              have f2 : wr.cell? ⟨gd, od + i * 3 + 2, none⟩ = some (.int .i64 item) := by rw [Nat.mul_comm i 3, Nat.add_assoc]; exact e2
              have hLN : linesOf (done.take (i + 1)) all = linesOf (done.take i) all ++ (if kind = 2 then all.getD (txn - 1).toNat [] else []) := by rw [List.take_add_one, hp]; exact linesOf_snoc _ (txn, kind, item) _
              have HIL := Lib.hid hil2
              have hdx := HDT.out _ (List.mem_of_getElem? hp)
              clear q2 q3 e0 e1 e2 hil2 hp
              by_cases hk2 : kind = 2
              · have z2 : (kind != 2) = false := by simp [hk2]
                rw [if_pos hk2] at hLN
                have hdx2 := hdx hk2
                simp only at hdx2
                obtain ⟨t, ht⟩ : ∃ t : Nat, txn = (t : Int) + 1 := ⟨(txn - 1).toNat, by omega⟩
                have htl : t < all.length := by omega
                rw [show (txn - 1).toNat = t by omega] at hLN
                obtain ⟨ti, hti⟩ : ∃ ti, all[t]? = some ti := ⟨_, List.getElem?_eq_getElem htl⟩
                obtain ⟨vi, hvi⟩ : ∃ vi, vs[t]? = some vi := ⟨_, List.getElem?_eq_getElem (by rw [HLN.out]; exact htl)⟩
                rw [show all.getD t [] = ti by simp [List.getD, hti]] at hLN
                obtain ⟨ga, hga⟩ : ∃ ga, aoa = some ⟨ga, 0, none⟩ := by
                  have h1 := HNIL.out
                  have h2 := HSP.out
                  rcases aoa with _ | ⟨a, b, s⟩
                  · have := h1 rfl; omega
                  · have := h2 _ rfl; simp only at this; obtain ⟨rfl, rfl⟩ := this; exact ⟨a, rfl⟩
                subst hga
                obtain ⟨aot, capt, hvt, _⟩ := (hrt.2.2 t vi ti hvi hti).shape
                subst hvt
                have a00 := rd_row hrt.2.1 hvi
                have a0 : ∀ A, (wr.alloc A).cell? ⟨ga, t, none⟩ = some (.slice aot ti.length capt) := fun A => (((Keep.refl (fun _ => False) wr).alloc A).cell (p := ⟨ga, t, none⟩) (World.block_lt_of_cell? _ _ a00) (fun e => e)).trans a00
                clear a00
                have HRTI : Hid (∀ wx, Keep H.tp w3 wx → Rd wx 1 (.slice aot ti.length capt) ti.length (strCells ti)) := Lib.hid fun wx kx => (HRT.out wx kx).2.2 t _ ti hvi hti
                have hei := HEA.out ti (List.mem_of_getElem? hti)
                have htil : ti.length ≤ 12 := by omega
                have HEI := Lib.hid hei.2
                have HLNN := Lib.hid hLN
                have hcount : (linesOf (done.take i) all).length + ti.length ≤ total := by
                  have h1 := linesOf_take_le done all (i + 1)
                  rw [hLN, HTL.out, List.length_append] at h1
                  exact h1
                have hsub : IntKind.i64.wrap (txn - 1) = (t : Int) := by rw [show txn - 1 = (t : Int) by omega]; exact small_wrap (by omega)
                have ht0 : ((0 : Int) ≤ (t : Int)) = True := eq_true (by omega)
                have ht1 : ((t : Int) < (all.length : Int)) = True := eq_true (by omega)
                clear hk2 hdx hdx2 hLN hti hvi hrt hei htl ht
                go_wp2_with fail
                go_loopw [70, 13] (fun s70 s13 wx => ∃ (k : Nat) (H' : HV) (S' : St) (os ds : List ByteArray), k ≤ ti.length ∧ s70 = .int .i64 k ∧ DayAt base n w3 H S ls (linesOf (done.take i) all ++ ti.take k) s13 H' S' os ds wx) (fun v _ _ => ti.length - (intOf v).toNat)
                case atStart => exact ⟨0, H', S', os, ds, Nat.zero_le _, rfl, by rw [List.take_zero, List.append_nil]; exact HDY.out.idle ((Keep.refl _ _).alloc _)⟩
                case round =>
                  clear HDY f0 f1 f2 a0
                  obtain ⟨k, H', S', os, ds, hk, rfl, hday⟩ := hrel
                  obtain ⟨aoo, capo, rfl, _⟩ := ownsRow_shape hday.out
                  have hrt := HRTI.out wr hday.chg.keep
                  have HDY := Lib.hid hday; clear hday
                  by_cases hkl : k < ti.length
                  · have hk1 : ((k : Int) < (ti.length : Int)) = True := eq_true (by omega)
                    have hk0 : ((0 : Int) ≤ (k : Int)) = True := eq_true (by omega)
                    have hwk : IntKind.i64.wrap ((k : Int) + 1) = ((k + 1 : Nat) : Int) := by rw [show ((k : Int) + 1) = ((k + 1 : Nat) : Int) by omega]; exact IntWalk.i64_in _ (by omega)
                    obtain ⟨b, o, hao, hcell⟩ : ∃ b o, aot = some ⟨b, o, none⟩ ∧ wr.cell? ⟨b, o + k, none⟩ = some (.string (ti.getD k ByteArray.empty)) := by
                      rcases hrt.2.2 with ⟨h, h'⟩ | ⟨b, o, c, h, _, _, hx⟩
                      · omega
                      · injection h with h1 h2 h3
                        exact ⟨b, o, h1, hx _ _ (strCells_get ti k hkl)⟩
                    subst hao
                    have hmem : ti.getD k ByteArray.empty ∈ ti := by simp [List.getD, List.getElem?_eq_getElem hkl]
                    have HTK0 : Hid (ti.take (k + 1) = ti.take k ++ [ti.getD k ByteArray.empty]) := Lib.hid (by rw [List.take_add_one]; simp [List.getD, List.getElem?_eq_getElem hkl])
                    obtain ⟨s, hs⟩ : ∃ s, ti.getD k ByteArray.empty = s := ⟨_, rfl⟩
                    rw [hs] at hcell hmem HTK0
                    have HSS : Hid (s.size ≤ 9223372036854775807) := Lib.hid (by obtain ⟨x, hx, hxs⟩ := HEI.out s hmem; rw [← hxs]; exact HSS0.out x hx)
                    have HTK : Hid (linesOf (done.take i) all ++ ti.take (k + 1) = (linesOf (done.take i) all ++ ti.take k) ++ [s]) := Lib.hid (by rw [HTK0.out, List.append_assoc])
                    have hsb := HDY.out.dayed.sub
                    have hlL : (linesOf (done.take i) all ++ ti.take k).length = (linesOf (done.take i) all).length + k := by rw [List.length_append, List.length_take]; omega
                    have hosl : os.length ≤ 1000000 := by rw [hsb.2.1, hlL]; omega
                    have hdsl : ds.length + 1 ≤ total := by have := hsb.2.2; rw [hlL] at this; omega
                    have hcat : (cat (ls ++ ds)).length + 201 ≤ n := by
                      have := cat_length_le HDY.out.dayed.rep
                      rw [cat_append, List.length_append]; omega
                    have hlen : (ls ++ ds).length ≤ 1000000 := by rw [List.length_append]; omega
                    have HIN : Hid (Inv (ls ++ ds).length S') := Lib.hid (rep_inv HG8.out (HREP.out.append HDY.out.dayed.rep))
                    have hstep := calmN_step (S := S') hcat s
                    have he10 := doF_err S' s
                    obtain ⟨R, hR⟩ : ∃ R, doF runF S' s = R := ⟨_, rfl⟩
                    rw [hR] at hstep he10
                    have HRR := Lib.hid hR
                    obtain ⟨re, rs, ro⟩ := R
                    have HKL := Lib.hid hkl; clear hkl hs hmem HTK0 hrt hsb hlL hR
                    simp only at he10
                    by_cases he : re = 0
                    · subst he
                      rw [if_pos rfl] at hstep
                      have HST := Lib.hid hstep; clear hstep he10
                      go_wp2_with (first
                        | (go_at_call 20; have hh := hdo_any (F := runF) (HGW.out.keep (HKK.out.trans HDY.out.chg.keep (fun _ _ e => e)) (fun q hq e => by have := HTP.out q e; omega)).glob (Nat.le_trans HWB.out (Nat.le_trans HK3.out.size HDY.out.chg.keep.size)) HDY.out.at_ (HIN.out.small (by omega)) (by omega) HSS.out (run_ok HIN.out (by omega) s); rw [HST.out, HDY.out.chg.h] at hh; refine Calls.mono hh ?_; clear hh; rintro e w5 ⟨H2, rfl, hh2, hc2⟩; have HH2 := Lib.hid hh2; have HC2 := Lib.hid hc2; have HMID := Lib.hid (HDY.out.mid hc2); have HSZ := Lib.hid (Nat.le_trans HDY.out.chg.keep.size hc2.keep.size); clear hh2 hc2)
                        | (at_builtin; refine wpList_app (w := w5.alloc (.cells #[.string ro] 9)) rfl (.tmp 97) (.tmp 99) 44 44 rfl 9 (.string ⟨#[]⟩) 1 16 Tryz.underlying44 info9 rfl (HMID.out.1.alloc _) rfl (Src.new (P := Tryz.prog) Tryz.underlying44 w5 1 [.string ro] 9 rfl (by simp [Value.oneCell'])) rfl (by unfold maxLen; omega) (by omega) (Nat.le_trans HSZ.out (by simp)) ?_; intro v' wa happ; have HA := Lib.hid happ; clear happ))
                      go_roundw
                      case rel =>
                        have hz : (doF runF S' s).err = 0 := by rw [HRR.out]
                        have hko : Keep (fun _ => False) w5 (w5.alloc (.cells #[.string ro] 9)) := (Keep.refl _ _).alloc _
                        have hd := HDY.out.ok (s := s) hz (HC2.out.trans (HChg.idle H2 hko)) (by rw [HRR.out]; exact HH2.out.idle hko) (by rw [HRR.out]; exact HA.out)
                        rw [HRR.out] at hd
                        exact ⟨k + 1, H2, rs, os ++ [ro], ds ++ [s], HKL.out, rfl, by rw [HTK.out]; exact hd⟩
                      case measure => have := HKL.out; simp [intOf]; omega
                    · rw [if_neg he] at hstep
                      have HST := Lib.hid hstep
                      have z10 : (re == 10) = false := by simp [he10]
                      have z0 : (re != 0) = true := by simp [he]
                      have HNE0 : Hid ((doF runF S' s).err ≠ 0) := Lib.hid (by rw [HRR.out]; exact he)
                      have HRN : Hid (((doF runF S' s).err != 0) = true) := Lib.hid (by rw [HRR.out]; exact z0)
                      clear hstep he10
                      by_cases h9 : re = 9
                      · have z9 : (re == 9) = true := by simp [h9]
                        clear h9 he
                        go_wp2_with (first
                          | (go_at_call 20; have hh := hdo_any (F := runF) (HGW.out.keep (HKK.out.trans HDY.out.chg.keep (fun _ _ e => e)) (fun q hq e => by have := HTP.out q e; omega)).glob (Nat.le_trans HWB.out (Nat.le_trans HK3.out.size HDY.out.chg.keep.size)) HDY.out.at_ (HIN.out.small (by omega)) (by omega) HSS.out (run_ok HIN.out (by omega) s); rw [HST.out, HDY.out.chg.h] at hh; refine Calls.mono hh ?_; clear hh; rintro e w5 ⟨H2, rfl, hh2, hc2⟩; have HH2 := Lib.hid hh2; have HC2 := Lib.hid hc2; have HMID := Lib.hid (HDY.out.mid hc2); have HSZ := Lib.hid (Nat.le_trans HDY.out.chg.keep.size hc2.keep.size); clear hh2 hc2)
                          | (go_at_call 74; have hh := full_any (F := runF) (HGW.out.keep (HKK.out.trans HMID.out.2.2.keep (fun _ _ e => e)) (fun q hq e => by have := HTP.out q e; omega)).glob HH2.out (HIN.out.small (by omega)) HSS.out (run_ok HIN.out (by omega) s); rw [HMID.out.2.2.h, HRN.out] at hh; refine Calls.mono hh ?_; clear hh; rintro e w6 ⟨rfl, hk6⟩; have HH6 := Lib.hid (HH2.out.idle hk6); have HC6 := Lib.hid (HC2.out.trans (HChg.idle H2 hk6)); have HMID6 := Lib.hid (HDY.out.mid HC6.out); have HMID := HMID6; have HSZ6 := Lib.hid (Nat.le_trans HSZ.out hk6.size); have HSZ := HSZ6; clear hk6 HMID6 HSZ6)
                          | (at_builtin; refine wpList_app (w := w6.alloc (.cells #[.string ⟨#[33]⟩] 9)) rfl (.tmp 97) (.tmp 99) 44 44 rfl 9 (.string ⟨#[]⟩) 1 16 Tryz.underlying44 info9 rfl (HMID.out.1.alloc _) rfl (Src.new (P := Tryz.prog) Tryz.underlying44 w6 1 [.string ⟨#[33]⟩] 9 rfl (by simp [Value.oneCell'])) rfl (by unfold maxLen; omega) (by omega) (Nat.le_trans HSZ.out (by simp)) ?_; intro v' wa happ; have HA := Lib.hid happ; clear happ))
                        go_roundw
                        case rel =>
                          have hko : Keep (fun _ => False) w6 (w6.alloc (.cells #[.string ⟨#[33]⟩] 9)) := (Keep.refl _ _).alloc _
                          exact ⟨k + 1, H2, S', os ++ [bang], ds, HKL.out, rfl, by rw [HTK.out]; exact HDY.out.bad HNE0.out (HC6.out.trans (HChg.idle H2 hko)) (HH6.out.idle hko) HA.out⟩
                        case measure => have := HKL.out; simp [intOf]; omega
                      · have z9 : (re == 9) = false := by simp [h9]
                        clear h9 he
                        go_wp2_with (first
                          | (go_at_call 20; have hh := hdo_any (F := runF) (HGW.out.keep (HKK.out.trans HDY.out.chg.keep (fun _ _ e => e)) (fun q hq e => by have := HTP.out q e; omega)).glob (Nat.le_trans HWB.out (Nat.le_trans HK3.out.size HDY.out.chg.keep.size)) HDY.out.at_ (HIN.out.small (by omega)) (by omega) HSS.out (run_ok HIN.out (by omega) s); rw [HST.out, HDY.out.chg.h] at hh; refine Calls.mono hh ?_; clear hh; rintro e w5 ⟨H2, rfl, hh2, hc2⟩; have HH2 := Lib.hid hh2; have HC2 := Lib.hid hc2; have HMID := Lib.hid (HDY.out.mid hc2); have HSZ := Lib.hid (Nat.le_trans HDY.out.chg.keep.size hc2.keep.size); clear hh2 hc2)
                          | (at_builtin; refine wpList_app (w := w5.alloc (.cells #[.string ⟨#[33]⟩] 9)) rfl (.tmp 97) (.tmp 99) 44 44 rfl 9 (.string ⟨#[]⟩) 1 16 Tryz.underlying44 info9 rfl (HMID.out.1.alloc _) rfl (Src.new (P := Tryz.prog) Tryz.underlying44 w5 1 [.string ⟨#[33]⟩] 9 rfl (by simp [Value.oneCell'])) rfl (by unfold maxLen; omega) (by omega) (Nat.le_trans HSZ.out (by simp)) ?_; intro v' wa happ; have HA := Lib.hid happ; clear happ))
                        go_roundw
                        case rel =>
                          have hko : Keep (fun _ => False) w5 (w5.alloc (.cells #[.string ⟨#[33]⟩] 9)) := (Keep.refl _ _).alloc _
                          exact ⟨k + 1, H2, S', os ++ [bang], ds, HKL.out, rfl, by rw [HTK.out]; exact HDY.out.bad HNE0.out (HC2.out.trans (HChg.idle H2 hko)) (HH2.out.idle hko) HA.out⟩
                        case measure => have := HKL.out; simp [intOf]; omega
                  · have hk1 : ((k : Int) < (ti.length : Int)) = False := eq_false (by omega)
                    have HEQ : Hid (linesOf (done.take i) all ++ ti.take k = linesOf (done.take (i + 1)) all) := Lib.hid (by rw [HLNN.out, (List.take_of_length_le (by omega) : ti.take k = ti)])
                    clear hkl hrt
                    go_wp2_with fail
                    go_roundw
                    case rel => exact ⟨i + 1, H', S', os, ds, HIL.out, rfl, by rw [← HEQ.out]; exact HDY.out⟩
                    case measure => have := HIL.out; simp [intOf]; omega
              · have z2 : (kind != 2) = true := by simpa using hk2
                rw [if_neg hk2, List.append_nil] at hLN
                have HLNN := Lib.hid hLN; clear hk2 hLN hdx hrt
                go_wp2_with fail
                go_roundw
                case rel => exact ⟨i + 1, H', S', os, ds, HIL.out, rfl, by rw [HLNN.out]; exact HDY.out.idle ((Keep.refl _ _).alloc _)⟩
                case measure => have := HIL.out; simp [intOf]; omega
            · have hj1 : ((i : Int) < (done.length : Int)) = False := eq_false (by omega)
              have HEQ : Hid (linesOf (done.take i) all = linesOf done all) := Lib.hid (by rw [List.take_of_length_le (by omega)])
              clear hil2 hrt
              go_wp2_with fail
              go_ret2
              have hd := HDY.out
              rw [HEQ.out] at hd
              have hz3 := HK3.out.size
              refine .inr ⟨HB.out, s', H', S', os, ds, _, HRUN.out, HOKS.out, rfl, by rw [HDN.out, HAL.out]; exact hd.dayed, hd.at_, (HChg.idle H HK3.out).trans hd.chg, ownsRow_base hd.out hz3, fun k hk => (hd.ap k hk).1⟩
end Go.Proofs.YthdkamnclbfehaaGreatDoor
/- The law HouseSerial, walked: it returns true, whatever the bays, the lines and the calls. -/
namespace Go.Proofs.YthdkamnclbfehaaGreatDoor
set_option linter.unusedSimpArgs false
set_option linter.unusedVariables false
set_option linter.unnecessarySimpa false
open Go.RowKit
def SRel (w : World) (g : List Int) (b1 d1 b2 d2 m : Nat) (gh : Nat) (s51 : Value) (wx : World) : Prop :=
  ∃ (j : Nat) (H1 H2 : HV) (S : St) (ls : List ByteArray), gh = m - j ∧ j ≤ m ∧ s51 = .int .i64 j ∧ H1.h = b1 ∧ H1.d = d1 ∧ H2.h = b2 ∧ H2.d = d2 ∧ Two w H1 H2 (gD ls) (gD ls) S S ls ls wx ∧ Rep runF (S0 g) ls S ∧ ls.length ≤ j
def SRel2 (w : World) (g : List Int) (H1 : HV) (b2 d2 : Nat) (S1 : St) (l1 os : List ByteArray) (vr vn vd : Value) (ds : List ByteArray) (gh : Nat) (s105 s19 : Value) (wx : World) : Prop :=
  ∃ (k : Nat) (H2 : HV) (Sg : St) (lg dsr lr : List ByteArray), gh = os.length - k ∧ k ≤ os.length ∧ s105 = .int .i64 k ∧ H2.h = b2 ∧ H2.d = d2 ∧ Two w H1 H2 (gD l1) (gD lg) S1 Sg l1 lg wx ∧ Dayed Sg lr (os.drop k) dsr S1 ∧ Rep runF (S0 g) lg Sg ∧ lg ++ dsr = l1 ∧
    Lst wx H2 s19 dsr ∧ Lst wx H2 vr os ∧ Lst wx H2 vn l1 ∧ Lst wx H2 vd ds
theorem enters39 : Enters 39 := enters_of Tryz.func39 (by kernel_rfl) rfl
theorem okC_six {c : CS} (h : okC c = true) : ∀ t ∈ c.all, t.length ≤ 6 := fun t ht => by
  unfold okC at h
  simp only [Bool.and_eq_true, Bool.not_eq_true', List.any_eq_false, decide_eq_true_eq] at h
  have := h.1 t ht
  omega
theorem day_fits {l : List CallR} {ls : List ByteArray} (hc : (cat ls).length ≤ 201 * 40) : okC (dayF l) = true → ∀ s', LRun 0 s0L (dayF l).h s' → Ok s' → (cat ls).length + 201 * ((linesOf s'.done (dayF l).all).length + 1) ≤ 200000 := by
  intro hok s' _ ho
  have h1 := linesOf_len (okC_six hok) s'.done
  have h2 := ho.tot
  unfold tot at h2
  omega
theorem dayBad_ok {l : List CallR} (h : dayBad l = false) : okC (dayF l) = true := by
  unfold dayBad at h
  simp only [Bool.or_eq_false_iff, Bool.not_eq_false'] at h
  exact h.2.2.1
theorem line_of {l l4 : List CallR} (h4 : l.take 14 = l4) {s : ByteArray} {done : List LOp} (h : s ∈ linesOf done (dayF l4).all) : (l.any fun c => decide (c.2 = s)) = true := by
  obtain ⟨t, ht, hs⟩ := linesOf_mem h
  subst h4
  obtain ⟨x, hx, hxs⟩ := ((dayF_inv (l.take 14)).each t ht).2 s hs
  exact List.any_eq_true.2 ⟨x, List.mem_of_mem_take hx, decide_eq_true hxs⟩
theorem day_tf {l : List CallR} (h : dayBad l = true) (q : dayBad l = false) : False := by rw [h] at q; cases q
theorem day_ft {l : List CallR} (h : dayBad l = false) (q : dayBad l = true) : False := by rw [h] at q; cases q
theorem callsC_one (l : List CallR) : ∀ u ∈ callsC l, u.oneCell' = true := by
  intro u hu
  simp only [callsC, List.mem_flatMap] at hu
  obtain ⟨o, _, h⟩ := hu
  simp [callC] at h
  rcases h with rfl | rfl <;> rfl
set_option maxHeartbeats 16000000 in
set_option maxRecDepth 100000 in
theorem houseSerial_any {w : World} {gv lv cv : Value} {g : List Int} {l : List ByteArray} {cl : List CallR} (hG : Glob w) (hg : Rd w 1 gv g.length (icells g)) (hgl : g.length < 9223372036854775807) (hv : Rd w 1 lv l.length (strCells l))
    (hl : ∀ s ∈ l, s.size ≤ 140737488355328) (hln : l.length ≤ 9223372036854775807) (hcv : Rd w 2 cv cl.length (callsC cl)) (hcs : ∀ c ∈ cl, c.2.size ≤ 140737488355328) (hcn : cl.length ≤ 9223372036854775806) :
    Calls Tryz.prog 10 #[gv, lv, cv] w (IdxPost w (.bool true)) := by
  obtain ⟨lo, lc, hve, hlc, _⟩ := hv.shape
  subst hve
  obtain ⟨go_, gc, hge, hgc, _⟩ := hg.shape
  subst hge
  obtain ⟨co, cc, hce, hccl, _⟩ := hcv.shape
  subst hce
  have H16 := Lib.hid (opened2_any hG hg (Nat.le_of_lt hgl))
  have HG := Lib.hid hG; clear hG
  have HGR := Lib.hid hg; clear hg
  have HV := Lib.hid hv; clear hv
  have HL := Lib.hid hl; clear hl
  have HCV := Lib.hid hcv; clear hcv
  have HCS := Lib.hid hcs; clear hcs
  have H162 : Hid (∀ W, Keep (fun _ => False) w W → Calls Tryz.prog 16 #[.slice go_ g.length gc] W (OpenedPost2 W (g.take 10))) := Lib.hid fun W hk => opened2_any (HG.out.keep hk) (HGR.out.keep hk (fun _ _ h => h)) (Nat.le_of_lt hgl)
  cases hb : baysB (g.take 10) with
  | false =>
    have HB := Lib.hid hb; clear hb
    go_enter Tryz.func10, Tryz.ntmps10
    go_wp2_with (first
      | (go_at_call 16; refine (H162.out w1 HK1.out).mono ?_; rintro e w2 ⟨hk2, _, hbad⟩; obtain ⟨d2, rfl⟩ := hbad HB.out; have HK2 := Lib.hid (HK1.out.trans hk2 (fun _ _ h => h)); clear hk2 hbad)
      | (go_at_call 16; refine H16.out.mono ?_; rintro e w1 ⟨hk1, _, hbad⟩; obtain ⟨d1, rfl⟩ := hbad HB.out; have HK1 := Lib.hid hk1; clear hk1 hbad)
      | (go_at_call 13; refine Calls.mono (awake_any (HG.out.keep HK2.out)) ?_; rintro e w3 ⟨rfl, hk3⟩; have HK3 := Lib.hid hk3; clear hk3))
    go_ret
    exact ⟨rfl, HK2.out.trans HK3.out (fun _ _ h => h)⟩
  | true =>
    have HB := Lib.hid hb; clear hb
    obtain ⟨m, hm⟩ : ∃ m, (min (l.length : Int) 40).toNat = m := ⟨_, rfl⟩
    have hml : m ≤ l.length := by omega
    have hm40 : m ≤ 40 := by omega
    have hm0 : (0 : Int) ≤ min (l.length : Int) 40 := by omega
    have hm1 : min (l.length : Int) 40 ≤ (lc : Int) := by omega
    go_enter Tryz.func10, Tryz.ntmps10
    go_wp2_with (first
      | (go_at_call 16; refine (H162.out w1 HK1.out).mono ?_; rintro e w2 ⟨hk2, hok, _⟩; obtain ⟨H2, rfl, hh2, hf2⟩ := hok HB.out; have HTWO := Lib.hid (Two.start HH1.out.1 HH1.out.2 HK1.out hh2 hf2 hk2); clear hk2 hok hh2 hf2)
      | (go_at_call 16; refine H16.out.mono ?_; rintro e w1 ⟨hk1, hok, _⟩; obtain ⟨H1, rfl, hh1, hf1⟩ := hok HB.out; have HK1 := Lib.hid hk1; have HH1 := Lib.hid (And.intro hh1 hf1); clear hk1 hok hh1 hf1))
    obtain ⟨b1, hb1⟩ : ∃ x, H1.h = x := ⟨_, rfl⟩
    obtain ⟨d1, hd1⟩ : ∃ x, H1.d = x := ⟨_, rfl⟩
    obtain ⟨b2, hb2⟩ : ∃ x, H2.h = x := ⟨_, rfl⟩
    obtain ⟨d2, hd2⟩ : ∃ x, H2.d = x := ⟨_, rfl⟩
    rw [hb1, hb2, hd1, hd2]
    have HE := Lib.hid (And.intro (And.intro hb1 hd1) (And.intro hb2 hd2)); clear hb1 hd1 hb2 hd2
    go_loopg [51] m (fun gh s51 wx => SRel w (g.take 10) b1 d1 b2 d2 m gh s51 wx)
    case atStart => exact ⟨0, H1, H2, _, _, rfl, Nat.zero_le _, rfl, HE.out.1.1, HE.out.1.2, HE.out.2.1, HE.out.2.2, HTWO.out, .nil _, Nat.le_refl _⟩
    case round =>
      obtain ⟨j, ⟨x1, y1, v1, V1, vl1⟩, ⟨x2, y2, v2, V2, vl2⟩, S, ls, rfl, hj, rfl, e1, e2, e3, e4, htwo, hrep, hlsj⟩ := hrel
      simp only at e1 e2 e3 e4
      subst e1 e2 e3 e4
      have hcat := cat_length_le hrep
      have HTW := Lib.hid htwo; have HREP := Lib.hid hrep; clear htwo hrep HTWO HE
      by_cases hlt : j < m
      · have hjl : ((j : Int) < (m : Int)) = True := by simp; omega
        have hjn : j < l.length := by omega
        have hrd := HV.out.keep HTW.out.keep (fun _ _ h => h)
        obtain ⟨b, o, hao, hcell⟩ : ∃ b o, lo = some ⟨b, o, none⟩ ∧ wr.cell? ⟨b, o + j, none⟩ = some (.string (l.getD j ByteArray.empty)) := by
          rcases hrd.2.2 with ⟨h, h'⟩ | ⟨b, o, c, h, _, _, hx⟩
          · omega
          · injection h with h1 h2 h3
            exact ⟨b, o, h1, hx _ _ (strCells_get l j hjn)⟩
        subst hao
        have hsz := HL.out (l.getD j ByteArray.empty) (by simp [List.getD, List.getElem?_eq_getElem hjn])
        obtain ⟨s, hs⟩ : ∃ s, l.getD j ByteArray.empty = s := ⟨_, rfl⟩
        rw [hs] at hcell hsz
        clear hs hrd
        have hstep := calm_step (S := S) (ls := ls) (by omega) s
        have HIN := Lib.hid (rep_inv (baysB_8 HB.out) HREP.out)
        obtain ⟨R, hR⟩ : ∃ R, doF runF S s = R := ⟨_, rfl⟩
        rw [hR] at hstep
        have HR := Lib.hid hR; clear hR
        obtain ⟨re, rs, ro⟩ := R
        by_cases he : re = 0
        · subst he
          rw [if_pos rfl] at hstep
          have HST := Lib.hid hstep; clear hstep
          go_wp2_with (first
            | (go_at_call 20; have hh := hdo_any (F := runF) (HG.out.keep HTW1.out.keep) HTW1.out.keep.size HTW1.out.h2 (HIN.out.small (by omega)) (by omega) (by omega) (run_ok HIN.out (by omega) s); rw [HST.out] at hh; refine Calls.mono hh ?_; clear hh; rintro e w6 ⟨⟨x4, y4, v4, V4, vl4⟩, rfl, h4, hc4⟩; obtain rfl : x2 = x4 := hc4.h.symm; obtain rfl : y2 = y4 := hc4.d.symm; have HTW2 := Lib.hid (HTW1.out.symm.step h4 hc4).symm; clear h4 hc4)
            | (go_at_call 20; have hh := hdo_any (F := runF) (HG.out.keep HTW.out.keep) HTW.out.keep.size HTW.out.h1 (HIN.out.small (by omega)) (by omega) (by omega) (run_ok HIN.out (by omega) s); rw [HST.out] at hh; refine Calls.mono hh ?_; clear hh; rintro e w5 ⟨⟨x3, y3, v3, V3, vl3⟩, rfl, h3, hc3⟩; obtain rfl : x1 = x3 := hc3.h.symm; obtain rfl : y1 = y3 := hc3.d.symm; have HTW1 := Lib.hid (HTW.out.step h3 hc3); clear h3 hc3))
          go_roundg (m - (j + 1))
          case measure => omega
          case rel => exact ⟨j + 1, ⟨x1, y1, v3, V3, vl3⟩, ⟨x2, y2, v4, V4, vl4⟩, rs, ls ++ [s], rfl, by omega, by go_num, rfl, rfl, rfl, rfl, HTW2.out, by have h := HREP.out.snoc (s := s) (by rw [HR.out]); rw [HR.out] at h; exact h, by simp; omega⟩
        · rw [if_neg he] at hstep
          have HST := Lib.hid hstep; clear hstep
          go_wp2_with (first
            | (go_at_call 20; have hh := hdo_any (F := runF) (HG.out.keep HTW1.out.keep) HTW1.out.keep.size HTW1.out.h2 (HIN.out.small (by omega)) (by omega) (by omega) (run_ok HIN.out (by omega) s); rw [HST.out] at hh; refine Calls.mono hh ?_; clear hh; rintro e w6 ⟨⟨x4, y4, v4, V4, vl4⟩, rfl, h4, hc4⟩; obtain rfl : x2 = x4 := hc4.h.symm; obtain rfl : y2 = y4 := hc4.d.symm; have HTW2 := Lib.hid (HTW1.out.symm.step h4 hc4).symm; clear h4 hc4)
            | (go_at_call 20; have hh := hdo_any (F := runF) (HG.out.keep HTW.out.keep) HTW.out.keep.size HTW.out.h1 (HIN.out.small (by omega)) (by omega) (by omega) (run_ok HIN.out (by omega) s); rw [HST.out] at hh; refine Calls.mono hh ?_; clear hh; rintro e w5 ⟨⟨x3, y3, v3, V3, vl3⟩, rfl, h3, hc3⟩; obtain rfl : x1 = x3 := hc3.h.symm; obtain rfl : y1 = y3 := hc3.d.symm; have HTW1 := Lib.hid (HTW.out.step h3 hc3); clear h3 hc3))
          go_roundg (m - (j + 1))
          case measure => omega
          case rel => exact ⟨j + 1, ⟨x1, y1, v3, V3, vl3⟩, ⟨x2, y2, v4, V4, vl4⟩, S, ls, rfl, by omega, by go_num, rfl, rfl, rfl, rfl, HTW2.out, HREP.out, by omega⟩
      · have hje : j = m := by omega
        subst hje
        have hjl : ((j : Int) < (j : Int)) = False := by simp
        obtain ⟨l4, hl4⟩ : ∃ l4, cl.take 14 = l4 := ⟨_, rfl⟩
        have hl414 : l4.length ≤ 14 := by rw [← hl4, List.length_take]; omega
        have HS4 : Hid (∀ c ∈ l4, c.2.size ≤ 9223372036854775807) := Lib.hid (fun c hc => by rw [← hl4] at hc; have := HCS.out c (List.mem_of_mem_take hc); omega)
        have HL4 := Lib.hid hl4; clear hl4
        have HFT := Lib.hid (day_fits (l := l4) (ls := ls) (by omega))
        have HD36 : Hid (∀ W v6, Two w ⟨x1, y1, v1, V1, vl1⟩ ⟨x2, y2, v2, V2, vl2⟩ (gD ls) (gD ls) S S ls ls W → Rd W 2 v6 l4.length (callsC l4) → Calls Tryz.prog 36 #[.pointer (some ⟨x1, 0, none⟩), v6] W (DayPost w.heap.size 200000 W ⟨x1, y1, v1, V1, vl1⟩ S ls (l4))) := Lib.hid fun W v6 htw hrd =>
          day_any (base := w.heap.size) (n := 200000) (g := g.take 10) (ls := ls) (l := l4) ⟨w, rfl, HG.out, htw.keep.toBelow⟩ htw.h1 (baysB_8 HB.out) HREP.out (by omega) hrd hl414 HS4.out (by omega) HFT.out
        cases hdb : dayBad l4 with
        | true =>
          have HDB := Lib.hid hdb; clear hdb
          go_wp2_with (first
            | (go_at_call 19; have hh := journal_any HTW7.out.h1 (by omega); refine Calls.mono hh ?_; clear hh; rintro e w8 ⟨v8, rfl, ho8, hk8⟩; obtain ⟨ao8, cap8, rfl, _⟩ := ownsRow_shape ho8; have HO8 := Lib.hid (ownsRow_rd ho8 (strCells_one _)); have HL8 := Lib.hid (HL7.out.idle hk8); have HTW8 := Lib.hid (HTW7.out.idle hk8); clear ho8 hk8)
            | (go_at_call 36; go_loud (refine Calls.mono (HD36.out _ _ HTW6.out HO6.out) ?_; rintro e w7 hdp; obtain ⟨_, rfl, hk7⟩ := hdp.resolve_right (fun q => day_tf HDB.out q.1); have HL7 := Lib.hid (HL6.out.idle hk7); have HTW7 := Lib.hid (HTW6.out.idle hk7); clear hk7 hdp))
            | (go_at_call 37; have hh := calls_any (HCV.out.keep HTW5.out.keep (fun _ _ e => e)) hcn; rw [HL4.out] at hh; refine Calls.mono hh ?_; clear hh; rintro e w6 ⟨v6, rfl, ho6, hk6⟩; obtain ⟨ao6, cap6, rfl, _⟩ := ownsRow_shape ho6; have HO6 := Lib.hid (ownsRow_rd ho6 (callsC_one _)); have HL6 := Lib.hid (HL5.out.idle hk6); have HTW6 := Lib.hid (HTW5.out.idle hk6); clear ho6 hk6)
            | (go_at_call 19; have hh := journal_any HTW.out.h1 (by omega); refine Calls.mono hh ?_; clear hh; rintro e w5 ⟨v5, rfl, ho5, hk5⟩; obtain ⟨ao5, cap5, rfl, _⟩ := ownsRow_shape ho5; have HL5 := Lib.hid (Lst.new HTW.out.h1 ho5); have HTW5 := Lib.hid (HTW.out.idle hk5); clear ho5 hk5)
            | (go_at_call 21; have hh := eqS_any HO8.out HL8.out.rd (by omega); rw [show eqL ls ls = true from decide_eq_true rfl] at hh; refine Calls.mono hh ?_; clear hh; rintro e w9 ⟨rfl, q9, rfl⟩)
            | (go_at_call 13; refine Calls.mono (awake_any (HG.out.keep (HTW8.out.keep.drewN q9))) ?_; rintro e w10 ⟨rfl, hk10⟩; have HK10 := Lib.hid hk10; clear hk10))
          go_ret
          exact ⟨rfl, (HTW8.out.keep.drewN q9).trans HK10.out (fun _ _ h => h)⟩
        | false =>
          have HDB := Lib.hid hdb; clear hdb
          have HLN : Hid (∀ s', LRun 0 s0L (dayF l4).h s' → Ok s' → (linesOf s'.done (dayF l4).all).length ≤ 1000) := Lib.hid fun s' h1 h2 => by have := HFT.out (dayBad_ok HDB.out) s' h1 h2; omega
          go_wp2_with (first
            | (go_at_call 19; have hh := journal_any HTW7.out.h1 (by rw [List.length_append]; have := HDY.out.sub; have := HLN.out s' HRUN.out HOKS.out; omega); refine Calls.mono hh ?_; clear hh; rintro e w8 ⟨v8, rfl, ho8, hk8⟩; obtain ⟨ao8, cap8, rfl, hcap8, _⟩ := ownsRow_shape ho8; have HN8 := Lib.hid (Lst.new HTW7.out.h2 ho8); have HL8 := Lib.hid (HL7.out.idle hk8); have HTW8 := Lib.hid (HTW7.out.idle hk8); have HO8 := Lib.hid (ownsRow_keep HO7.out hk8 (fun _ _ e => e)); have HZ8 := Lib.hid hk8.size; have hlt8 : decide (((ls ++ ds).length : Int) < (ls.length : Int)) = false := decide_eq_false (by rw [List.length_append]; omega); have hlt9 : ¬ (ls ++ ds).length < ls.length := (by rw [List.length_append]; omega); have hle8 : (ls.length : Int) ≤ (cap8 : Int) := (by rw [List.length_append] at hcap8; omega); have hge8 : (0 : Int) ≤ (ls.length : Int) := (by omega); have HT8 : Hid (Rd w8 1 (.slice ao8 ls.length cap8) ls.length (strCells ls)) := Lib.hid (by have h := HN8.out.rd.takeV ls.length (by rw [List.length_append]; omega); rw [show (strCells (ls ++ ds)).take ls.length = strCells ls by simp [strCells]] at h; exact h); obtain ⟨so8, cs8, hsl8, hrd8, hob8⟩ := str_from HN8.out.rd ls.length (by rw [List.length_append]; omega); rw [List.drop_left] at hsl8 hrd8 hob8; have HD8 : Hid (Lst w8 ⟨x2, y2, v2, V2, vl2⟩ (.slice so8 ds.length cs8) ds) := Lib.hid ⟨hrd8, fun k hk => HN8.out.ap k (hob8 k hk)⟩; obtain ⟨nn, hnn⟩ : ∃ nn, (ls ++ ds).length = nn := ⟨_, rfl⟩; rw [hnn] at hlt8 hlt9 hsl8 ⊢; have HNN := Lib.hid hnn; clear ho8 hk8 hcap8 hrd8 hob8 hnn)
            | (go_at_call 36; go_loud (refine Calls.mono (HD36.out _ _ HTW6.out HO6.out) ?_; rintro e w7 hdp; obtain ⟨_, s', ⟨x3, y3, v3, V3, vl3⟩, S1, os, ds, vo, hrun, hoks, rfl, hdy, hh7, hc7, ho7, hap7⟩ := hdp.resolve_left (fun q => day_ft HDB.out q.1); obtain rfl : x1 = x3 := hc7.h.symm; obtain rfl : y1 = y3 := hc7.d.symm; obtain ⟨aoo, capo, rfl, _⟩ := ownsRow_shape ho7; have HRUN := Lib.hid hrun; have HOKS := Lib.hid hoks; have HDY := Lib.hid hdy; have HL7 := Lib.hid (HL6.out.step hc7); have HTW7 := Lib.hid (HTW6.out.step hh7 hc7); have HO7 := Lib.hid ho7; have HZ67 := Lib.hid (⟨HTW6.out.h2.tp_lt, hc7.keep.size⟩ : (∀ k, (⟨x2, y2, v2, V2, vl2⟩ : Go.Proofs.YthdkamnclbfehaaGreatDoor.HV).tp k → k < w6.heap.size) ∧ w6.heap.size ≤ w7.heap.size); clear hdp hrun hoks hdy hh7 hc7 ho7 hap7))
            | (go_at_call 37; have hh := calls_any (HCV.out.keep HTW5.out.keep (fun _ _ e => e)) hcn; rw [HL4.out] at hh; refine Calls.mono hh ?_; clear hh; rintro e w6 ⟨v6, rfl, ho6, hk6⟩; obtain ⟨ao6, cap6, rfl, _⟩ := ownsRow_shape ho6; have HO6 := Lib.hid (ownsRow_rd ho6 (callsC_one _)); have HL6 := Lib.hid (HL5.out.idle hk6); have HTW6 := Lib.hid (HTW5.out.idle hk6); clear ho6 hk6)
            | (go_at_call 19; have hh := journal_any HTW.out.h1 (by omega); refine Calls.mono hh ?_; clear hh; rintro e w5 ⟨v5, rfl, ho5, hk5⟩; obtain ⟨ao5, cap5, rfl, _⟩ := ownsRow_shape ho5; have HL5 := Lib.hid (Lst.new HTW.out.h1 ho5); have HTW5 := Lib.hid (HTW.out.idle hk5); clear ho5 hk5)
            | (go_at_call 21; have hh := eqS_any HT8.out HL8.out.rd (by omega); rw [show eqL ls ls = true from decide_eq_true rfl] at hh; refine Calls.mono hh ?_; clear hh; rintro e w9 ⟨rfl, q9, rfl⟩))
          have hdsub := HDY.out.sub
          have HCT : Hid ((cat (ls ++ ds)).length ≤ 199799 ∧ (ls ++ ds).length ≤ 2000 ∧ os.length ≤ 1000) := Lib.hid (by
            have h1 := HFT.out (dayBad_ok HDB.out) s' HRUN.out HOKS.out
            have h2 := cat_length_le HDY.out.rep
            have h3 := HLN.out s' HRUN.out HOKS.out
            have h4 := hdsub.2.2
            have h5 := hdsub.2.1
            rw [cat_append, List.length_append, List.length_append]
            refine ⟨by omega, by omega, by omega⟩)
          have HDS : Hid (∀ s ∈ ds, (cl.any fun c => decide (c.2 = s)) = true) := Lib.hid fun s hs => line_of HL4.out (hdsub.1 s hs)
          have HTW9 := Lib.hid (HTW8.out.idle ((Keep.refl _ _).drewN q9))
          have HR9 : Hid (Lst (w8.drewN q9) ⟨x2, y2, v2, V2, vl2⟩ (.slice aoo os.length capo) os) := Lib.hid (Lst.idle (wx := w8) ⟨ownsRow_rd HO8.out (strCells_one os), fun b hb => ⟨fun t => by
            have h1 := (ownsRow_lt HO8.out b hb).1
            have h2 := HZ67.out.1 b t
            omega, (ownsRow_lt HO8.out b hb).2⟩⟩ ((Keep.refl _ _).drewN q9))
          have HN9 := Lib.hid (HN8.out.idle ((Keep.refl _ _).drewN q9))
          have HD9 := Lib.hid (HD8.out.idle ((Keep.refl _ _).drewN q9))
          rw [HNN.out] at HN9
          have hREL : SRel2 w (g.take 10) ⟨x1, y1, v3, V3, vl3⟩ x2 y2 S1 (ls ++ ds) os (.slice aoo os.length capo) (.slice ao8 nn cap8) (.slice so8 ds.length cs8) ds os.length (.int .i64 0) (.slice so8 ds.length cs8) (w8.drewN q9) :=
            ⟨0, ⟨x2, y2, v2, V2, vl2⟩, S, ls, ds, _, rfl, Nat.zero_le _, rfl, rfl, rfl, HTW9.out, HDY.out, HREP.out, rfl, HD9.out, HR9.out, HN9.out, HD9.out⟩
          have HREL := Lib.hid hREL; clear hREL hdsub HTW9 HR9 HN9 HD9 hlt8 HT8 HN8 HL8 HTW8 HO8 HD8 HTW7 HTW6 HTW5 HTW HO7 HO6 HL7 HL6 HL5 HZ67 HZ8
          go_loopg [105, 19] os.length (fun gh s105 s19 wx => SRel2 w (g.take 10) ⟨x1, y1, v3, V3, vl3⟩ x2 y2 S1 (ls ++ ds) os (.slice aoo os.length capo) (.slice ao8 nn cap8) (.slice so8 ds.length cs8) ds gh s105 s19 wx)
          case atStart => exact HREL.out
          case round =>
            clear HREL
            obtain ⟨k, ⟨x4, y4, v4, V4, vl4⟩, Sg, lg, dsr, lr, rfl, hk, rfl, e3, e4, htwo, hdy, hrep2, hcat2, hl19, hlr, hln, hld⟩ := hrel
            simp only at e3 e4
            subst e3 e4
            obtain ⟨ao19, cap19, hs19, _⟩ := hl19.rd.shape
            subst hs19
            have HTW := Lib.hid htwo; have HDY2 := Lib.hid hdy; have HREP2 := Lib.hid hrep2; have HCA2 := Lib.hid hcat2; have HL19 := Lib.hid hl19; have HLR := Lib.hid hlr; have HLN2 := Lib.hid hln; have HLD := Lib.hid hld
            have hcl : (cat lg).length ≤ 199799 ∧ lg.length ≤ 2000 := by
              have h1 := HCT.out
              rw [← hcat2, cat_append, List.length_append, List.length_append] at h1
              omega
            clear htwo hdy hrep2 hcat2 hl19 hlr hln hld
            by_cases hkl : k < os.length
            · have hk1 : ((k : Int) < (os.length : Int)) = True := by simp; omega
              obtain ⟨b, o, hao, hcell⟩ : ∃ b o, aoo = some ⟨b, o, none⟩ ∧ wr.cell? ⟨b, o + k, none⟩ = some (.string (os.getD k ByteArray.empty)) := by
                rcases HLR.out.rd.2.2 with ⟨h, h'⟩ | ⟨b, o, c, h, _, _, hx⟩
                · omega
                · injection h with h1 h2 h3
                  exact ⟨b, o, h1, hx _ _ (strCells_get os k hkl)⟩
              subst hao
              have hdr : os.drop k = os.getD k ByteArray.empty :: os.drop (k + 1) := by rw [List.drop_eq_getElem_cons hkl]; simp [List.getD, List.getElem?_eq_getElem hkl]
              obtain ⟨x, hx⟩ : ∃ x, os.getD k ByteArray.empty = x := ⟨_, rfl⟩
              rw [hx] at hcell hdr
              have hdy := HDY2.out
              rw [hdr] at hdy
              have HKL := Lib.hid hkl
              have hkb : k ≤ 1000 := by have := HCT.out.2.2; omega
              clear hx hdr hkl HDY2
              rcases hdy.cons with ⟨hxb, lr', hd'⟩ | ⟨hxb, s, ds', lr', hds, he, ho, hd'⟩
              · have zb : (x.toList == [33]) = true := beq_iff_eq.2 ((toList_bs _ _).2 hxb)
                have HD2 := Lib.hid hd'
                clear hdy hxb hd'
                go_wp2_with fail
                go_roundg (os.length - (k + 1))
                case measure => have := HKL.out; omega
                case rel => exact ⟨k + 1, ⟨x4, y4, v4, V4, vl4⟩, Sg, lg, dsr, lr', rfl, HKL.out, by go_num, rfl, rfl, HTW.out, HD2.out, HREP2.out, HCA2.out, HL19.out, HLR.out, HLN2.out, HLD.out⟩
              · subst hds
                have zb : (x.toList == [33]) = false := beq_eq_false_iff_ne.2 (fun q => hxb ((toList_bs _ _).1 q))
                have hss : s.size ≤ 200 := doF_size he
                have hstep := calm_step (S := Sg) (ls := lg) hcl.1 s
                rw [if_pos he, ho] at hstep
                have HST := Lib.hid hstep
                have HIN := Lib.hid (rep_inv (baysB_8 HB.out) HREP2.out)
                have HRS := Lib.hid (HREP2.out.snoc he)
                have HCA3 : Hid ((lg ++ [s]) ++ ds' = ls ++ ds) := Lib.hid (by rw [List.append_assoc]; exact HCA2.out)
                have HD2 := Lib.hid hd'
                obtain ⟨b9, o9, hao9, hcell9⟩ : ∃ b9 o9, ao19 = some ⟨b9, o9, none⟩ ∧ wr.cell? ⟨b9, o9, none⟩ = some (.string s) := by
                  rcases HL19.out.rd.2.2 with ⟨h, h'⟩ | ⟨b, o, c, h, _, _, hx⟩
                  · simp at h'
                  · injection h with h1 h2 h3
                    exact ⟨b, o, h1, hx 0 _ rfl⟩
                subst hao9
                obtain ⟨so9, cs9, hsl9, hrd9, hob9⟩ := str_from HL19.out.rd 1 (by simp)
                rw [show (s :: ds').drop 1 = ds' from rfl] at hsl9 hrd9 hob9
                have HSB : Hid (∀ q, (Value.slice so9 ds'.length cs9).ownBlock = some q → (Value.slice (some ⟨b9, o9, none⟩) (s :: ds').length cap19).ownBlock = some q) := Lib.hid hob9
                have HL9 : Hid (Lst wr ⟨x4, y4, v4, V4, vl4⟩ (.slice so9 ds'.length cs9) ds') := Lib.hid ⟨hrd9, fun q hq => HL19.out.ap q (hob9 q hq)⟩
                obtain ⟨n5, hn5⟩ : ∃ n5, (s :: ds').length = n5 := ⟨_, rfl⟩
                have h5 : 0 < n5 := by rw [← hn5]; simp
                rw [hn5] at hsl9 ⊢
                have hslA : ∀ W, (Instr.slice 44 (.slice (some ⟨b9, o9, none⟩) n5 cap19) (some (.int .i64 1)) none none).run Tryz.prog W = .ok (.slice so9 ds'.length cs9) W := hsl9
                have z5 : ((n5 : Int) == 0) = false := by simp; omega
                have hn50 : ((0 : Int) < (n5 : Int)) = True := eq_true (by omega)
                clear hdy hxb hd' hstep he ho hrd9 hob9 HSB hn5 hsl9
                go_wp2_with (go_at_call 20; have hh := hdo_any (F := runF) (HG.out.keep HTW.out.keep) HTW.out.keep.size HTW.out.h2 (HIN.out.small (by omega)) (by omega) (by omega) (run_ok HIN.out (by omega) s); rw [HST.out] at hh; refine Calls.mono hh ?_; clear hh; rintro e w7 ⟨⟨x5, y5, v7, V7, vl7⟩, rfl, h7, hc7⟩; obtain rfl : x4 = x5 := hc7.h.symm; obtain rfl : y4 = y5 := hc7.d.symm; have HTW7 := Lib.hid (HTW.out.symm.step h7 hc7).symm; have HL97 := Lib.hid (HL9.out.step hc7); have HLR7 := Lib.hid (HLR.out.step hc7); have HLN7 := Lib.hid (HLN2.out.step hc7); have HLD7 := Lib.hid (HLD.out.step hc7); clear h7 hc7)
                go_roundg (os.length - (k + 1))
                case measure => have := HKL.out; omega
                case rel => exact ⟨k + 1, ⟨x4, y4, v7, V7, vl7⟩, (doF runF Sg s).st, lg ++ [s], ds', lr', rfl, HKL.out, by go_num, rfl, rfl, HTW7.out, HD2.out, HRS.out, HCA3.out, HL97.out, HLR7.out, HLN7.out, HLD7.out⟩
            · have hk1 : ((k : Int) < (os.length : Int)) = False := by simp; omega
              have hdy := HDY2.out
              rw [List.drop_of_length_le (by omega)] at hdy
              obtain ⟨hds0, hSg⟩ := hdy.done
              subst hds0 hSg
              have HIN := Lib.hid (rep_inv (baysB_8 HB.out) HREP2.out)
              clear hdy hkl HDY2 HL19
              go_wp2_with fail
              obtain ⟨wS, hwS⟩ : ∃ wS, wS = wr := ⟨_, rfl⟩
              rw [← hwS] at HTW HLD ⊢
              clear hwS
              go_loopg [137] ds.length (fun gh s137 wx => ∃ i : Nat, gh = ds.length - i ∧ i ≤ ds.length ∧ s137 = .int .i64 i ∧ Keep (fun _ => False) wS wx)
              case atStart => exact ⟨0, rfl, Nat.zero_le _, rfl, Keep.refl _ _⟩
              case round =>
                obtain ⟨i, rfl, hi, rfl, hki⟩ := hrel
                have hib : i ≤ 2000 := by have := HCT.out.2.1; rw [List.length_append] at this; omega
                have HKI := Lib.hid hki; clear hki
                by_cases hil : i < ds.length
                · have hi1 : ((i : Int) < (ds.length : Int)) = True := by simp; omega
                  have hrd := HLD.out.rd.keep HKI.out (fun _ _ e => e)
                  obtain ⟨b, o, hao, hcell⟩ : ∃ b o, so8 = some ⟨b, o, none⟩ ∧ wr.cell? ⟨b, o + i, none⟩ = some (.string (ds.getD i ByteArray.empty)) := by
                    rcases hrd.2.2 with ⟨h, h'⟩ | ⟨b, o, c, h, _, _, hx⟩
                    · omega
                    · injection h with h1 h2 h3
                      exact ⟨b, o, h1, hx _ _ (strCells_get ds i hil)⟩
                  subst hao
                  have hmem : ds.getD i ByteArray.empty ∈ ds := by simp [List.getD, List.getElem?_eq_getElem hil]
                  obtain ⟨s, hs⟩ : ∃ s, ds.getD i ByteArray.empty = s := ⟨_, rfl⟩
                  rw [hs] at hcell hmem
                  have hany := HDS.out s hmem
                  have HCT9 : Hid (Calls Tryz.prog 38 #[.slice co cl.length cc, .func (.func 39) #[] #[.pointer (some ⟨wr.heap.size, 0, none⟩)]] (wr.alloc (.cells #[.string s] 9)) (IdxPost (wr.alloc (.cells #[.string s] 9)) (.bool true))) := Lib.hid (by
                    have hh := contR_any (HCV.out.keep ((HTW.out.keep.trans HKI.out (fun _ _ e => e)).alloc (.cells #[.string s] 9)) (fun _ _ e => e)) enters39 (sameLine_any (w := wr.alloc (.cells #[.string s] 9)) (g := wr.heap.size) (s := s) (by simp) (by simp) cl) (by omega)
                    rw [hany] at hh
                    exact hh)
                  have HIL := Lib.hid hil; clear hil hs hrd hmem hany
                  go_wp2_with (go_at_call 38; refine Calls.mono HCT9.out ?_; rintro e w9 ⟨rfl, hk9⟩; have HK9 := Lib.hid ((HKI.out.alloc _).trans hk9 (fun _ _ e => e)); clear hk9)
                  go_roundg (ds.length - (i + 1))
                  case measure => have := HIL.out; omega
                  case rel => exact ⟨i + 1, rfl, HIL.out, by go_num, HK9.out⟩
                · have hi1 : ((i : Int) < (ds.length : Int)) = False := by simp; omega
                  have HTWI := Lib.hid (HTW.out.idle HKI.out)
                  obtain ⟨Tx, hTx⟩ : ∃ Tx, textF Sg = Tx := ⟨_, rfl⟩
                  have HT := Lib.hid hTx; clear hTx hil
                  go_wp2_with (first
                    | (go_at_call 30; have hh := state_any (HG.out.keep HTW10.out.keep) HTW10.out.h1 HIN.out (by omega); rw [HT.out] at hh; refine Calls.mono hh ?_; clear hh; rintro e w11 ⟨rfl, hk11⟩; have HTW11 := Lib.hid (HTW10.out.idle hk11); clear hk11)
                    | (go_at_call 30; have hh := state_any (HG.out.keep HTWI.out.keep) HTWI.out.h2 HIN.out (by omega); rw [HT.out] at hh; refine Calls.mono hh ?_; clear hh; rintro e w10 ⟨rfl, hk10⟩; have HTW10 := Lib.hid (HTWI.out.idle hk10); clear hk10)
                    | (go_at_call 13; refine Calls.mono (awake_any (HG.out.keep HTW11.out.keep)) ?_; rintro e w12 ⟨rfl, hk12⟩; have HK12 := Lib.hid hk12; clear hk12))
                  go_ret
                  exact ⟨rfl, HTW11.out.keep.trans HK12.out (fun _ _ h => h)⟩
end Go.Proofs.YthdkamnclbfehaaGreatDoor
