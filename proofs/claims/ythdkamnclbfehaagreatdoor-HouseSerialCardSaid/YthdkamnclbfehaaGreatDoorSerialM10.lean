/- append as one operation of a drawn region. -/
import Derived.Test.YthdkamnclbfehaaGreatDoorSerialM2
import Derived.Deep.RegionHeld3
/- append as one operation of a drawn region. -/
namespace Go.Proofs.YthdkamnclbfehaaGreatDoor
set_option linter.unusedSimpArgs false
set_option linter.unusedVariables false
set_option linter.unnecessarySimpa false
open Go.RowKit
theorem oper_app {P : Program} {w : World} {o : Oper} {a : Act} {K : Act → World → Prop} {Q : Exit → Act → World → Prop} (s x : Operand) (t tx : TypeId)
    (ho : o.op = .call { callee := .builtin .append, args := #[s, x], argTypes := #[t, tx] })
    (e : TypeId) (z : Value) (size bytes : Nat) (ht : P.underlying t = some (.slice e)) (hinfo : (P.info? e).map (fun i => (i.zero, i.size, i.bytes)) = some (some z, size, bytes)) (hzs : z.cells.size = size)
    {base : Nat} {v : Value} {n : Nat} {xs : List Value} (hown : w.ownsRow base e size v n xs) (hs : a.eval s = v)
    {xv : Value} {m : Nat} {news : List Value} (hsrc : Src P size tx xv m news w) (hx : a.eval x = xv)
    (h63 : n + m ≤ maxLen) (hbytes : (n + m) * bytes ≤ 140737488355328) (hbase : base ≤ w.heap.size)
    (h : ∀ v' w', App w base e size v n xs m news v' w' → K (a.put o.dst v') w') : Oper.wp P o a w K Q := by
  obtain ⟨i, hi, hz, hsize, hby⟩ := info_parts hinfo
  obtain ⟨v', w', hr, happ⟩ := run_app (P := P) w base t tx o.type e i z size bytes ht hi hz hsize hby hzs v n xs hown xv m news hsrc h63 hbytes hbase
  unfold Oper.wp execOp
  simp only [ho, resolve, invoke, builtin, Sem.run_bind, Sem.run_pure, Result.andThen_ok, List.map_toArray, List.map_cons, List.map_nil, hs, hx, hr]
  exact h _ _ happ
theorem Rd.new (w : World) (size n : Nat) (cs : List Value) (t : TypeId) (hl : cs.length = n * size) (h1 : ∀ u ∈ cs, u.oneCell' = true) (hn : n ≤ maxLen) :
    Rd (w.alloc (.cells cs.toArray t)) size (.slice (some ⟨w.heap.size, 0, none⟩) n n) n cs := by
  refine ⟨hl, h1, .inr ⟨w.heap.size, 0, n, rfl, Nat.le_refl _, hn, fun j u hu => ?_⟩⟩
  rw [Nat.zero_add, World.cell?_alloc_new]
  simpa using hu
theorem Rd.drew {w : World} {size : Nat} {v : Value} {n : Nat} {xs : List Value} (h : Rd w size v n xs) : Rd w.drew size v n xs := h
end Go.Proofs.YthdkamnclbfehaaGreatDoor
/- A region that draws its order, all of whose steps keep one relation. -/
namespace Go.Proofs.YthdkamnclbfehaaGreatDoor
set_option linter.unusedSimpArgs false
set_option linter.unusedVariables false
set_option linter.unnecessarySimpa false
open Go.RowKit
end Go.Proofs.YthdkamnclbfehaaGreatDoor
/- A drawn region whose act is a letter: the slots that it writes, as a function. -/
namespace Go.Proofs.YthdkamnclbfehaaGreatDoor
set_option linter.unusedSimpArgs false
set_option linter.unusedVariables false
set_option linter.unnecessarySimpa false
open Go.RowKit
def updL (a : Act) (f : Nat → Value) : List Nat → Act
  | [] => a
  | k :: ks => updL (a.put (some k) (f k)) f ks
def upd1 (f : Nat → Value) (k : Nat) (v : Value) : Nat → Value := fun x => cond (Nat.beq x k) v (f x)
theorem put_get? (a : Act) (k i : Nat) (v : Value) : (a.put (some k) v).tmps[i]? = if k = i ∧ i < a.tmps.size then some v else a.tmps[i]? := by
  show (a.tmps.setIfInBounds k v)[i]? = _
  rw [Array.getElem?_setIfInBounds]
  by_cases h : k = i
  · subst h
    by_cases hk : k < a.tmps.size
    · simp [hk]
    · simp [hk]
  · simp [h]
theorem put_size (a : Act) (k : Nat) (v : Value) : (a.put (some k) v).tmps.size = a.tmps.size := by simp [Act.put]
theorem updL_size (f : Nat → Value) : ∀ (ks : List Nat) (a : Act), (updL a f ks).tmps.size = a.tmps.size
  | [], _ => rfl
  | k :: ks, a => (updL_size f ks _).trans (put_size a k _)
theorem updL_defers (f : Nat → Value) : ∀ (ks : List Nat) (a : Act), (updL a f ks).defers = a.defers
  | [], _ => rfl
  | k :: ks, a => updL_defers f ks _
theorem updL_get? (f : Nat → Value) : ∀ (ks : List Nat) (a : Act) (i : Nat), (updL a f ks).tmps[i]? = if i ∈ ks ∧ i < a.tmps.size then some (f i) else a.tmps[i]?
  | [], a, i => by simp [updL]
  | k :: ks, a, i => by
    show (updL (a.put (some k) (f k)) f ks).tmps[i]? = _
    rw [updL_get? f ks, put_size, put_get?]
    by_cases h : i < a.tmps.size
    · by_cases h1 : i ∈ ks
      · simp [h, h1]
      · by_cases h2 : k = i
        · subst h2; simp [h, h1]
        · simp [h, h1, h2, Ne.symm h2]
    · simp [h]
theorem updL_put {a : Act} {f : Nat → Value} {ks : List Nat} {k : Nat} {v : Value} (hk : ks.contains k = true) : (updL a f ks).put (some k) v = updL a (upd1 f k v) ks := by
  have h1 : ((updL a f ks).put (some k) v).defers = (updL a (upd1 f k v) ks).defers := by
    rw [updL_defers]; exact updL_defers _ _ _
  have h2 : ((updL a f ks).put (some k) v).tmps = (updL a (upd1 f k v) ks).tmps := by
    apply Array.ext_getElem?
    intro i
    rw [put_get?, updL_size, updL_get?, updL_get?]
    by_cases h : i < a.tmps.size
    · by_cases h2 : k = i
      · subst h2
        have := List.contains_iff_mem.1 hk
        simp [h, this, upd1]
      · by_cases h3 : i ∈ ks
        · have h4 : Nat.beq i k = false := by
            cases h5 : Nat.beq i k with
            | false => rfl
            | true => exact absurd (Nat.eq_of_beq_eq_true h5).symm h2
          simp [h, h2, h3, upd1, h4]
        · simp [h, h2, h3]
    · simp [h]
  cases h3 : (updL a f ks).put (some k) v with
  | mk t d =>
    cases h4 : updL a (upd1 f k v) ks with
    | mk t' d' =>
      rw [h3, h4] at h1 h2
      simp only at h1 h2
      rw [h1, h2]
theorem put_me (a : Act) (d : Nat) : a.put (some d) (a.tmps[d]?.getD undef) = a := by
  cases a with
  | mk t df =>
    simp only [Act.put, Act.mk.injEq, and_true]
    apply Array.ext_getElem?
    intro i
    rw [Array.getElem?_setIfInBounds]
    split
    · rename_i h; subst h; split
      · rename_i h2; rw [Array.getElem?_eq_getElem h2]; rfl
      · rename_i h2; rw [Array.getElem?_eq_none (by omega)]
    · rfl
theorem updL_self (a : Act) : ∀ ks : List Nat, updL a (fun k => a.tmps[k]?.getD undef) ks = a
  | [] => rfl
  | k :: ks => by
    show updL (a.put (some k) (a.tmps[k]?.getD undef)) _ ks = a
    rw [put_me]
    exact updL_self a ks
theorem region_letters {P : Program} {id : Nat} {ops : Array Oper} {b : Bool} {Q : Exit → Act → World → Prop} {a : Act} {w : World} (h : ∀ Q1, Q1 = Q → (Code.region id ops b).wp P Q1 a w) : (Code.region id ops b).wp P Q a w := h Q rfl
theorem uE0 (a0 : Act) (ks : List Nat) : ∃ f, a0 = updL a0 f ks := ⟨_, (updL_self a0 ks).symm⟩
theorem uE {a0 a a' : Act} {d : Nat} {v : Value} {ks : List Nat} (h : Hid (a' = a.put (some d) v)) (g : ∃ f, a = updL a0 f ks) (hd : ks.contains d = true) : ∃ f, a' = updL a0 f ks := by
  obtain ⟨f, hf⟩ := g
  exact ⟨upd1 f d v, by rw [h.out, hf]; exact updL_put hd⟩
theorem wpAnyH_letter {P : Program} {md : Region.Mode} {ops : Array Oper} {Q : Exit → Act → World → Prop} {S : World → Prop} {fuel : Nat} {l : Array Bool} {a0 : Act} {w : World} (h : ∀ a1, Hid (a1 = a0) → wpAnyH P md ops Q S fuel l a1 w) : wpAnyH P md ops Q S fuel l a0 w := h a0 (Lib.hid rfl)
theorem put_at {a a' : Act} {d : Nat} {v : Value} (h : Hid (a' = a.put (some d) v)) {n : Nat} (hs : a.tmps.size = n) (hd : d < n) : a'.tmps[d]?.getD undef = v := by
  have h := h.out
  subst h hs; simp [Act.put, hd]
theorem put_off {a a' : Act} {d k : Nat} {v u : Value} (h : Hid (a' = a.put (some d) v)) (hk : a.tmps[k]?.getD undef = u) (hd : d ≠ k) : a'.tmps[k]?.getD undef = u := by
  have h := h.out
  subst h; rw [← hk]; simp [Act.put, Array.getElem?_setIfInBounds, hd]
theorem po {a a' : Act} {d k : Nat} {v u : Value} (h : Hid (a' = a.put (some d) v)) (hk : a.tmps[k]?.getD undef = u) (hd : d ≠ k := by decide) : a'.tmps[k]?.getD undef = u := put_off h hk hd
theorem put_sz {a a' : Act} {d : Nat} {v : Value} (h : Hid (a' = a.put (some d) v)) {n : Nat} (hs : a.tmps.size = n) : a'.tmps.size = n := by
  have h := h.out
  subst h; rw [← hs]; simp [Act.put]
end Go.Proofs.YthdkamnclbfehaaGreatDoor
/- A slice that lies anywhere in a block of its own (its first elements may have been cut off): reading, cutting, append. -/
namespace Go.Proofs.YthdkamnclbfehaaGreatDoor
set_option linter.unusedSimpArgs false
set_option linter.unusedVariables false
set_option linter.unnecessarySimpa false
open Go.RowKit
def Win (w : World) (base : Nat) (e : TypeId) (size : Nat) (v : Value) (n : Nat) (xs : List Value) : Prop :=
  xs.length = n * size ∧ ((v = .slice none 0 0 ∧ n = 0) ∨ ∃ g o cap cur, v = .slice (some ⟨g, o, none⟩) n cap ∧ base ≤ g ∧ w.heap[g]? = some (.cells cur e (0, 0)) ∧ n ≤ cap ∧ cap ≤ maxLen ∧ o + cap * size ≤ cur.size ∧ (cur.toList.drop o).take (n * size) = xs)
theorem Win.nil (w : World) (base : Nat) (e : TypeId) (size : Nat) : Win w base e size (.slice none 0 0) 0 [] := ⟨by simp, .inl ⟨rfl, rfl⟩⟩
theorem Win.keep {S : Nat → Prop} {w w' : World} {base : Nat} {e : TypeId} {size : Nat} {v : Value} {n : Nat} {xs : List Value} (h : Win w base e size v n xs) (k : Keep S w w') (hS : ∀ b, v.ownBlock = some b → ¬ S b) : Win w' base e size v n xs := by
  refine ⟨h.1, ?_⟩
  rcases h.2 with hn | ⟨g, o, cap, cur, rfl, hb, hg, rest⟩
  · exact .inl hn
  · exact .inr ⟨g, o, cap, cur, rfl, hb, (k.block g (Array.getElem?_eq_some_iff.1 hg).1 (hS g rfl)).trans hg, rest⟩
theorem Win.lt {w : World} {base : Nat} {e : TypeId} {size : Nat} {v : Value} {n : Nat} {xs : List Value} (h : Win w base e size v n xs) : ∀ g, v.ownBlock = some g → base ≤ g ∧ g < w.heap.size := by
  intro g hg
  rcases h.2 with ⟨rfl, _⟩ | ⟨g', o, cap, cur, rfl, hb, hh, _⟩
  · cases hg
  · cases hg; exact ⟨hb, (Array.getElem?_eq_some_iff.1 hh).1⟩
theorem Win.ofRow {w : World} {base : Nat} {e : TypeId} {size : Nat} {v : Value} {n : Nat} {xs : List Value} (h : w.ownsRow base e size v n xs) : Win w base e size v n xs := by
  refine ⟨h.1, ?_⟩
  rcases h.2 with hn | ⟨g, cap, cur, rfl, hb, hg, hnc, hcm, hcs, ht⟩
  · exact .inl hn
  · exact .inr ⟨g, 0, cap, cur, rfl, hb, hg, hnc, hcm, by omega, by simpa using ht⟩
theorem Win.cell {w : World} {base : Nat} {e : TypeId} {size : Nat} {g o n cap : Nat} {xs : List Value} (h : Win w base e size (.slice (some ⟨g, o, none⟩) n cap) n xs) {j : Nat} {u : Value} (hu : xs[j]? = some u) : w.cell? ⟨g, o + j, none⟩ = some u := by
  rcases h.2 with ⟨hv, _⟩ | ⟨g', o', cap', cur, hv, hb, hg, hnc, hcm, hcs, ht⟩
  · cases hv
  · cases hv
    rw [cell_of_row w g (o + j) cur e (0, 0) hg]
    rw [← ht, List.getElem?_take] at hu
    split at hu
    · rw [List.getElem?_drop] at hu; simpa using hu
    · cases hu
theorem Win.rd {w : World} {base : Nat} {e : TypeId} {size : Nat} {v : Value} {n : Nat} {xs : List Value} (h : Win w base e size v n xs) (h1 : ∀ u ∈ xs, u.oneCell' = true) : Rd w size v n xs := by
  refine ⟨h.1, h1, ?_⟩
  rcases h.2 with hn | ⟨g, o, cap, cur, rfl, hb, hg, hnc, hcm, hcs, ht⟩
  · exact .inl hn
  · exact .inr ⟨g, o, cap, rfl, hnc, hcm, fun j u hu => h.cell hu⟩
theorem Win.shape {w : World} {base : Nat} {e : TypeId} {size : Nat} {v : Value} {n : Nat} {xs : List Value} (h : Win w base e size v n xs) : (v = .slice none 0 0 ∧ n = 0) ∨ ∃ g o cap, v = .slice (some ⟨g, o, none⟩) n cap ∧ n ≤ cap ∧ cap ≤ maxLen := by
  rcases h.2 with hn | ⟨g, o, cap, cur, rfl, hb, hg, hnc, hcm, _⟩
  · exact .inl hn
  · exact .inr ⟨g, o, cap, rfl, hnc, hcm⟩
theorem Win.tail {w : World} {base : Nat} {e : TypeId} {size : Nat} {g o n cap : Nat} {xs : List Value} (h : Win w base e size (.slice (some ⟨g, o, none⟩) (n + 1) cap) (n + 1) xs) : Win w base e size (.slice (some ⟨g, o + size, none⟩) n (cap - 1)) n (xs.drop size) := by
  refine ⟨by rw [List.length_drop, h.1, Nat.add_mul]; omega, .inr ?_⟩
  rcases h.2 with ⟨hv, _⟩ | ⟨g', o', cap', cur, hv, hb, hg, hnc, hcm, hcs, ht⟩
  · cases hv
  · cases hv
    refine ⟨g, o + size, cap - 1, cur, rfl, hb, hg, by omega, by omega, ?_, ?_⟩
    · have : cap * size = (cap - 1) * size + size := by
        conv => lhs; rw [show cap = (cap - 1) + 1 by omega]
        rw [Nat.add_mul, Nat.one_mul]
      omega
    · rw [← ht, List.drop_take, List.drop_drop]
      congr 1
      rw [Nat.add_mul]; omega
structure AppW (w : World) (base : Nat) (e : TypeId) (size : Nat) (v : Value) (n : Nat) (xs : List Value) (m : Nat) (news : List Value) (v' : Value) (w' : World) : Prop where
  own : Win w' base e size v' (n + m) (xs ++ news)
  keep : Keep (fun k => v.ownBlock = some k) w w'
  fresh : v'.ownBlock = v.ownBlock ∨ ∃ g, v'.ownBlock = some g ∧ w.heap.size ≤ g
theorem run_win {P : Program} (w : World) (base : Nat) (t tx ty e : TypeId) (i : TypeInfo) (z : Value) (size bytes : Nat) (ht : P.underlying t = some (.slice e)) (hi : P.info? e = some i) (hz : i.zero = some z)
    (hsize : i.size = size) (hby : i.bytes = bytes) (hzs : z.cells.size = size)
    (v : Value) (n : Nat) (xs : List Value) (hown : Win w base e size v n xs) (x : Value) (m : Nat) (news : List Value) (hs : Src P size tx x m news w)
    (h63 : n + m ≤ maxLen) (hbytes : (n + m) * bytes ≤ 140737488355328) (hbase : base ≤ w.heap.size) :
    ∃ v' w', (Builtin.append_ #[t, tx] ty #[v, x]).run P w = .ok v' w' ∧ AppW w base e size v n xs m news v' w' := by
  subst hsize
  subst hby
  have hsmall : n + m ≤ 9223372036854775807 := by simp only [maxLen] at h63; omega
  have hl := hs.newsLen
  have hlen : (xs ++ news).length = (n + m) * i.size := by rw [List.length_append, hown.1, hl, Nat.add_mul]
  rcases hown.2 with ⟨rfl, rfl⟩ | ⟨g, o, cap, cur, rfl, hbg, hg, hnc, hcm, hcs, htake⟩
  · have hx : xs = [] := List.eq_nil_of_length_eq_zero (by simpa using hown.1)
    subst hx
    obtain ⟨v', w', hr, happ⟩ := run_app (P := P) w base t tx ty e i z i.size i.bytes ht hi hz rfl rfl hzs (.slice none 0 0) 0 [] (World.ownsRow_nil w base e i.size) x m news hs h63 hbytes hbase
    exact ⟨v', w', hr, ⟨Win.ofRow happ.own, happ.keep, happ.fresh⟩⟩
  · by_cases hroom : n + m ≤ cap
    · have hcc : (n + m) * i.size ≤ cap * i.size := Nat.mul_le_mul_right _ hroom
      have hfit : o + n * i.size + news.length ≤ cur.size := by rw [hl]; rw [Nat.add_mul] at hcc; omega
      have hst := run_storeCells_at P g (o + n * i.size) e news 0 cur w hg (by simpa using hfit) hs.one
      simp only [Nat.add_zero] at hst
      have hr : (Builtin.append_ #[t, tx] ty #[.slice (some ⟨g, o, none⟩) n cap, x]).run P w =
          .ok (.slice (some ⟨g, o, none⟩) (n + m) cap) (w.setRow g (cur.toList.take (o + n * i.size) ++ news ++ cur.toList.drop (o + n * i.size + news.length)).toArray) := by
        have hc := hs.cells
        rcases hs.kind with ⟨e', hk⟩ | hk <;> simp [Builtin.append_, run_underlying ht, run_underlying hk, sizeOf, typeInfo, hi, hs.len, hroom, hc, Addr.add_lit, hst]
      have hol : o + n * i.size ≤ cur.toList.length := by simp only [Array.length_toList]; omega
      refine ⟨_, _, hr, ⟨⟨hlen, .inr ⟨g, o, cap, _, rfl, hbg, setRow_heap w g cur _ e _ hg, hroom, hcm, ?_, ?_⟩⟩, ⟨rfl, rfl, rfl, by simp, fun k _ hk => setRow_other w g k _ (fun e => hk (by simp [Value.ownBlock, e]))⟩, .inl rfl⟩⟩
      · simp only [List.size_toArray, List.length_append, List.length_take, List.length_drop, Array.length_toList]
        omega
      · show (List.drop o _).take _ = _
        rw [List.append_assoc, List.drop_append, List.length_take, Nat.min_eq_left hol, show o - (o + n * i.size) = 0 by omega, List.drop_zero, List.drop_take, show o + n * i.size - o = n * i.size by omega, htake, ← List.append_assoc, ← hlen]
        exact List.take_left
    · have holds : ∀ j u, xs[j]? = some u → w.cell? ((⟨g, o, none⟩ : Addr).add j) = some u := fun j u hu => by rw [Addr.add_lit]; exact hown.cell hu
      have hr := run_append_grow_src (P := P) w t tx ty e i z ht hi hz (some ⟨g, o, none⟩) n cap xs (run_firstCells_some w.drew _ _ _ _ _ xs hown.1 (by simpa using holds)) x m news hs (by omega) (by omega) (growslice_fits (by omega) hbytes)
      have hge := grownCap_ge w (n + m) cap e
      have hcm2 : grownCap w (n + m) cap e ≤ maxLen := grownCap_le_maxLen w (n + m) cap e h63
      have hgr : w.heap.size = w.drew.heap.size := rfl
      refine ⟨_, _, hr, ⟨Win.ofRow ⟨hlen, .inr ⟨w.heap.size, _, _, rfl, hbase, heap_alloc_new w.drew _, hge, hcm2, ?_, ?_⟩⟩, ((Keep.refl _ w).drew).alloc _, .inr ⟨_, rfl, Nat.le_refl _⟩⟩⟩
      · simp only [Array.size_append, List.size_toArray, size_zeroCells, hzs, hlen, ← Nat.add_mul]
        congr 1
        omega
      · simp only [Array.toList_append, List.append_assoc]
        rw [← List.append_assoc, ← hlen]
        exact List.take_left
theorem oper_win {P : Program} {w : World} {o : Oper} {a : Act} {K : Act → World → Prop} {Q : Exit → Act → World → Prop} (s x : Operand) (t tx : TypeId)
    (ho : o.op = .call { callee := .builtin .append, args := #[s, x], argTypes := #[t, tx] })
    (e : TypeId) (z : Value) (size bytes : Nat) (ht : P.underlying t = some (.slice e)) (hinfo : (P.info? e).map (fun i => (i.zero, i.size, i.bytes)) = some (some z, size, bytes)) (hzs : z.cells.size = size)
    {base : Nat} {v : Value} {n : Nat} {xs : List Value} (hown : Win w base e size v n xs) (hs : a.eval s = v)
    {xv : Value} {m : Nat} {news : List Value} (hsrc : Src P size tx xv m news w) (hx : a.eval x = xv)
    (h63 : n + m ≤ maxLen) (hbytes : (n + m) * bytes ≤ 140737488355328) (hbase : base ≤ w.heap.size)
    (h : ∀ v' w', AppW w base e size v n xs m news v' w' → K (a.put o.dst v') w') : Oper.wp P o a w K Q := by
  obtain ⟨i, hi, hz, hsize, hby⟩ := info_parts hinfo
  obtain ⟨v', w', hr, happ⟩ := run_win (P := P) w base t tx o.type e i z size bytes ht hi hz hsize hby hzs v n xs hown xv m news hsrc h63 hbytes hbase
  unfold Oper.wp execOp
  simp only [ho, resolve, invoke, builtin, Sem.run_bind, Sem.run_pure, Result.andThen_ok, List.map_toArray, List.map_cons, List.map_nil, hs, hx, hr]
  exact h _ _ happ
theorem wpList_win {P : Program} {w : World} {ops : Array Oper} {rest : List Oper} {o : Oper} {a : Act} {Q : Exit → Act → World → Prop} (hgd : o.guard = none) (s x : Operand) (t tx : TypeId)
    (ho : o.op = .call { callee := .builtin .append, args := #[s, x], argTypes := #[t, tx] })
    (e : TypeId) (z : Value) (size bytes : Nat) (ht : P.underlying t = some (.slice e)) (hinfo : (P.info? e).map (fun i => (i.zero, i.size, i.bytes)) = some (some z, size, bytes)) (hzs : z.cells.size = size)
    {base : Nat} {v : Value} {n : Nat} {xs : List Value} (hown : Win w base e size v n xs) (hs : a.eval s = v)
    {xv : Value} {m : Nat} {news : List Value} (hsrc : Src P size tx xv m news w) (hx : a.eval x = xv)
    (h63 : n + m ≤ maxLen) (hbytes : (n + m) * bytes ≤ 140737488355328) (hbase : base ≤ w.heap.size)
    (h : ∀ v' w', AppW w base e size v n xs m news v' w' → wpList P ops Q rest (a.put o.dst v') w') : wpList P ops Q (o :: rest) a w := by
  refine wpList_plain hgd fun K hK => ?_
  obtain ⟨i, hi, hz, hsize, hby⟩ := info_parts hinfo
  obtain ⟨v', w', hr, happ⟩ := run_win (P := P) w base t tx o.type e i z size bytes ht hi hz hsize hby hzs v n xs hown xv m news hsrc h63 hbytes hbase
  unfold Oper.wp execOp
  simp only [ho, resolve, invoke, builtin, Sem.run_bind, Sem.run_pure, Result.andThen_ok, List.map_toArray, List.map_cons, List.map_nil, hs, hx, hr]
  exact hK _ _ (h v' w' happ)
end Go.Proofs.YthdkamnclbfehaaGreatDoor
