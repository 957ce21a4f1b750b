/- append as one operation of a drawn region. -/
import Derived.Test.YthdkamnclbfehaaGreatDoorO2
import Derived.Deep.RegionHeld3
/- append as one operation of a drawn region. -/
namespace Go.Proofs.YthdkamnclbfehaaGreatDoor
set_option linter.unusedSimpArgs false
set_option linter.unusedVariables false
set_option linter.unnecessarySimpa false
open Go.RowKit
theorem oper_app {P : Program} {w : World} {o : Oper} {a : Act} {K : Act → World → Prop} {Q : Exit → Act → World → Prop} (s x : Operand) (t tx : TypeId)
    (ho : o.op = .call { callee := .builtin .append, args := #[s, x], argTypes := #[t, tx] })
    (e : TypeId) (z : Value) (size bytes : Nat) (ht : P.underlying t = some (.slice e)) (hinfo : (P.info? e).map (fun i => (i.zero, i.size, i.bytes)) = some (some z, size, bytes)) (hzs : z.cells.size = size)
    {base : Nat} {v : Value} {n : Nat} {xs : List Value} (hown : w.ownsRow base e size v n xs) (hs : a.eval s = v)
    {xv : Value} {m : Nat} {news : List Value} (hsrc : Src P size tx xv m news w) (hx : a.eval x = xv)
    (h63 : n + m ≤ maxLen) (hbytes : (n + m) * bytes ≤ 140737488355328) (hbase : base ≤ w.heap.size)
    (h : ∀ v' w', App w base e size v n xs m news v' w' → K (a.put o.dst v') w') : Oper.wp P o a w K Q := by
  obtain ⟨i, hi, hz, hsize, hby⟩ := info_parts hinfo
  obtain ⟨v', w', hr, happ⟩ := run_app (P := P) w base t tx o.type e i z size bytes ht hi hz hsize hby hzs v n xs hown xv m news hsrc h63 hbytes hbase
  unfold Oper.wp execOp
  simp only [ho, resolve, invoke, builtin, Sem.run_bind, Sem.run_pure, Result.andThen_ok, List.map_toArray, List.map_cons, List.map_nil, hs, hx, hr]
  exact h _ _ happ
theorem Rd.new (w : World) (size n : Nat) (cs : List Value) (t : TypeId) (hl : cs.length = n * size) (h1 : ∀ u ∈ cs, u.oneCell' = true) (hn : n ≤ maxLen) :
    Rd (w.alloc (.cells cs.toArray t)) size (.slice (some ⟨w.heap.size, 0, none⟩) n n) n cs := by
  refine ⟨hl, h1, .inr ⟨w.heap.size, 0, n, rfl, Nat.le_refl _, hn, fun j u hu => ?_⟩⟩
  rw [Nat.zero_add, World.cell?_alloc_new]
  simpa using hu
theorem Rd.drew {w : World} {size : Nat} {v : Value} {n : Nat} {xs : List Value} (h : Rd w size v n xs) : Rd w.drew size v n xs := h
end Go.Proofs.YthdkamnclbfehaaGreatDoor
/- A region that draws its order, all of whose steps keep one relation. -/
namespace Go.Proofs.YthdkamnclbfehaaGreatDoor
set_option linter.unusedSimpArgs false
set_option linter.unusedVariables false
set_option linter.unnecessarySimpa false
open Go.RowKit
def undone (l : Array Bool) : Nat := l.toList.countP (! ·)
theorem countP_set_lt : ∀ (l : List Bool) (i : Nat), l[i]? = some false → (l.set i true).countP (! ·) + 1 = l.countP (! ·) := by
  intro l
  induction l with
  | nil => intro i h; simp at h
  | cons a r ih =>
    intro i h
    cases i with
    | zero =>
      simp at h
      subst h
      simp
    | succ i =>
      have := ih i (by simpa using h)
      simp only [List.set_cons_succ, List.countP_cons]
      omega
theorem undone_set {l : Array Bool} {i : Nat} (h : l.getD i true = false) : undone (l.setIfInBounds i true) + 1 = undone l := by
  unfold undone
  have h2 : l.toList[i]? = some false := by
    rw [Array.getElem?_toList]
    cases h3 : l[i]? with
    | none => simp [Array.getD_eq_getD_getElem?, h3] at h
    | some b => simp [Array.getD_eq_getD_getElem?, h3] at h; rw [h]
  rw [Array.toList_setIfInBounds]
  exact countP_set_lt _ _ h2
theorem all_listed {md : Region.Mode} {ops : Array Oper} {l : Array Bool} (hsz : l.size = ops.size) (hac : ∀ (i : Nat) (o : Oper), ops[i]? = some o → ∀ e ∈ o.after, e.on < i) (hr : Region.ready md ops l = []) : ∀ i, i < ops.size → l.getD i false = true := by
  intro i
  induction i using Nat.strongRecOn with
  | ind i ih =>
    intro hi
    cases hb : l.getD i true with
    | true =>
      have hlt : i < l.size := by omega
      simp [Array.getD_eq_getD_getElem?, hlt] at hb ⊢
      exact hb
    | false =>
      have hm : i ∈ Region.ready md ops l := mem_ready.2 ⟨hb, ops[i], Array.getElem?_eq_getElem hi, fun e he _ => by
        have h1 := hac i _ (Array.getElem?_eq_getElem hi) e he
        exact ih e.on h1 (by omega)⟩
      rw [hr] at hm
      cases hm
theorem wpAnyH_inv {P : Program} {ops : Array Oper} {Q : Exit → Act → World → Prop} {md : Region.Mode} {S : World → Prop} (J : Array Bool → Act → World → Prop) (hac : ∀ (i : Nat) (o : Oper), ops[i]? = some o → ∀ e ∈ o.after, e.on < i)
    (hstep : ∀ (l : Array Bool) (a : Act) (w : World) (i : Nat) (o : Oper), l.size = ops.size → J l a w → l.getD i true = false → ops[i]? = some o → (∀ e ∈ o.after, Region.binds md e = true → l.getD e.on false = true) →
      ∀ K : Act → World → Prop, (∀ a' w', S w' → J (l.setIfInBounds i true) a' w' → K a' w') → if Region.wanted o (yielded ops a.tmps) = true then Oper.wp P o a w K Q else K (a.put o.dst undef) w)
    (hend : ∀ l a w, l.size = ops.size → (∀ i, i < ops.size → l.getD i false = true) → J l a w → Q .normal a w) :
    ∀ (fuel : Nat) (l : Array Bool) (a : Act) (w : World), l.size = ops.size → undone l ≤ fuel → J l a w → wpAnyH P md ops Q S fuel l a w := by
  intro fuel
  induction fuel with
  | zero =>
    intro l a w hsz hf hJ
    have hr : Region.ready md ops l = [] := by
      apply List.eq_nil_iff_forall_not_mem.2
      intro i hi
      have := undone_set (mem_ready.1 hi).1
      omega
    exact ⟨hr, hend l a w hsz (all_listed hsz hac hr) hJ⟩
  | succ fuel ih =>
    intro l a w hsz hf hJ
    refine ⟨fun hr => hend l a w hsz (all_listed hsz hac hr) hJ, fun i hi => ?_⟩
    obtain ⟨h0, o, ho, hall⟩ := mem_ready.1 hi
    refine wpOp_step ho fun K' hK => ?_
    refine hstep l a w i o hsz hJ h0 ho hall K' fun a' w' hS hJ' => hK a' w' ⟨hS, ih _ a' w' (by simpa using hsz) (by have := undone_set h0; omega) hJ'⟩
theorem listed_set {l : Array Bool} {i j : Nat} (h : (l.setIfInBounds i true).getD j false = true) (hne : i ≠ j) : l.getD j false = true := by rwa [getD_set_ne false hne] at h
end Go.Proofs.YthdkamnclbfehaaGreatDoor
/- A drawn region whose act is a letter: the slots that it writes, as a function. -/
namespace Go.Proofs.YthdkamnclbfehaaGreatDoor
set_option linter.unusedSimpArgs false
set_option linter.unusedVariables false
set_option linter.unnecessarySimpa false
open Go.RowKit
def updL (a : Act) (f : Nat → Value) : List Nat → Act
  | [] => a
  | k :: ks => updL (a.put (some k) (f k)) f ks
def upd1 (f : Nat → Value) (k : Nat) (v : Value) : Nat → Value := fun x => cond (Nat.beq x k) v (f x)
theorem put_get? (a : Act) (k i : Nat) (v : Value) : (a.put (some k) v).tmps[i]? = if k = i ∧ i < a.tmps.size then some v else a.tmps[i]? := by
  show (a.tmps.setIfInBounds k v)[i]? = _
  rw [Array.getElem?_setIfInBounds]
  by_cases h : k = i
  · subst h
    by_cases hk : k < a.tmps.size
    · simp [hk]
    · simp [hk]
  · simp [h]
theorem put_size (a : Act) (k : Nat) (v : Value) : (a.put (some k) v).tmps.size = a.tmps.size := by simp [Act.put]
theorem updL_size (f : Nat → Value) : ∀ (ks : List Nat) (a : Act), (updL a f ks).tmps.size = a.tmps.size
  | [], _ => rfl
  | k :: ks, a => (updL_size f ks _).trans (put_size a k _)
theorem updL_defers (f : Nat → Value) : ∀ (ks : List Nat) (a : Act), (updL a f ks).defers = a.defers
  | [], _ => rfl
  | k :: ks, a => updL_defers f ks _
theorem updL_get? (f : Nat → Value) : ∀ (ks : List Nat) (a : Act) (i : Nat), (updL a f ks).tmps[i]? = if i ∈ ks ∧ i < a.tmps.size then some (f i) else a.tmps[i]?
  | [], a, i => by simp [updL]
  | k :: ks, a, i => by
    show (updL (a.put (some k) (f k)) f ks).tmps[i]? = _
    rw [updL_get? f ks, put_size, put_get?]
    by_cases h : i < a.tmps.size
    · by_cases h1 : i ∈ ks
      · simp [h, h1]
      · by_cases h2 : k = i
        · subst h2; simp [h, h1]
        · simp [h, h1, h2, Ne.symm h2]
    · simp [h]
theorem updL_at {a : Act} {f : Nat → Value} {ks : List Nat} {k n : Nat} (hs : a.tmps.size = n) (hk : (ks.contains k && Nat.blt k n) = true) : (updL a f ks).tmps[k]?.getD undef = f k := by
  simp only [Bool.and_eq_true, List.contains_iff_mem] at hk
  have h2 : k < n := by have h3 := hk.2; simp [Nat.blt] at h3; omega
  rw [updL_get?, if_pos ⟨hk.1, by omega⟩]; rfl
theorem updL_off {a : Act} {f : Nat → Value} {ks : List Nat} {k : Nat} {v : Value} (hv : a.tmps[k]?.getD undef = v) (hk : ks.contains k = false) : (updL a f ks).tmps[k]?.getD undef = v := by
  rw [updL_get?, if_neg (fun h => by have h1 := List.contains_iff_mem.2 h.1; rw [hk] at h1; cases h1)]; exact hv
theorem updL_put {a : Act} {f : Nat → Value} {ks : List Nat} {k : Nat} {v : Value} (hk : ks.contains k = true) : (updL a f ks).put (some k) v = updL a (upd1 f k v) ks := by
  have h1 : ((updL a f ks).put (some k) v).defers = (updL a (upd1 f k v) ks).defers := by
    rw [updL_defers]; exact updL_defers _ _ _
  have h2 : ((updL a f ks).put (some k) v).tmps = (updL a (upd1 f k v) ks).tmps := by
    apply Array.ext_getElem?
    intro i
    rw [put_get?, updL_size, updL_get?, updL_get?]
    by_cases h : i < a.tmps.size
    · by_cases h2 : k = i
      · subst h2
        have := List.contains_iff_mem.1 hk
        simp [h, this, upd1]
      · by_cases h3 : i ∈ ks
        · have h4 : Nat.beq i k = false := by
            cases h5 : Nat.beq i k with
            | false => rfl
            | true => exact absurd (Nat.eq_of_beq_eq_true h5).symm h2
          simp [h, h2, h3, upd1, h4]
        · simp [h, h2, h3]
    · simp [h]
  cases h3 : (updL a f ks).put (some k) v with
  | mk t d =>
    cases h4 : updL a (upd1 f k v) ks with
    | mk t' d' =>
      rw [h3, h4] at h1 h2
      simp only at h1 h2
      rw [h1, h2]
theorem uAt {a a' : Act} {f : Nat → Value} {ks : List Nat} {k n : Nat} (ha : Hid (a' = updL a f ks)) (hs : a.tmps.size = n) (hk : (ks.contains k && Nat.blt k n) = true) : a'.tmps[k]?.getD undef = f k := by
  rw [ha.out]; exact updL_at hs hk
theorem uOff {a a' : Act} {f : Nat → Value} {ks : List Nat} {k : Nat} {v : Value} (ha : Hid (a' = updL a f ks)) (hv : a.tmps[k]?.getD undef = v) (hk : ks.contains k = false) : a'.tmps[k]?.getD undef = v := by
  rw [ha.out]; exact updL_off hv hk
theorem uPut {a a' : Act} {f : Nat → Value} {ks : List Nat} {k : Nat} {v : Value} (ha : Hid (a' = updL a f ks)) (hk : ks.contains k = true) : a'.put (some k) v = updL a (upd1 f k v) ks := by
  rw [ha.out]; exact updL_put hk
theorem put_me (a : Act) (d : Nat) : a.put (some d) (a.tmps[d]?.getD undef) = a := by
  cases a with
  | mk t df =>
    simp only [Act.put, Act.mk.injEq, and_true]
    apply Array.ext_getElem?
    intro i
    rw [Array.getElem?_setIfInBounds]
    split
    · rename_i h; subst h; split
      · rename_i h2; rw [Array.getElem?_eq_getElem h2]; rfl
      · rename_i h2; rw [Array.getElem?_eq_none (by omega)]
    · rfl
theorem updL_self (a : Act) : ∀ ks : List Nat, updL a (fun k => a.tmps[k]?.getD undef) ks = a
  | [] => rfl
  | k :: ks => by
    show updL (a.put (some k) (a.tmps[k]?.getD undef)) _ ks = a
    rw [put_me]
    exact updL_self a ks
def Qt (l : Array Bool) (j : Nat) (v u : Value) : Prop := l.getD j false = true → v = u
theorem Qt.other {l : Array Bool} {i j : Nat} {v u : Value} (h : Qt l j v u) (hj : i ≠ j) : Qt (l.setIfInBounds i true) j v u := fun e => h (listed_set e hj)
theorem Qt.here {l : Array Bool} {j : Nat} {v u : Value} (h : v = u) : Qt l j v u := fun _ => h
theorem rep_false (n i : Nat) : (Array.replicate n false).getD i false = false := by
  rw [Array.getD_eq_getD_getElem?, Array.getElem?_replicate]
  split <;> rfl
theorem rep_undone (n : Nat) : undone (Array.replicate n false) = n := by simp [undone, List.countP_replicate]
theorem region_inv {P : Program} {id : Nat} {ops : Array Oper} {Q : Exit → Act → World → Prop} {a0 : Act} {w : World} (hm : P.follows .mixedOrders = true) (J : Array Bool → Act → World → Prop)
    (hac : ∀ (i : Nat) (o : Oper), ops[i]? = some o → ∀ e ∈ o.after, e.on < i)
    (h0 : J (Array.replicate ops.size false) a0 w.drew)
    (hend : ∀ l a w, (∀ i, i < ops.size → l.getD i false = true) → J l a w → Q .normal a w)
    (hstep : ∀ (l : Array Bool) (a : Act) (w : World) (i : Nat) (o : Oper), J l a w → l.getD i true = false → ops[i]? = some o → (∀ e ∈ o.after, Region.binds .any e = true → l.getD e.on false = true) →
      ∀ K : Act → World → Prop, (∀ a' w', J (l.setIfInBounds i true) a' w' → K a' w') → if Region.wanted o (yielded ops a.tmps) = true then Oper.wp P o a w K Q else K (a.put o.dst undef) w) :
    (Code.region id ops true).wp P Q a0 w :=
  wp_region_held_drew (S := fun _ => True) hm trivial fun _ => wpAnyH_inv (S := fun _ => True) J hac (fun l a w i o _ hJ h1 ho hall K hK => hstep l a w i o hJ h1 ho hall K fun a' w' hJ' => hK a' w' trivial hJ')
    (fun l a w _ hall hJ => hend l a w hall hJ) _ _ _ _ (by simp) (by rw [rep_undone]; exact Nat.le_refl _) h0
theorem region_letters {P : Program} {id : Nat} {ops : Array Oper} {b : Bool} {Q : Exit → Act → World → Prop} {a : Act} {w : World} (h : ∀ Q1, Q1 = Q → (Code.region id ops b).wp P Q1 a w) : (Code.region id ops b).wp P Q a w := h Q rfl
theorem want_of {o oj : Oper} {ops : Array Oper} {a : Act} {j d : Nat} {b b' : Bool} (hg : o.guard = some (j, b)) (hj : ops[j]? = some oj) (hd : oj.dst = some d) (hv : a.tmps[d]?.getD undef = .bool b') : Region.wanted o (yielded ops a.tmps) = (b' == b) := by
  have h2 : a.tmps[d]? = some (.bool b') := by
    cases h : a.tmps[d]? with
    | none => rw [h] at hv; cases hv
    | some v => rw [h] at hv; exact congrArg some hv
  have h1 : yielded ops a.tmps j = some b' := by
    unfold yielded
    rw [hj]
    simp [hd, h2]
  unfold Region.wanted
  rw [hg]
  show (yielded ops a.tmps j == some b) = _
  rw [h1]
  cases b <;> cases b' <;> rfl
theorem uE0 (a0 : Act) (ks : List Nat) : ∃ f, a0 = updL a0 f ks := ⟨_, (updL_self a0 ks).symm⟩
theorem uE {a0 a a' : Act} {d : Nat} {v : Value} {ks : List Nat} (h : Hid (a' = a.put (some d) v)) (g : ∃ f, a = updL a0 f ks) (hd : ks.contains d = true) : ∃ f, a' = updL a0 f ks := by
  obtain ⟨f, hf⟩ := g
  exact ⟨upd1 f d v, by rw [h.out, hf]; exact updL_put hd⟩
theorem wp_world {P : Program} {c : Code} {Q : Exit → Act → World → Prop} {a : Act} {w : World} (h : ∀ w1, w1 = w → c.wp P Q a w1) : c.wp P Q a w := h w rfl
theorem wpAnyH_letter {P : Program} {md : Region.Mode} {ops : Array Oper} {Q : Exit → Act → World → Prop} {S : World → Prop} {fuel : Nat} {l : Array Bool} {a0 : Act} {w : World} (h : ∀ a1, Hid (a1 = a0) → wpAnyH P md ops Q S fuel l a1 w) : wpAnyH P md ops Q S fuel l a0 w := h a0 (Lib.hid rfl)
theorem put_at {a a' : Act} {d : Nat} {v : Value} (h : Hid (a' = a.put (some d) v)) {n : Nat} (hs : a.tmps.size = n) (hd : d < n) : a'.tmps[d]?.getD undef = v := by
  have h := h.out
  subst h hs; simp [Act.put, hd]
theorem put_off {a a' : Act} {d k : Nat} {v u : Value} (h : Hid (a' = a.put (some d) v)) (hk : a.tmps[k]?.getD undef = u) (hd : d ≠ k) : a'.tmps[k]?.getD undef = u := by
  have h := h.out
  subst h; rw [← hk]; simp [Act.put, Array.getElem?_setIfInBounds, hd]
theorem po {a a' : Act} {d k : Nat} {v u : Value} (h : Hid (a' = a.put (some d) v)) (hk : a.tmps[k]?.getD undef = u) (hd : d ≠ k := by decide) : a'.tmps[k]?.getD undef = u := put_off h hk hd
theorem put_sz {a a' : Act} {d : Nat} {v : Value} (h : Hid (a' = a.put (some d) v)) {n : Nat} (hs : a.tmps.size = n) : a'.tmps.size = n := by
  have h := h.out
  subst h; rw [← hs]; simp [Act.put]
end Go.Proofs.YthdkamnclbfehaaGreatDoor
