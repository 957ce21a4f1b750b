/- chordal.Colours. -/
import Derived.Test.YthdkamnclbfehaaGreatDoorAssigns22
import Derived.Test.YthdkamnclbfehaaGreatDoorAssigns25
import Derived.Deep.OwnRows
import Derived.Test.YthdkamnclbfehaaGreatDoorAssigns21
import Derived.WalkSpells
import Derived.Deep.LoopGhost
import Derived.Deep.DeepCutAuto
import Derived.Deep.CutBlock
import Derived.Test.YthdkamnclbfehaaGreatDoorAssigns18

/- chordal.Colours. -/
namespace Go.Proofs.YthdkamnclbfehaaGreatDoor
set_option linter.unusedSimpArgs false
set_option linter.unusedVariables false
set_option linter.unnecessarySimpa false
open Go.RowKit

def ColPost (w : World) (g : List Int) (e : Ending) (w' : World) : Prop :=
  Keep (fun _ => False) w w' ∧ (chordE g = 0 → ∃ v', e = .returned (.tuple #[v', .int .i64 0]) ∧ w'.ownsRow w.heap.size 3 1 v' g.length (ncells (colF g))) ∧
    (chordE g ≠ 0 → e = .returned (.tuple #[.slice none 0 0, .int .i64 (chordE g)]))
theorem chordE_0 {g : List Int} (h : chordE g = 0) : Graph g ∧ orderB g = true := by
  unfold chordE at h
  by_cases hv : validB g = true
  · rw [if_pos hv] at h
    by_cases ho : orderB g = true
    · exact ⟨validB_true.1 hv, ho⟩
    · rw [if_neg ho] at h; cases h
  · rw [if_neg hv] at h; cases h
theorem most_le (g : List Int) : most g ≤ 12 := by
  have := List.length_filter_le ((bestF g).testBit ·) (List.range 12)
  unfold most cnt12
  simpa using this
theorem made_zero (n : Nat) : madeCells #[.int .i64 0] n = (ncells (List.replicate n 0)).toArray := by
  apply Array.ext
  · simp [madeCells, ncells]
  · intro i h1 h2
    simp [madeCells, ncells, Nat.mod_one]
set_option maxHeartbeats 2000000 in
set_option maxRecDepth 100000 in
theorem colours_any {w : World} {v : Value} {g : List Int} (hv : Rd w 1 v g.length (icells g)) (hlen : g.length < 9223372036854775807) (hT : TabAt 3 Lib.deBruijn64tab w) (hw3 : 3 < w.heap.size) :
    Calls Tryz.prog 58 #[v] w (ColPost w g) := by
  obtain ⟨ao, cap, hve, _⟩ := hv.shape
  subst hve
  have H80 : Hid (∀ W, Keep (fun _ => False) w W → Calls Tryz.prog 80 #[.slice ao g.length cap] W (IdxPost W (.int .i64 (chordE g)))) := Lib.hid fun W hk =>
    chordal_any (hv.keep hk (fun _ _ h => h)) hlen (fun j hj => (hk.cell (p := ⟨3, j, none⟩) hw3 (fun h => h)).trans (hT j hj)) (Nat.lt_of_lt_of_le hw3 hk.size)
  have HT := Lib.hid hT; clear hT
  have HV := Lib.hid hv; clear hv
  by_cases hc : chordE g = 0
  · obtain ⟨hg, ho⟩ := chordE_0 hc
    rw [hc] at H80
    have hn := hg.2.1
    have h12 := pow_le_4096 hn
    have H82 : Hid (∀ W, Keep (fun _ => False) w W → Calls Tryz.prog 82 #[.slice ao g.length cap, .func (.func 83) #[.slice ao g.length cap] #[]] W (IdxPost W (.int .i64 (bestF g)))) := Lib.hid fun W hk =>
      best_any hg (HV.out.keep hk (fun _ _ h => h)) (fun j hj => (hk.cell (p := ⟨3, j, none⟩) hw3 (fun h => h)).trans (HT.out j hj)) (Nat.lt_of_lt_of_le hw3 hk.size)
    have hbest : bestF g < 4096 := Nat.lt_of_lt_of_le (bestTo_lt g _ _ (Nat.le_refl _) (Nat.lt_of_lt_of_le (by decide) Nat.one_le_two_pow)) h12
    have H81 := Lib.hid (fun W => onesCount_small (bestF g) hbest W)
    have hmost : cnt12 (bestF g) = most g := rfl
    rw [hmost] at H81
    obtain ⟨bf, hbf⟩ : ∃ bf, bestF g = bf := ⟨_, rfl⟩
    rw [hbf] at H81 H82 hbest
    obtain ⟨m, hm⟩ : ∃ m, most g = m := ⟨_, rfl⟩
    have hm12 : m ≤ 12 := hm ▸ most_le g
    rw [hm] at H81
    have HM := Lib.hid hm
    have HC := Lib.hid hc
    have HG := Lib.hid hg
    have HO := Lib.hid ho
    have hmk := run_make_row' (P := Tryz.prog) 34 3 (.int .i64 0) 8 Tryz.underlying34 info3 rfl .i64 .i64 g.length (by omega) (by omega)
    clear hc hg ho hmost hbf hm h12
    go_enter Tryz.func58, Tryz.ntmps58
    go_upto_region 7 with (first
      | (go_at_call 80; refine (H80.out _ ((Keep.refl _ _).alloc _)).mono ?_; rintro e w2 ⟨rfl, hk2⟩; have HK2 := Lib.hid (((Keep.refl (fun _ => False) w).alloc (.cells #[.slice ao g.length cap] 53)).trans hk2 (fun _ _ h => h)); have HB2 := Lib.hid ((Blk.new w #[.slice ao g.length cap] 53).keep hk2 (fun h => h)); have c1 := HB2.out.cell 0; simp at c1; clear hk2)
      | (go_at_call 82; refine (H82.out _ HK2.out).mono ?_; rintro e w3 ⟨rfl, hk3⟩; have HK3 := Lib.hid (HK2.out.trans hk3 (fun _ _ h => h)); have HB3 := Lib.hid (HB2.out.keep hk3 (fun h => h)); have c1 := HB3.out.cell 0; simp at c1; have hlt1 := HB3.out.lt; clear hk3)
      | (go_at_call 81; refine (H81.out _).mono ?_; rintro e w' ⟨rfl, rfl⟩))
    obtain ⟨w4, hw4⟩ : ∃ w4, w4 = ((((w3.alloc (.cells #[.int .i64 (m : Nat)] 3)).alloc (.cells (madeCells #[.int .i64 0] g.length) 3)).alloc (.cells #[.slice (some ⟨w3.heap.size + 1, 0, none⟩) g.length g.length] 34)).alloc (.cells #[.nilFunc] 160)) := ⟨_, rfl⟩
    rw [← hw4]
    have k34 : Keep (fun _ => False) w3 w4 := by rw [hw4]; exact ((((Keep.refl _ _).alloc _).alloc _).alloc _).alloc _
    have hb5 : Blk w4 w3.heap.size #[.int .i64 (m : Nat)] 3 := by rw [hw4]; exact (((Blk.new _ _ _).alloc _).alloc _).alloc _
    have hbo : Blk w4 (w3.heap.size + 1) (ncells (List.replicate g.length 0)).toArray 3 := by
      have h := Blk.new (w3.alloc (.cells #[.int .i64 (m : Nat)] 3)) (madeCells #[.int .i64 0] g.length) 3
      rw [World.size_alloc] at h
      rw [hw4, ← made_zero]; exact (h.alloc _).alloc _
    have hb6 : Blk w4 (w3.heap.size + 1 + 1) #[.slice (some ⟨w3.heap.size + 1, 0, none⟩) g.length g.length] 34 := by
      have h := Blk.new ((w3.alloc (.cells #[.int .i64 (m : Nat)] 3)).alloc (.cells (madeCells #[.int .i64 0] g.length) 3)) #[.slice (some ⟨w3.heap.size + 1, 0, none⟩) g.length g.length] 34
      rw [World.size_alloc, World.size_alloc] at h
      rw [hw4]; exact h.alloc _
    have hb7 : Blk w4 (w3.heap.size + 1 + 1 + 1) #[.nilFunc] 160 := by
      have h := Blk.new (((w3.alloc (.cells #[.int .i64 (m : Nat)] 3)).alloc (.cells (madeCells #[.int .i64 0] g.length) 3)).alloc (.cells #[.slice (some ⟨w3.heap.size + 1, 0, none⟩) g.length g.length] 34)) #[.nilFunc] 160
      rw [World.size_alloc, World.size_alloc, World.size_alloc] at h
      rw [hw4]; exact h
    clear hw4 hmk
    have hb1 := HB3.out.keep k34 (fun h => h)
    have c7 := hb7.cell 0
    have f7 := hb7.free 0
    simp at c7
    have hnb : ∀ k, (Value.slice ao g.length cap).ownBlock = some k → k < w.heap.size := fun k e => by
      rcases HV.out.2.2 with ⟨h, h'⟩ | ⟨b, o, c, h, _, _, hx⟩
      · have := HG.out.1; omega
      · injection h with h1 h2 h3
        subst h1
        have e2 : b = k := Option.some.inj e
        subst e2
        have hx0 := hx 0 _ (icells_get g 0 (by have := HG.out.1; omega))
        rcases Nat.lt_or_ge b w.heap.size with hl | hl
        · exact hl
        · simp [World.cell?, Array.getElem?_eq_none hl] at hx0
    have ks : Keep (fun k => k = w3.heap.size + 1 + 1 + 1) w4 (w4.setCell ⟨w3.heap.size + 1 + 1 + 1, 0, none⟩ (.func (.func 84) #[] #[.pointer (some ⟨w.heap.size, 0, none⟩), .pointer (some ⟨w3.heap.size, 0, none⟩), .pointer (some ⟨w3.heap.size + 1 + 1, 0, none⟩), .pointer (some ⟨w3.heap.size + 1 + 1 + 1, 0, none⟩)])) := (Keep.refl _ _).setCell _ _ (fun _ => rfl)
    have hb7' := hb7.set 0 (.func (.func 84) #[] #[.pointer (some ⟨w.heap.size, 0, none⟩), .pointer (some ⟨w3.heap.size, 0, none⟩), .pointer (some ⟨w3.heap.size + 1 + 1, 0, none⟩), .pointer (some ⟨w3.heap.size + 1 + 1 + 1, 0, none⟩)])
    have hz3 := HK3.out.size
    have hz4 := k34.size
    have kw4 := HK3.out.trans k34 (fun _ _ h => h)
    have kw5 := kw4.trans ks (fun k hk e => by omega)
    have hb1' := hb1.keep ks (fun e => by omega)
    have hb5' := hb5.keep ks (fun e => by omega)
    have hbo' := hbo.keep ks (fun e => by omega)
    have hb6' := hb6.keep ks (fun e => by omega)
    obtain ⟨w5, hw5⟩ : ∃ w5, w5 = w4.setCell ⟨w3.heap.size + 1 + 1 + 1, 0, none⟩ (.func (.func 84) #[] #[.pointer (some ⟨w.heap.size, 0, none⟩), .pointer (some ⟨w3.heap.size, 0, none⟩), .pointer (some ⟨w3.heap.size + 1 + 1, 0, none⟩), .pointer (some ⟨w3.heap.size + 1 + 1 + 1, 0, none⟩)]) := ⟨_, rfl⟩
    rw [← hw5] at ks hb7' kw5 hb1' hb5' hbo' hb6'
    have q1 := hb1'.cell 0
    have q5 := hb5'.cell 0
    have q6 := hb6'.cell 0
    have q7 := hb7'.cell 0
    simp at q1 q5 q6 q7
    have hE : Env w5 g (.slice ao g.length cap) m w.heap.size w3.heap.size (w3.heap.size + 1 + 1) (w3.heap.size + 1 + 1 + 1) (w3.heap.size + 1) :=
      ⟨q1, q5, q6, q7, HV.out.keep kw5 (fun _ _ h => h), hb1'.lt, hb5'.lt, hb6'.lt, hb7'.lt, by omega, by omega, by omega, by omega, fun e => by have := hnb _ e; omega,
       fun j hj => (kw5.cell (p := ⟨3, j, none⟩) hw3 (fun h => h)).trans (HT.out j hj), Nat.lt_of_lt_of_le hw3 kw5.size, by omega⟩
    have ht := try_any HG.out hm12 g.length 0 (List.replicate g.length 0) w5 (by omega) (by simp) hE hbo'
    have hok := col_ok HG.out HO.out
    rw [HM.out] at hok
    have hcol : (tryF g m g.length 0 (List.replicate g.length 0)).2 = colF g := by unfold colF; rw [HM.out]
    have HTR := Lib.hid (show TryPost w5 (w3.heap.size + 1) (true, colF g) = TryPost w5 (w3.heap.size + 1) (tryF g m g.length 0 (List.replicate g.length 0)) by rw [← hcol, ← hok.1])
    rw [← HTR.out] at ht
    have HTY := Lib.hid ht
    have HLC := Lib.hid hok.2.2
    have HKW5 := Lib.hid kw5
    have HBS6 := Lib.hid hb6'
    clear ht hok hcol HTR hE hb1' hb5' hbo' hb6' hb7' hb1 hb5 hbo hb6 hb7 ks k34 kw4 kw5 hnb q1 q5 q6 c1
    go_upto_region 8 with fail
    rw [← hw5]
    clear hw5 c7 f7
    go_wp2_with (go_at_call 84; refine Calls.mono HTY.out ?_; rintro e w6 ⟨rfl, hb9, hk9⟩; have HB9 := Lib.hid hb9; have HK9 := Lib.hid hk9; have q6 := (HBS6.out.keep hk9 (fun e => by omega)).cell 0; simp at q6; clear hb9 hk9)
    go_ret2
    refine ⟨HKW5.out.trans HK9.out (fun k hk e => by omega), fun _ => ⟨_, rfl, ?_⟩, fun h => absurd HC.out h⟩
    have ho := ownsRow_one (base := w.heap.size) (n := g.length) HB9.out (by omega) (by simp [ncells_length]; exact HLC.out) (by unfold maxLen; omega)
    simpa using ho
  · have HC := Lib.hid hc; clear hc
    have hce : (chordE g != 0) = true := by simp; exact HC.out
    go_enter Tryz.func58, Tryz.ntmps58
    go_wp2_with (go_at_call 80; refine (H80.out _ ((Keep.refl _ _).alloc _)).mono ?_; rintro e w2 ⟨rfl, hk2⟩; have HK2 := Lib.hid (((Keep.refl (fun _ => False) w).alloc (.cells #[.slice ao g.length cap] 53)).trans hk2 (fun _ _ h => h)); clear hk2)
    go_ret2
    exact ⟨HK2.out, fun h => absurd h HC.out, fun _ => rfl⟩
end Go.Proofs.YthdkamnclbfehaaGreatDoor

/- cubebref06.coloured, Colours: the first colouring. -/
namespace Go.Proofs.YthdkamnclbfehaaGreatDoor
set_option linter.unusedSimpArgs false
set_option linter.unusedVariables false
set_option linter.unnecessarySimpa false
open Go.RowKit

/-- append to a slice that has no room: a new block. -/
structure Full (w : World) (e : TypeId) (size n : Nat) (xs : List Value) (m : Nat) (news : List Value) (v' : Value) (w' : World) : Prop where
  own : w'.ownsRow w.heap.size e size v' (n + m) (xs ++ news)
  keep : Keep (fun _ => False) w w'
theorem run_full {P : Program} (w : World) (t tx ty e : TypeId) (i : TypeInfo) (z : Value) (size bytes : Nat) (ht : P.underlying t = some (.slice e)) (hi : P.info? e = some i) (hz : i.zero = some z)
    (hsize : i.size = size) (hby : i.bytes = bytes) (hzs : z.cells.size = size)
    (ao : Option Addr) (n : Nat) (xs : List Value) (hrd : Rd w size (.slice ao n n) n xs) (x : Value) (m : Nat) (news : List Value) (hs : Src P size tx x m news w) (hm : 0 < m)
    (h63 : n + m ≤ maxLen) (hbytes : (n + m) * bytes ≤ 140737488355328) :
    ∃ v' w', (Builtin.append_ #[t, tx] ty #[.slice ao n n, x]).run P w = .ok v' w' ∧ Full w e size n xs m news v' w' := by
  subst hsize
  subst hby
  have hsmall : n + m ≤ 9223372036854775807 := by simp only [maxLen] at h63; omega
  have hl := hs.newsLen
  have hlen : (xs ++ news).length = (n + m) * i.size := by rw [List.length_append, hrd.1, hl, Nat.add_mul]
  have grown : Full w e i.size n xs m news (.slice (some ⟨w.heap.size, 0, none⟩) (n + m) (grownCap w (n + m) n e))
      (w.drew.alloc (.cells ((xs ++ news).toArray ++ Builtin.zeroCells z.cells (grownCap w (n + m) n e - (n + m))) e)) := by
    have hge := grownCap_ge w (n + m) n e
    have hcm : grownCap w (n + m) n e ≤ maxLen := grownCap_le_maxLen w (n + m) n e h63
    refine ⟨⟨hlen, .inr ⟨w.heap.size, _, _, rfl, Nat.le_refl _, heap_alloc_new w.drew _, hge, hcm, ?_, ?_⟩⟩, ((Keep.refl _ w).drew).alloc _⟩
    · simp only [Array.size_append, List.size_toArray, size_zeroCells, hzs, hlen, ← Nat.add_mul]
      congr 1
      omega
    · simp only [Array.toList_append, List.append_assoc]
      rw [← List.append_assoc, ← hlen]
      exact List.take_left
  rcases hrd.2.2 with ⟨h, h0⟩ | ⟨b, o, c, h, hc1, hc2, hx⟩
  · injection h with h1 h2 h3
    subst h1
    subst h0
    have hx : xs = [] := List.eq_nil_of_length_eq_zero (by simpa using hrd.1)
    subst hx
    exact ⟨_, _, run_append_grow_src (P := P) w t tx ty e i z ht hi hz none 0 0 [] (run_firstCells_none w.drew _ _ _ _) x m news hs (by omega) (by omega) (growslice_fits (by omega) hbytes), grown⟩
  · injection h with h1 h2 h3
    subst h1
    have holds : ∀ j u, xs[j]? = some u → w.drew.cell? ((⟨b, o, none⟩ : Addr).add j) = some u := fun j u hu => by rw [Addr.add_lit]; exact hx j u hu
    exact ⟨_, _, run_append_grow_src (P := P) w t tx ty e i z ht hi hz (some ⟨b, o, none⟩) n n xs (run_firstCells_some w.drew _ _ _ _ _ xs hrd.1 holds) x m news hs (by omega) (by omega) (growslice_fits (by omega) hbytes), grown⟩
theorem wpList_full {P : Program} {w : World} {ops : Array Oper} {rest : List Oper} {o : Oper} {a : Act} {Q : Exit → Act → World → Prop} (hgd : o.guard = none) (s x : Operand) (t tx : TypeId)
    (ho : o.op = .call { callee := .builtin .append, args := #[s, x], argTypes := #[t, tx] })
    (e : TypeId) (z : Value) (size bytes : Nat) (ht : P.underlying t = some (.slice e)) (hinfo : (P.info? e).map (fun i => (i.zero, i.size, i.bytes)) = some (some z, size, bytes)) (hzs : z.cells.size = size)
    {ao : Option Addr} {n : Nat} {xs : List Value} (hrd : Rd w size (.slice ao n n) n xs) (hs : a.eval s = .slice ao n n)
    {xv : Value} {m : Nat} {news : List Value} (hsrc : Src P size tx xv m news w) (hx : a.eval x = xv) (hm : 0 < m)
    (h63 : n + m ≤ maxLen) (hbytes : (n + m) * bytes ≤ 140737488355328)
    (h : ∀ v' w', Full w e size n xs m news v' w' → wpList P ops Q rest (a.put o.dst v') w') : wpList P ops Q (o :: rest) a w := by
  refine wpList_plain hgd fun K hK => ?_
  obtain ⟨i, hi, hz, hsize, hby⟩ := info_parts hinfo
  obtain ⟨v', w', hr, happ⟩ := run_full (P := P) w t tx o.type e i z size bytes ht hi hz hsize hby hzs ao n xs hrd xv m news hsrc hm h63 hbytes
  unfold Oper.wp execOp
  simp only [ho, resolve, invoke, builtin, Sem.run_bind, Sem.run_pure, Result.andThen_ok, List.map_toArray, List.map_cons, List.map_nil, hs, hx, hr]
  exact hK _ _ (h v' w' happ)

def colRC (next : List Nat → Option (List Nat)) (g : List Int) (i : Nat) (l : List Nat) : List Nat → Option (List Nat)
  | [] => none
  | c :: cs => if clashB g i l c then colRC next g i l cs else match next (l ++ [c]) with | some o => some o | none => colRC next g i l cs
def colR (g : List Int) (m : Nat) : Nat → Nat → List Nat → Option (List Nat)
  | 0, _, l => some l
  | k + 1, i, l => colRC (colR g m k (i + 1)) g i l (List.range m)
theorem colR_length {g : List Int} {m : Nat} : ∀ (k i : Nat) (l o : List Nat), colR g m k i l = some o → o.length = l.length + k := by
  intro k
  induction k with
  | zero => intro i l o h; cases h; rfl
  | succ k ih =>
    intro i l o
    show colRC (colR g m k (i + 1)) g i l (List.range m) = some o → _
    generalize List.range m = cs
    induction cs with
    | nil => intro h; cases h
    | cons c cs ih2 =>
      intro h
      unfold colRC at h
      split at h
      · exact ih2 h
      · split at h
        · rename_i o' ho
          cases h
          have := ih _ _ _ ho
          simp at this
          omega
        · exact ih2 h
theorem clash_same {g : List Int} {i c n : Nat} {o l : List Nat} (hi : i ≤ 12) (h : ∀ j, j < i → o.getD j 0 = l.getD j 0) : clashB g i o c = clashB g i l c := by
  unfold clashB
  have hm : ∀ j ∈ elems (gn g i &&& (2 ^ i - 1)), (o.getD j 0 == c) = (l.getD j 0 == c) := fun j hj => by
    have h2 := (List.mem_filter.1 hj).2
    rw [Nat.testBit_and, Nat.testBit_two_pow_sub_one, Bool.and_eq_true, decide_eq_true_eq] at h2
    rw [h j h2.2]
  generalize elems (gn g i &&& (2 ^ i - 1)) = es at hm
  induction es with
  | nil => rfl
  | cons e es ih =>
    simp only [List.any_cons]
    rw [hm e (List.mem_cons_self ..), ih (fun j hj => hm j (List.mem_cons_of_mem _ hj))]
theorem getD_take {o : List Nat} {i j : Nat} (h : j < i) : (o.take i).getD j 0 = o.getD j 0 := by simp [List.getD, List.getElem?_take, h]
theorem col_same {g : List Int} (hn : g.length ≤ 12) {m : Nat} : ∀ (k i : Nat) (o : List Nat), i + k = g.length → o.length = g.length → colR g m k i (o.take i) = if (tryF g m k i o).1 = true then some (tryF g m k i o).2 else none := by
  intro k
  induction k with
  | zero =>
    intro i o h1 h2
    show some (o.take i) = if true = true then some o else none
    rw [if_pos rfl, List.take_of_length_le (by omega)]
  | succ k ih =>
    intro i o h1 h2
    show colRC (colR g m k (i + 1)) g i (o.take i) (List.range m) = if (tryC (tryF g m k (i + 1)) g i (List.range m) o).1 = true then some (tryC (tryF g m k (i + 1)) g i (List.range m) o).2 else none
    have : ∀ (cs : List Nat) (o : List Nat), o.length = g.length → colRC (colR g m k (i + 1)) g i (o.take i) cs = if (tryC (tryF g m k (i + 1)) g i cs o).1 = true then some (tryC (tryF g m k (i + 1)) g i cs o).2 else none := by
      intro cs
      induction cs with
      | nil => intro o _; rfl
      | cons c cs ih2 =>
        intro o hl
        have hk := try_keep (g := g) (m := m) k (i + 1) (o.set i c)
        unfold colRC tryC
        rw [clash_same (g := g) (i := i) (c := c) (n := 0) (o := o.take i) (l := o) (by omega) (fun j hj => getD_take hj)]
        by_cases hc : clashB g i o c = true
        · rw [if_pos hc, if_pos hc]; exact ih2 o hl
        · rw [if_neg hc, if_neg hc]
          have e1 : o.take i ++ [c] = (o.set i c).take (i + 1) := by
            rw [List.take_add_one, List.take_set_of_le (Nat.le_refl _), List.getElem?_set_self (by omega)]
            rfl
          rw [e1, ih (i + 1) (o.set i c) (by omega) (by rw [List.length_set]; exact hl)]
          by_cases ht : (tryF g m k (i + 1) (o.set i c)).1 = true
          · rw [if_pos ht, if_pos ht, if_pos ht]
          · rw [if_neg ht, if_neg ht]
            have e2 : o.take i = (tryF g m k (i + 1) (o.set i c)).2.take i := by
              apply List.ext_getElem?
              intro j
              by_cases hj : j < i
              · rw [List.getElem?_take_of_lt hj, List.getElem?_take_of_lt hj]
                have h3 := hk.2 j (by omega)
                rw [getD_set_ne (by omega)] at h3
                have l1 : j < o.length := by omega
                have l2 : j < (tryF g m k (i + 1) (o.set i c)).2.length := by rw [hk.1, List.length_set]; omega
                rw [List.getElem?_eq_getElem l1, List.getElem?_eq_getElem l2]
                simp [List.getD, List.getElem?_eq_getElem l1, List.getElem?_eq_getElem l2] at h3
                rw [h3]
              · rw [List.getElem?_take_eq_none (by omega), List.getElem?_take_eq_none (by omega)]
            rw [e2]
            exact ih2 _ (by rw [hk.1, List.length_set]; exact hl)
    exact this (List.range m) o h2
theorem colR_col {g : List Int} (hg : Graph g) (ho : orderB g = true) : colR g (most g) g.length 0 [] = some (colF g) := by
  have h := col_same hg.2.1 (m := most g) g.length 0 (List.replicate g.length 0) (by omega) (by simp)
  rw [if_pos (col_ok hg ho).1] at h
  exact h
end Go.Proofs.YthdkamnclbfehaaGreatDoor

/- cubebref06.coloured, Colours, walked. -/
namespace Go.Proofs.YthdkamnclbfehaaGreatDoor
set_option linter.unusedSimpArgs false
set_option linter.unusedVariables false
set_option linter.unnecessarySimpa false
open Go.RowKit

def ColRPost (w : World) (r : Option (List Nat)) (e : Ending) (w' : World) : Prop :=
  Keep (fun _ => False) w w' ∧ (r = none → e = .returned (.slice none 0 0)) ∧ ∀ o, r = some o → ∃ a c, e = .returned (.slice (some a) o.length c) ∧ Rd w' 1 (.slice (some a) o.length c) o.length (ncells o)
def C91Rel (w : World) (g : List Int) (m k i : Nat) (l : List Nat) (R : Option (List Nat)) (gh : Nat) (s21 : Value) (wx : World) : Prop :=
  ∃ c : Nat, gh = m - c ∧ c ≤ m ∧ s21 = .int .i64 (c : Nat) ∧ colRC (colR g m k (i + 1)) g i l ((List.range m).drop c) = R ∧ Keep (fun _ => False) w wx
theorem clash_upto {g : List Int} (hg : Graph g) {i : Nat} (hi : i < g.length) (l : List Nat) (c : Nat) : clashB g i l c = !((List.range i).all fun j => !adj g i j || !(l.getD j 0 == c)) := by
  cases hc : clashB g i l c with
  | false =>
    have h := (clashB_false (out := l) (c := c) hg hi).1 hc
    symm
    rw [Bool.not_eq_false', List.all_eq_true]
    intro j hj
    have hj' := List.mem_range.1 hj
    cases ha : adj g i j with
    | false => rfl
    | true => simpa using h j hj' ha
  | true =>
    symm
    rw [Bool.not_eq_true']
    cases hb : (List.range i).all fun j => !adj g i j || !(l.getD j 0 == c) with
    | false => rfl
    | true =>
      have := (clashB_false (out := l) (c := c) hg hi).2 (fun j hj ha e => by
        have h2 := List.all_eq_true.1 hb j (List.mem_range.2 hj)
        rw [ha, e] at h2
        simp at h2)
      rw [hc] at this; cases this
def okTo (g : List Int) (i : Nat) (l : List Nat) (c j : Nat) : Bool := (List.range j).all fun j => !adj g i j || !(l.getD j 0 == c)
theorem okTo_succ (g : List Int) (i : Nat) (l : List Nat) (c j : Nat) : okTo g i l c (j + 1) = (okTo g i l c j && (!adj g i j || !(l.getD j 0 == c))) := by
  unfold okTo
  rw [List.range_succ, List.all_append]
  simp

set_option maxHeartbeats 4000000 in
set_option maxRecDepth 100000 in
theorem coloured_any {g : List Int} (hg : Graph g) {m : Nat} (hm : m ≤ 12) {gv : Value} : ∀ (k i : Nat) (l : List Nat) (w : World) (lv : Value), i + k = g.length → l.length = i → Rd w 1 gv g.length (icells g) → Rd w 1 lv i (ncells l) →
    Calls Tryz.prog 91 #[gv, lv, .int .i64 (m : Nat)] w (ColRPost w (colR g m k i l)) := by
  intro k
  induction k with
  | zero =>
    intro i l w lv hi hl hgv hlv
    obtain ⟨go_, gc, hge, _⟩ := hgv.shape
    subst hge
    obtain ⟨b, o, c, hle⟩ : ∃ b o c, lv = .slice (some ⟨b, o, none⟩) i c := by
      rcases hlv.2.2 with ⟨h, h'⟩ | ⟨b, o, c, h, _, _, hx⟩
      · have := hg.1; omega
      · exact ⟨b, o, c, h⟩
    subst hle
    have hie : ((i : Int) == (g.length : Int)) = true := by simp; omega
    have hie2 : ((i : Int) = (g.length : Int)) = True := by simp; omega
    have HLV := Lib.hid hlv
    have HL := Lib.hid hl
    clear hi hl hlv hgv
    go_enter Tryz.func91, Tryz.ntmps91
    go_wp2
    go_ret
    refine ⟨Keep.refl _ _, (fun h => by cases h), fun o' h => ?_⟩
    cases h
    have h := HLV.out
    rw [← HL.out] at h ⊢
    exact ⟨_, _, rfl, h⟩
  | succ k ih =>
    intro i l w lv hi hl hgv hlv
    have hn := hg.2.1
    have hin : i < g.length := by omega
    obtain ⟨gb, go_, gc, hge⟩ : ∃ b o c, gv = .slice (some ⟨b, o, none⟩) g.length c := by
      rcases hgv.2.2 with ⟨h, h'⟩ | ⟨b, o, c, h, _, _, hx⟩
      · omega
      · exact ⟨b, o, c, h⟩
    subst hge
    obtain ⟨lo, lc, hle, hlc, _⟩ := hlv.shape
    subst hle
    have hie : ((i : Int) == (g.length : Int)) = false := by simp; omega
    have hie2 : ((i : Int) = (g.length : Int)) = False := by simp; omega
    obtain ⟨R, hR⟩ : ∃ R, colR g m (k + 1) i l = R := ⟨_, rfl⟩
    have hR0 : colRC (colR g m k (i + 1)) g i l ((List.range m).drop 0) = R := hR
    rw [hR]
    have HR0 := Lib.hid hR0
    have HGC : Hid (∀ W, Keep (fun _ => False) w W → W.cell? ⟨gb, go_ + i, none⟩ = some (.int .i64 (gn g i : Nat))) := Lib.hid fun W hk => by
      rcases (hgv.keep hk (fun _ _ h => h)).2.2 with ⟨h, h'⟩ | ⟨b', o', c, h, _, _, hx⟩
      · omega
      · injection h with h1 h2 h3
        injection h1 with h1
        injection h1 with h4 h5
        subst h4 h5
        rw [← (hg.bound hin).1]
        exact hx i _ (icells_get g i hin)
    have HGV := Lib.hid hgv
    have HLV := Lib.hid hlv
    have HL := Lib.hid hl
    have HIH := Lib.hid ih
    have HAD := Lib.hid (fun j => nat_bit (gn g i) j)
    have HCU := Lib.hid (clash_upto hg hin l)
    clear hR hR0 hgv hlv hl ih
    go_enter Tryz.func91, Tryz.ntmps91
    go_wp2
    go_loopg [21] m (fun gh s21 wx => C91Rel w g m k i l R gh s21 wx)
    case atStart => exact ⟨0, rfl, Nat.zero_le _, rfl, HR0.out, Keep.refl _ _⟩
    case round =>
      obtain ⟨c, rfl, hc, rfl, hRc, hk⟩ := hrel
      have HRC := Lib.hid hRc
      have HK := Lib.hid hk
      clear hRc hk
      by_cases hlt : c < m
      · have hjl : ((c : Int) < (m : Int)) = True := by simp; omega
        have hRs := HRC.out
        rw [range_drop hlt] at hRs
        unfold colRC at hRs
        have HRS := Lib.hid hRs; clear hRs
        have hci := HGC.out wr HK.out
        go_wp2
        go_loopg [9, 26] i (fun gh s9 s26 wx => ∃ j : Nat, gh = i - j ∧ j ≤ i ∧ s26 = .int .i64 (j : Nat) ∧ s9 = .bool (okTo g i l c j) ∧ Keep (fun _ => False) w wx)
        case atStart => exact ⟨0, rfl, Nat.zero_le _, rfl, rfl, HK.out⟩
        case round =>
          obtain ⟨j, rfl, hj, rfl, rfl, hk2⟩ := hrel
          have HK2 := Lib.hid hk2; clear hk2
          have hci := HGC.out wr HK2.out
          by_cases hlt2 : j < i
          · have hjl2 : ((j : Int) < (i : Int)) = True := by simp; omega
            have hrd := HLV.out.keep HK2.out (fun _ _ h => h)
            obtain ⟨b, o, hao, hcell⟩ : ∃ b o, lo = some ⟨b, o, none⟩ ∧ wr.cell? ⟨b, o + j, none⟩ = some (.int .i64 (l.getD j 0 : Nat)) := by
              rcases hrd.2.2 with ⟨h, h'⟩ | ⟨b, o, c, h, _, _, hx⟩
              · omega
              · injection h with h1 h2 h3
                exact ⟨b, o, h1, hx j _ (ncells_get l j (by rw [HL.out]; exact hlt2))⟩
            subst hao
            clear hrd
            have hbit := HAD.out j
            have hbit : bits .and .i64 ((gn g i : Int) / 2 ^ j) 1 = if adj g i j then 1 else 0 := hbit
            have hos := okTo_succ g i l c j
            have hj12 : j ≤ 12 := by omega
            obtain ⟨ok, hok⟩ : ∃ b, okTo g i l c j = b := ⟨_, rfl⟩
            rw [hok] at hos ⊢
            obtain ⟨d, hd⟩ : ∃ d, l.getD j 0 = d := ⟨_, rfl⟩
            rw [hd] at hcell hos
            obtain ⟨gi, hgi⟩ : ∃ gi, gn g i = gi := ⟨_, rfl⟩
            rw [hgi] at hbit hci
            have hcd : ((c : Int) != (d : Int)) = !(d == c) := by rw [bne, int_beq, Bool.beq_comm]
            clear hok hd hgi
            cases ok with
            | false =>
              have HOS := Lib.hid hos
              clear hos hbit hcd
              go_wp2
              go_roundg (i - (j + 1))
              case measure => omega
              case rel => exact ⟨j + 1, rfl, by omega, by go_num, by rw [HOS.out]; rfl, HK2.out⟩
            | true =>
              cases ha : adj g i j with
              | false =>
                rw [ha] at hos hbit
                have HOS := Lib.hid hos
                have hb0 : bits .and .i64 ((gi : Int) / 2 ^ j) 1 = 0 := hbit
                clear hos hbit hcd ha
                go_wp2
                go_roundg (i - (j + 1))
                case measure => omega
                case rel => exact ⟨j + 1, rfl, by omega, by go_num, by rw [HOS.out]; rfl, HK2.out⟩
              | true =>
                rw [ha] at hos hbit
                have hb0 : bits .and .i64 ((gi : Int) / 2 ^ j) 1 = 1 := hbit
                cases hdc : (d == c) with
                | true =>
                  rw [hdc] at hos hcd
                  have HOS := Lib.hid hos
                  have hcd2 : ((c : Int) != (d : Int)) = false := hcd
                  clear hos hbit ha hdc hcd
                  go_wp2
                  go_roundg (i - (j + 1))
                  case measure => omega
                  case rel => exact ⟨j + 1, rfl, by omega, by go_num, by rw [HOS.out]; rfl, HK2.out⟩
                | false =>
                  rw [hdc] at hos hcd
                  have HOS := Lib.hid hos
                  have hcd2 : ((c : Int) != (d : Int)) = true := hcd
                  clear hos hbit ha hdc hcd
                  go_wp2
                  go_roundg (i - (j + 1))
                  case measure => omega
                  case rel => exact ⟨j + 1, rfl, by omega, by go_num, by rw [HOS.out]; rfl, HK2.out⟩
          · have hje : j = i := by omega
            subst hje
            have hjl2 : ((j : Int) < (j : Int)) = False := by simp
            have hcu : clashB g j l c = !okTo g j l c j := HCU.out c
            cases hok : okTo g j l c j with
            | false =>
              have hR2 := HRS.out
              rw [hcu, hok] at hR2
              have HR2 := Lib.hid (show colRC (colR g m k (j + 1)) g j l ((List.range m).drop (c + 1)) = R by simpa using hR2)
              clear hok hcu hR2
              go_wp2
              go_roundg (m - (c + 1))
              case measure => omega
              case rel => exact ⟨c + 1, rfl, by omega, by go_num, HR2.out, HK2.out⟩
            | true =>
              have hR2 := HRS.out
              rw [hcu, hok, if_neg (by simp)] at hR2
              have hlr := HLV.out.keep HK2.out (fun _ _ h => h)
              have HRDI : Hid (Rd wr 1 (.slice lo j j) j (ncells l)) := Lib.hid (by
                refine ⟨hlr.1, hlr.2.1, ?_⟩
                rcases hlr.2.2 with ⟨h, h'⟩ | ⟨b, o, c', h, h1, h2, hx⟩
                · injection h with q1 q2 q3
                  subst q1
                  exact .inl ⟨by rw [h'], h'⟩
                · injection h with q1 q2 q3
                  subst q1
                  exact .inr ⟨b, o, j, rfl, Nat.le_refl _, by omega, hx⟩)
              have hlen : ((l ++ [c]).length) = j + 1 := by rw [List.length_append, HL.out]; rfl
              have HLEN := Lib.hid hlen
              have hgo : (l.length : Nat) = j := HL.out
              clear hok hcu hlr hlen
              cases hcr : colR g m k (j + 1) (l ++ [c]) with
              | none =>
                have HR2 := Lib.hid (show colRC (colR g m k (j + 1)) g j l ((List.range m).drop (c + 1)) = R by rw [hcr] at hR2; exact hR2)
                have HCR := Lib.hid hcr
                clear hR2 hcr hgo
                have hneq := fun W a n c' => run_neq_slice_nil_any (P := Tryz.prog) W 34 3 a n c' 0 0 Tryz.underlying34
                go_wp2_with (first
                  | (at_builtin; refine wpList_full (w := wr.alloc (.cells #[.int .i64 (c : Nat)] 3)) rfl (.tmp 53) (.tmp 55) 34 34 rfl 3 (.int .i64 0) 1 8 Tryz.underlying34 info3 rfl (HRDI.out.keep ((Keep.refl (fun _ => False) _).alloc _) (fun _ _ h => h)) rfl (Src.new (P := Tryz.prog) Tryz.underlying34 wr 1 [.int .i64 (c : Nat)] 3 rfl (by simp [Value.oneCell'])) rfl (by omega) (by unfold maxLen; omega) (by omega) ?_; intro v6 w6 happ; have HRA := Lib.hid (show Rd w6 1 v6 (j + 1) (ncells (l ++ [c])) by have h := ownsRow_rd happ.own (by intro u hu; rw [List.mem_append] at hu; exact hu.elim (fun h => by obtain ⟨_, _, rfl⟩ := List.mem_map.1 h; rfl) (fun h => by rw [List.mem_singleton.1 h]; rfl)); simpa [ncells] using h); have HK6 := Lib.hid (HK2.out.trans (((Keep.refl (fun _ => False) wr).alloc (.cells #[.int .i64 (c : Nat)] 3)).trans happ.keep (fun _ _ h => h)) (fun _ _ h => h)); clear happ)
                  | (go_at_call 91; have hh := HIH.out (j + 1) (l ++ [c]) w6 v6 (by omega) HLEN.out (HGV.out.keep HK6.out (fun _ _ h => h)) HRA.out; rw [HCR.out] at hh; refine Calls.mono hh ?_; clear hh; rintro e w7 ⟨hk7, hno7, _⟩; obtain rfl := hno7 rfl; have HK7 := Lib.hid (HK6.out.trans hk7 (fun _ _ h => h)); clear hk7 hno7))
                go_roundg (m - (c + 1))
                case measure => omega
                case rel => exact ⟨c + 1, rfl, by omega, by go_num, HR2.out, HK7.out⟩
              | some o =>
                have HR2 := Lib.hid (show some o = R by rw [hcr] at hR2; exact hR2)
                have HCR := Lib.hid hcr
                clear hR2 hcr hgo
                have hneq := fun W a n c' => run_neq_slice_nil_any (P := Tryz.prog) W 34 3 a n c' 0 0 Tryz.underlying34
                go_wp2_with (first
                  | (at_builtin; refine wpList_full (w := wr.alloc (.cells #[.int .i64 (c : Nat)] 3)) rfl (.tmp 53) (.tmp 55) 34 34 rfl 3 (.int .i64 0) 1 8 Tryz.underlying34 info3 rfl (HRDI.out.keep ((Keep.refl (fun _ => False) _).alloc _) (fun _ _ h => h)) rfl (Src.new (P := Tryz.prog) Tryz.underlying34 wr 1 [.int .i64 (c : Nat)] 3 rfl (by simp [Value.oneCell'])) rfl (by omega) (by unfold maxLen; omega) (by omega) ?_; intro v6 w6 happ; have HRA := Lib.hid (show Rd w6 1 v6 (j + 1) (ncells (l ++ [c])) by have h := ownsRow_rd happ.own (by intro u hu; rw [List.mem_append] at hu; exact hu.elim (fun h => by obtain ⟨_, _, rfl⟩ := List.mem_map.1 h; rfl) (fun h => by rw [List.mem_singleton.1 h]; rfl)); simpa [ncells] using h); have HK6 := Lib.hid (HK2.out.trans (((Keep.refl (fun _ => False) wr).alloc (.cells #[.int .i64 (c : Nat)] 3)).trans happ.keep (fun _ _ h => h)) (fun _ _ h => h)); clear happ)
                  | (go_at_call 91; have hh := HIH.out (j + 1) (l ++ [c]) w6 v6 (by omega) HLEN.out (HGV.out.keep HK6.out (fun _ _ h => h)) HRA.out; rw [HCR.out] at hh; refine Calls.mono hh ?_; clear hh; rintro e w7 ⟨hk7, _, hso7⟩; obtain ⟨a7, c7, rfl, hrd7⟩ := hso7 o rfl; have HK7 := Lib.hid (HK6.out.trans hk7 (fun _ _ h => h)); have HRD7 := Lib.hid hrd7; clear hk7 hso7 hrd7))
                go_ret
                exact ⟨HK7.out, (fun h => by rw [← HR2.out] at h; cases h), fun o' h => by
                  rw [← HR2.out] at h
                  cases h
                  exact ⟨_, _, rfl, HRD7.out⟩⟩
      · have hce : c = m := by omega
        subst hce
        have hjl : ((c : Int) < (c : Int)) = False := by simp
        have hr : R = none := by
          have h := HRC.out
          rw [List.drop_of_length_le (by simp)] at h
          exact h.symm
        have HRN := Lib.hid hr; clear hr
        go_wp2
        go_ret
        exact ⟨HK.out, fun _ => rfl, fun o h => by rw [HRN.out] at h; cases h⟩
end Go.Proofs.YthdkamnclbfehaaGreatDoor

/- slices.Max; house.Assign. -/
namespace Go.Proofs.YthdkamnclbfehaaGreatDoor
set_option linter.unusedSimpArgs false
set_option linter.unusedVariables false
set_option linter.unnecessarySimpa false
open Go.RowKit

def maxN (l : List Nat) : Nat := l.foldl max 0
theorem maxN_take {l : List Nat} {k : Nat} (h : k < l.length) : maxN (l.take (k + 1)) = max (maxN (l.take k)) (l.getD k 0) := by
  have e : l.take (k + 1) = l.take k ++ [l.getD k 0] := by rw [List.take_add_one, List.getElem?_eq_getElem h]; simp [List.getD, List.getElem?_eq_getElem h]
  unfold maxN
  rw [e, List.foldl_append]
  rfl
theorem foldl_max (l : List Nat) : ∀ a, a ≤ l.foldl max a ∧ ∀ x ∈ l, x ≤ l.foldl max a := by
  induction l with
  | nil => intro a; exact ⟨Nat.le_refl _, fun x hx => by cases hx⟩
  | cons y l ih =>
    intro a
    have h := ih (max a y)
    simp only [List.foldl_cons]
    exact ⟨by omega, fun x hx => by rcases List.mem_cons.1 hx with rfl | hx; · omega
                                    · exact h.2 x hx⟩
theorem maxN_ge {l : List Nat} {x : Nat} (h : x ∈ l) : x ≤ maxN l := (foldl_max l 0).2 x h
theorem foldl_max_lt {m : Nat} (l : List Nat) : ∀ a, a < m → (∀ x ∈ l, x < m) → l.foldl max a < m := by
  induction l with
  | nil => intro a h _; exact h
  | cons y l ih =>
    intro a h hl
    simp only [List.foldl_cons]
    exact ih _ (by have := hl y (List.mem_cons_self ..); omega) (fun x hx => hl x (List.mem_cons_of_mem _ hx))
theorem maxN_lt {l : List Nat} {m : Nat} (h : 0 < m) (hl : ∀ x ∈ l, x < m) : maxN l < m := foldl_max_lt l 0 h hl
theorem max_nat (a b : Nat) : max (a : Int) (b : Int) = ((max a b : Nat) : Int) := by omega

set_option maxHeartbeats 1000000 in
theorem max_any {w : World} {v : Value} {l : List Nat} (hv : Rd w 1 v l.length (ncells l)) (h1 : 1 ≤ l.length) (hl : l.length < 1000000) : Calls Tryz.prog 59 #[v] w fun e w' => e = .returned (.int .i64 (maxN l : Nat)) ∧ w = w' := by
  obtain ⟨b, o, cap, hve, hcell⟩ : ∃ b o cap, v = .slice (some ⟨b, o, none⟩) l.length cap ∧ ∀ j, j < l.length → w.cell? ⟨b, o + j, none⟩ = some (.int .i64 (l.getD j 0 : Nat)) := by
    rcases hv.2.2 with ⟨h, h'⟩ | ⟨b, o, c, h, _, _, hx⟩
    · omega
    · exact ⟨b, o, c, h, fun j hj => hx j _ (ncells_get l j hj)⟩
  subst hve
  have c0 := hcell 0 (by omega)
  rw [Nat.add_zero] at c0
  have hm1 : maxN (l.take 1) = l.getD 0 0 := by rw [maxN_take (by omega)]; simp [maxN]
  have hlt1 : ((l.length : Int) < 1) = False := by simp; omega
  obtain ⟨n, hn⟩ : ∃ n, l.length = n := ⟨_, rfl⟩
  have HC := Lib.hid hcell
  have HM1 := Lib.hid hm1
  have HN := Lib.hid hn
  have hn0 : ((0 : Int) < (n : Int)) = True := by simp; omega
  rw [hn] at hlt1 h1 hl ⊢
  obtain ⟨x0, hx0⟩ : ∃ x, l.getD 0 0 = x := ⟨_, rfl⟩
  rw [hx0] at c0 HM1
  clear hcell hm1 hv hn hx0
  go_enter Tryz.func59, Tryz.ntmps59
  go_wp2
  go_loopw [3, 4] (fun s3 s4 wr => ∃ k : Nat, 1 ≤ k ∧ k ≤ n ∧ s4 = .int .i64 (k : Nat) ∧ s3 = .int .i64 (maxN (l.take k) : Nat) ∧ w = wr) (fun _ s4 _ => n - (intOf s4).toNat)
  case atStart => exact ⟨1, Nat.le_refl _, h1, rfl, by rw [HM1.out], by first | rfl | trivial⟩
  case round =>
    obtain ⟨k, hk1, hk, rfl, rfl, rfl⟩ := hrel
    by_cases hlt : k < n
    · have hjl : ((k : Int) < (n : Int)) = True := by simp; omega
      have ck := HC.out k (by have := HN.out; omega)
      have HT := Lib.hid (maxN_take (l := l) (k := k) (by have := HN.out; omega))
      obtain ⟨x, hx⟩ : ∃ x, l.getD k 0 = x := ⟨_, rfl⟩
      obtain ⟨y, hy⟩ : ∃ y, maxN (l.take k) = y := ⟨_, rfl⟩
      rw [hx, hy] at HT
      rw [hx] at ck
      rw [hy]
      have hmx := max_nat y x
      clear hx hy
      go_wp2
      go_roundw
      case rel => exact ⟨k + 1, by omega, by omega, by go_num, by rw [HT.out], by first | rfl | trivial⟩
      case measure => simp [intOf]; omega
    · have hke : k = n := by omega
      subst hke
      have hjl : ((k : Int) < (k : Int)) = False := by simp
      go_wp2
      go_ret
      exact ⟨by rw [show l.take k = l from List.take_of_length_le (by rw [HN.out]; exact Nat.le_refl _)]; rfl, rfl⟩

def assignE (g : List Int) (kinds : Int) : Int :=
  if baysB g = true ∧ 1 ≤ kinds ∧ kinds ≤ 8 then (if chordE g = 0 then (if kinds ≤ (maxN (colF g) : Nat) then 5 else 0) else chordE g) else 2
def AssignPost (w : World) (g : List Int) (kinds : Int) (e : Ending) (w' : World) : Prop :=
  Keep (fun _ => False) w w' ∧ (assignE g kinds = 0 → ∃ v', e = .returned (.tuple #[v', .int .i64 0]) ∧ w'.ownsRow w.heap.size 3 1 v' g.length (ncells (colF g))) ∧
    (assignE g kinds ≠ 0 → e = .returned (.tuple #[.slice none 0 0, .int .i64 (assignE g kinds)]))
set_option maxHeartbeats 2000000 in
set_option maxRecDepth 100000 in
theorem assign_any {w : World} {v : Value} {g : List Int} (kinds : Int) (hv : Rd w 1 v g.length (icells g)) (hlen : g.length < 9223372036854775807) (hT : TabAt 3 Lib.deBruijn64tab w) (hw3 : 3 < w.heap.size) :
    Calls Tryz.prog 26 #[v, .int .i64 kinds] w (AssignPost w g kinds) := by
  obtain ⟨ao, cap, hve, _⟩ := hv.shape
  subst hve
  have H54 := Lib.hid (bays_any hv hlen hT hw3)
  have H58 : Hid (∀ W, Keep (fun _ => False) w W → Calls Tryz.prog 58 #[.slice ao g.length cap] W (ColPost W g)) := Lib.hid fun W hk =>
    colours_any (hv.keep hk (fun _ _ h => h)) hlen (fun j hj => (hk.cell (p := ⟨3, j, none⟩) hw3 (fun h => h)).trans (hT j hj)) (Nat.lt_of_lt_of_le hw3 hk.size)
  clear hv hT
  by_cases hb : baysB g = true ∧ 1 ≤ kinds ∧ kinds ≤ 8
  · obtain ⟨hb0, hk1, hk8⟩ := hb
    have hl1 : (kinds < 1) = False := eq_false (by omega)
    have hl8 : (8 < kinds) = False := eq_false (by omega)
    rw [hb0] at H54
    have HB := Lib.hid hb0
    have H8 := Lib.hid (baysB_8 hb0)
    clear hb0
    by_cases hc : chordE g = 0
    · have hcg := chordE_0 hc
      have hcol := (col_ok hcg.1 hcg.2).2.2
      have HCL := Lib.hid hcol
      have HC := Lib.hid hc
      clear hc hcg hcol
      obtain ⟨mx, hmx⟩ : ∃ mx, maxN (colF g) = mx := ⟨_, rfl⟩
      have HMX := Lib.hid hmx; clear hmx
      by_cases hle : kinds ≤ (mx : Nat)
      · have hgt : (kinds ≤ (mx : Int)) = True := eq_true hle
        have HF := Lib.hid (show assignE g kinds = 5 by unfold assignE; rw [if_pos ⟨HB.out, hk1, hk8⟩, if_pos HC.out, HMX.out, if_pos hle])
        clear hle
        go_enter Tryz.func26, Tryz.ntmps26
        go_wp2_with (first
          | (go_at_call 54; refine H54.out.mono ?_; rintro e w1 ⟨rfl, hk1'⟩; have HK1 := Lib.hid hk1'; clear hk1')
          | (go_at_call 58; refine (H58.out _ HK1.out).mono ?_; rintro e w2 ⟨hk2, hok2, _⟩; obtain ⟨v2, rfl, ho2⟩ := hok2 HC.out; have HK2 := Lib.hid (HK1.out.trans hk2 (fun _ _ h => h)); have HO2 := Lib.hid ho2; clear hk2 hok2 ho2)
          | (go_at_call 59; have hrd := ownsRow_rd HO2.out (by intro u hu; obtain ⟨_, _, rfl⟩ := List.mem_map.1 hu; rfl); rw [← HCL.out] at hrd; have hh := max_any hrd (by rw [HCL.out, H8.out]; decide) (by rw [HCL.out, H8.out]; decide); rw [HMX.out] at hh; refine Calls.mono hh ?_; clear hh hrd; rintro e w' ⟨rfl, rfl⟩))
        go_ret2
        exact ⟨HK2.out, (fun h => by rw [HF.out] at h; cases h), fun _ => by rw [HF.out]; rfl⟩
      · have hgt : (kinds ≤ (mx : Int)) = False := eq_false hle
        have HF := Lib.hid (show assignE g kinds = 0 by unfold assignE; rw [if_pos ⟨HB.out, hk1, hk8⟩, if_pos HC.out, HMX.out, if_neg hle])
        clear hle
        go_enter Tryz.func26, Tryz.ntmps26
        go_wp2_with (first
          | (go_at_call 54; refine H54.out.mono ?_; rintro e w1 ⟨rfl, hk1'⟩; have HK1 := Lib.hid hk1'; clear hk1')
          | (go_at_call 58; refine (H58.out _ HK1.out).mono ?_; rintro e w2 ⟨hk2, hok2, _⟩; obtain ⟨v2, rfl, ho2⟩ := hok2 HC.out; have HK2 := Lib.hid (HK1.out.trans hk2 (fun _ _ h => h)); have HO2 := Lib.hid ho2; clear hk2 hok2 ho2)
          | (go_at_call 59; have hrd := ownsRow_rd HO2.out (by intro u hu; obtain ⟨_, _, rfl⟩ := List.mem_map.1 hu; rfl); rw [← HCL.out] at hrd; have hh := max_any hrd (by rw [HCL.out, H8.out]; decide) (by rw [HCL.out, H8.out]; decide); rw [HMX.out] at hh; refine Calls.mono hh ?_; clear hh hrd; rintro e w' ⟨rfl, rfl⟩))
        go_ret2
        exact ⟨HK2.out, fun _ => ⟨v2, rfl, ownsRow_base HO2.out HK1.out.size⟩, fun h => absurd HF.out h⟩
    · have HF := Lib.hid (show assignE g kinds = chordE g by unfold assignE; rw [if_pos ⟨HB.out, hk1, hk8⟩, if_neg hc])
      have HC := Lib.hid hc
      have hce : (chordE g != 0) = true := by simp; exact hc
      clear hc
      go_enter Tryz.func26, Tryz.ntmps26
      go_wp2_with (first
        | (go_at_call 54; refine H54.out.mono ?_; rintro e w1 ⟨rfl, hk1'⟩; have HK1 := Lib.hid hk1'; clear hk1')
        | (go_at_call 58; refine (H58.out _ HK1.out).mono ?_; rintro e w2 ⟨hk2, _, hbad2⟩; obtain rfl := hbad2 HC.out; have HK2 := Lib.hid (HK1.out.trans hk2 (fun _ _ h => h)); clear hk2 hbad2))
      go_ret2
      exact ⟨HK2.out, fun h => absurd (HF.out.symm.trans h) HC.out, fun _ => by rw [HF.out]; rfl⟩
  · have HF := Lib.hid (show assignE g kinds = 2 by unfold assignE; rw [if_neg hb])
    cases hb0 : baysB g with
    | false =>
      rw [hb0] at H54
      clear hb
      go_enter Tryz.func26, Tryz.ntmps26
      go_wp2_with (first
        | (go_at_call 54; refine H54.out.mono ?_; rintro e w1 ⟨rfl, hk1'⟩; have HK1 := Lib.hid hk1'; clear hk1'))
      go_ret2
      exact ⟨HK1.out, (fun h => by rw [HF.out] at h; cases h), fun _ => by rw [HF.out]; rfl⟩
    | true =>
      rw [hb0] at H54
      by_cases hk1 : 1 ≤ kinds
      · have hl1 : (kinds < 1) = False := eq_false (by omega)
        have hl8 : (8 < kinds) = True := eq_true (by
          rcases Int.lt_or_le 8 kinds with h | h
          · exact h
          · exact absurd ⟨hb0, hk1, h⟩ hb)
        clear hb
        go_enter Tryz.func26, Tryz.ntmps26
        go_wp2_with (first
          | (go_at_call 54; refine H54.out.mono ?_; rintro e w1 ⟨rfl, hk1'⟩; have HK1 := Lib.hid hk1'; clear hk1'))
        go_ret2
        exact ⟨HK1.out, (fun h => by rw [HF.out] at h; cases h), fun _ => by rw [HF.out]; rfl⟩
      · have hl1 : (kinds < 1) = True := eq_true (by omega)
        clear hb
        go_enter Tryz.func26, Tryz.ntmps26
        go_wp2_with (first
          | (go_at_call 54; refine H54.out.mono ?_; rintro e w1 ⟨rfl, hk1'⟩; have HK1 := Lib.hid hk1'; clear hk1'))
        go_ret2
        exact ⟨HK1.out, (fun h => by rw [HF.out] at h; cases h), fun _ => by rw [HF.out]; rfl⟩
end Go.Proofs.YthdkamnclbfehaaGreatDoor

/- The law HouseColours, walked: it returns true, whatever the bays and the number of kinds. -/
namespace Go.Proofs.YthdkamnclbfehaaGreatDoor
set_option linter.unusedSimpArgs false
set_option linter.unusedVariables false
set_option linter.unnecessarySimpa false
open Go.RowKit

theorem countP_range_le {p : Nat → Bool} {n : Nat} (h : ∀ x, p x = true → x < n) : ∀ N, (List.range N).countP p ≤ n := by
  intro N
  have : (List.range N).countP p ≤ (List.range N).countP (fun x => decide (x < n)) := by
    generalize List.range N = l
    induction l with
    | nil => exact Nat.le_refl _
    | cons y l ih =>
      rw [List.countP_cons, List.countP_cons]
      cases hp : p y with
      | false => simp; omega
      | true => simp [h y hp]; omega
  have h2 : ∀ N, (List.range N).countP (fun x => decide (x < n)) ≤ min N n := by
    intro N
    induction N with
    | zero => simp
    | succ N ih =>
      rw [List.range_succ, List.countP_append, List.countP_cons, List.countP_nil]
      by_cases hN : N < n
      · simp [hN]; omega
      · simp [hN]; omega
  have := h2 N
  omega
theorem cnt12_le {s n : Nat} (h : s < 2 ^ n) : cnt12 s ≤ n := by
  unfold cnt12
  rw [← List.countP_eq_length_filter]
  exact countP_range_le (fun x hx => bit_lt h hx) 12
theorem most_le_len (g : List Int) : most g ≤ g.length := cnt12_le (bestTo_lt g _ _ (Nat.le_refl _) (Nat.lt_of_lt_of_le (by decide) Nat.one_le_two_pow))
theorem col_lt {g : List Int} (h : chordE g = 0) : ∀ x ∈ colF g, x < most g := fun x hx => by
  have hc := chordE_0 h
  have hok := (col_ok hc.1 hc.2).2
  obtain ⟨j, hj, rfl⟩ := List.getElem_of_mem hx
  have := hok.1.1 j (by rw [← hok.2]; exact hj)
  simpa [List.getD, List.getElem?_eq_getElem hj] using this
theorem most_pos {g : List Int} (h : chordE g = 0) : 0 < most g := by
  have hc := chordE_0 h
  have hok := (col_ok hc.1 hc.2).2
  have := hok.1.1 0 (by have := hc.1.1; omega)
  omega
theorem assign_8 {g : List Int} (hb : baysB g = true) : assignE g 8 = chordE g := by
  unfold assignE
  rw [if_pos ⟨hb, by omega, by omega⟩]
  by_cases hc : chordE g = 0
  · rw [if_pos hc]
    have h1 := maxN_lt (most_pos hc) (col_lt hc)
    have h2 := most_le_len g
    have h3 := baysB_8 hb
    rw [if_neg (by omega), hc]
  · rw [if_neg hc]
theorem assign_cases (g : List Int) (k : Int) : assignE g k = 2 ∨ (assignE g k = 5 ∧ assignE g 8 = 0) ∨ (assignE g k = 7 ∧ assignE g 8 = 7) ∨ (assignE g k = 0 ∧ assignE g 8 = 0 ∧ baysB g = true ∧ chordE g = 0 ∧ (maxN (colF g) : Nat) < k) := by
  by_cases hb : baysB g = true ∧ 1 ≤ k ∧ k ≤ 8
  · have h8 := assign_8 hb.1
    have he : assignE g k = if chordE g = 0 then (if k ≤ (maxN (colF g) : Nat) then 5 else 0) else chordE g := by unfold assignE; rw [if_pos hb]
    by_cases hc : chordE g = 0
    · rw [if_pos hc] at he
      by_cases hm : k ≤ (maxN (colF g) : Nat)
      · rw [if_pos hm] at he; exact .inr (.inl ⟨he, by rw [h8, hc]⟩)
      · rw [if_neg hm] at he; exact .inr (.inr (.inr ⟨he, by rw [h8, hc], hb.1, hc, by omega⟩))
    · rw [if_neg hc] at he
      have : chordE g = 2 ∨ chordE g = 7 := by
        unfold chordE at hc ⊢
        split at hc <;> (try split at hc) <;> simp_all
      rcases this with h | h
      · exact .inl (he.trans h)
      · exact .inr (.inr (.inl ⟨he.trans h, h8.trans h⟩))
  · exact .inl (by unfold assignE; rw [if_neg hb])

set_option maxHeartbeats 4000000 in
set_option maxRecDepth 100000 in
theorem houseColours_any {w : World} {gv : Value} {g : List Int} (kinds : Int) (hG : Glob w) (hg : Rd w 1 gv g.length (icells g)) (hgl : g.length < 9223372036854775807) :
    Calls Tryz.prog 6 #[gv, .int .i64 kinds] w (IdxPost w (.bool true)) := by
  obtain ⟨go_, gc, hge, hgc, _⟩ := hg.shape
  subst hge
  have hl10 : (g.take 10).length < 9223372036854775807 := by rw [List.length_take]; omega
  have HG := Lib.hid hG; clear hG
  have HGR := Lib.hid hg; clear hg
  have H25 : Hid (∀ W, Keep (fun _ => False) w W → Calls Tryz.prog 25 #[.slice go_ g.length gc] W (ClonePost W 3 1 (g.take 10).length (icells (g.take 10)))) := Lib.hid fun W hk => graph_any (HGR.out.keep hk (fun _ _ h => h)) (Nat.le_of_lt hgl)
  have H26 : Hid (∀ W v k, Keep (fun _ => False) w W → Rd W 1 v (g.take 10).length (icells (g.take 10)) → Calls Tryz.prog 26 #[v, .int .i64 k] W (AssignPost W (g.take 10) k)) := Lib.hid fun W v k hk hrd =>
    assign_any k hrd hl10 (HG.out.keep hk).tab (by have := (HG.out.keep hk).size; omega)
  clear hl10
  rcases assign_cases (g.take 10) kinds with ha | ⟨ha, hb⟩ | ⟨ha, hb⟩ | ⟨ha, hb, hbb, hc, hmx⟩
  · have HA := Lib.hid ha; clear ha
    obtain ⟨B, hB⟩ : ∃ B, assignE (g.take 10) 8 = B := ⟨_, rfl⟩
    have HBB := Lib.hid hB; clear hB
    by_cases hb0 : B = 0
    · subst hb0
      go_enter Tryz.func6, Tryz.ntmps6
      go_wp2_with (first
        | (go_at_call 25; refine (H25.out _ HK2.out).mono ?_; rintro e w3 ⟨v3, rfl, ho3, hk3⟩; have HK3 := Lib.hid (HK2.out.trans hk3 (fun _ _ h => h)); have HO3 := Lib.hid (ownsRow_rd ho3 (icells_one _)); clear ho3 hk3)
        | (go_at_call 25; refine (H25.out _ (Keep.refl _ _)).mono ?_; rintro e w1 ⟨v1, rfl, ho1, hk1⟩; have HK1 := Lib.hid hk1; have HO1 := Lib.hid (ownsRow_rd ho1 (icells_one _)); clear ho1 hk1)
        | (go_at_call 26; refine (H26.out _ _ _ HK3.out HO3.out).mono ?_; rintro e w4 ⟨hk4, hok4, _⟩; obtain ⟨v4, rfl, _⟩ := hok4 HBB.out; have HK4 := Lib.hid (HK3.out.trans hk4 (fun _ _ h => h)); clear hk4 hok4)
        | (go_at_call 26; refine (H26.out _ _ _ HK1.out HO1.out).mono ?_; rintro e w2 ⟨hk2, _, hbad2⟩; obtain rfl := hbad2 (by rw [HA.out]; decide); rw [HA.out]; have HK2 := Lib.hid (HK1.out.trans hk2 (fun _ _ h => h)); clear hk2 hbad2)
        | (go_at_call 13; refine Calls.mono (awake_any (HG.out.keep HK4.out)) ?_; rintro e w5 ⟨rfl, hk5⟩; have HK5 := Lib.hid hk5; clear hk5))
      go_ret
      exact ⟨rfl, HK4.out.trans HK5.out (fun _ _ h => h)⟩
    · have HB0 := Lib.hid hb0; clear hb0
      go_enter Tryz.func6, Tryz.ntmps6
      go_wp2_with (first
        | (go_at_call 25; refine (H25.out _ HK2.out).mono ?_; rintro e w3 ⟨v3, rfl, ho3, hk3⟩; have HK3 := Lib.hid (HK2.out.trans hk3 (fun _ _ h => h)); have HO3 := Lib.hid (ownsRow_rd ho3 (icells_one _)); clear ho3 hk3)
        | (go_at_call 25; refine (H25.out _ (Keep.refl _ _)).mono ?_; rintro e w1 ⟨v1, rfl, ho1, hk1⟩; have HK1 := Lib.hid hk1; have HO1 := Lib.hid (ownsRow_rd ho1 (icells_one _)); clear ho1 hk1)
        | (go_at_call 26; refine (H26.out _ _ _ HK3.out HO3.out).mono ?_; rintro e w4 ⟨hk4, _, hbad4⟩; obtain rfl := hbad4 (by rw [HBB.out]; exact HB0.out); rw [HBB.out]; have HK4 := Lib.hid (HK3.out.trans hk4 (fun _ _ h => h)); clear hk4 hbad4)
        | (go_at_call 26; refine (H26.out _ _ _ HK1.out HO1.out).mono ?_; rintro e w2 ⟨hk2, _, hbad2⟩; obtain rfl := hbad2 (by rw [HA.out]; decide); rw [HA.out]; have HK2 := Lib.hid (HK1.out.trans hk2 (fun _ _ h => h)); clear hk2 hbad2)
        | (go_at_call 13; refine Calls.mono (awake_any (HG.out.keep HK4.out)) ?_; rintro e w5 ⟨rfl, hk5⟩; have HK5 := Lib.hid hk5; clear hk5))
      go_ret
      exact ⟨rfl, HK4.out.trans HK5.out (fun _ _ h => h)⟩
  · have HA := Lib.hid ha; have HBB := Lib.hid hb; clear ha hb
    go_enter Tryz.func6, Tryz.ntmps6
    go_wp2_with (first
      | (go_at_call 25; refine (H25.out _ HK2.out).mono ?_; rintro e w3 ⟨v3, rfl, ho3, hk3⟩; have HK3 := Lib.hid (HK2.out.trans hk3 (fun _ _ h => h)); have HO3 := Lib.hid (ownsRow_rd ho3 (icells_one _)); clear ho3 hk3)
      | (go_at_call 25; refine (H25.out _ (Keep.refl _ _)).mono ?_; rintro e w1 ⟨v1, rfl, ho1, hk1⟩; have HK1 := Lib.hid hk1; have HO1 := Lib.hid (ownsRow_rd ho1 (icells_one _)); clear ho1 hk1)
      | (go_at_call 26; refine (H26.out _ _ _ HK3.out HO3.out).mono ?_; rintro e w4 ⟨hk4, hok4, _⟩; obtain ⟨v4, rfl, _⟩ := hok4 HBB.out; have HK4 := Lib.hid (HK3.out.trans hk4 (fun _ _ h => h)); clear hk4 hok4)
      | (go_at_call 26; refine (H26.out _ _ _ HK1.out HO1.out).mono ?_; rintro e w2 ⟨hk2, _, hbad2⟩; obtain rfl := hbad2 (by rw [HA.out]; decide); rw [HA.out]; have HK2 := Lib.hid (HK1.out.trans hk2 (fun _ _ h => h)); clear hk2 hbad2)
      | (go_at_call 13; refine Calls.mono (awake_any (HG.out.keep HK4.out)) ?_; rintro e w5 ⟨rfl, hk5⟩; have HK5 := Lib.hid hk5; clear hk5))
    go_ret
    exact ⟨rfl, HK4.out.trans HK5.out (fun _ _ h => h)⟩
  · have HA := Lib.hid ha; have HBB := Lib.hid hb; clear ha hb
    go_enter Tryz.func6, Tryz.ntmps6
    go_wp2_with (first
      | (go_at_call 25; refine (H25.out _ HK2.out).mono ?_; rintro e w3 ⟨v3, rfl, ho3, hk3⟩; have HK3 := Lib.hid (HK2.out.trans hk3 (fun _ _ h => h)); have HO3 := Lib.hid (ownsRow_rd ho3 (icells_one _)); clear ho3 hk3)
      | (go_at_call 25; refine (H25.out _ (Keep.refl _ _)).mono ?_; rintro e w1 ⟨v1, rfl, ho1, hk1⟩; have HK1 := Lib.hid hk1; have HO1 := Lib.hid (ownsRow_rd ho1 (icells_one _)); clear ho1 hk1)
      | (go_at_call 26; refine (H26.out _ _ _ HK3.out HO3.out).mono ?_; rintro e w4 ⟨hk4, _, hbad4⟩; obtain rfl := hbad4 (by rw [HBB.out]; decide); rw [HBB.out]; have HK4 := Lib.hid (HK3.out.trans hk4 (fun _ _ h => h)); clear hk4 hbad4)
      | (go_at_call 26; refine (H26.out _ _ _ HK1.out HO1.out).mono ?_; rintro e w2 ⟨hk2, _, hbad2⟩; obtain rfl := hbad2 (by rw [HA.out]; decide); rw [HA.out]; have HK2 := Lib.hid (HK1.out.trans hk2 (fun _ _ h => h)); clear hk2 hbad2)
      | (go_at_call 13; refine Calls.mono (awake_any (HG.out.keep HK4.out)) ?_; rintro e w5 ⟨rfl, hk5⟩; have HK5 := Lib.hid hk5; clear hk5))
    go_ret
    exact ⟨rfl, HK4.out.trans HK5.out (fun _ _ h => h)⟩
  · have HA := Lib.hid ha; have HBB := Lib.hid hb
    have hcg := chordE_0 hc
    have hok := (col_ok hcg.1 hcg.2).2
    have h10 := baysB_8 hbb
    have hgl8 : g.length = 8 := by rw [List.length_take] at h10; omega
    have ht10 : g.take 10 = g := List.take_of_length_le (by omega)
    have hnc : (((colF (g.take 10)).map Int.ofNat)).length = 8 := by rw [List.length_map, hok.2, h10]
    obtain ⟨C, hC⟩ : ∃ C, colF (g.take 10) = C := ⟨_, rfl⟩
    rw [hC] at hok hmx hnc
    have hCl : C.length = 8 := by rw [hok.2, h10]
    have HPART := Lib.hid hok.1
    have HGP := Lib.hid (ht10 ▸ hcg.1 : Graph g)
    have HMX := Lib.hid hmx
    have HH10 := Lib.hid h10
    have HCL := Lib.hid hCl
    have HC := Lib.hid hC
    have HT10 := Lib.hid ht10
    have HGL8 := Lib.hid hgl8
    rw [hgl8] at H25
    clear ha hb hbb hc hmx hcg hok h10 hC hnc hCl ht10
    go_enter Tryz.func6, Tryz.ntmps6
    rw [hgl8]
    clear hgl8
    go_upto_region 7 with (first
      | (go_at_call 25; refine (H25.out _ HK2.out).mono ?_; rintro e w3 ⟨v3, rfl, ho3, hk3⟩; have HK3 := Lib.hid (HK2.out.trans hk3 (fun _ _ h => h)); have HR13 := Lib.hid (HR1.out.keep hk3 (fun _ _ h => h)); have HO3 := Lib.hid (ownsRow_rd ho3 (icells_one _)); clear ho3 hk3)
      | (go_at_call 25; refine (H25.out _ (Keep.refl _ _)).mono ?_; rintro e w1 ⟨v1, rfl, ho1, hk1⟩; have HK1 := Lib.hid hk1; have HO1 := Lib.hid (ownsRow_rd ho1 (icells_one _)); clear ho1 hk1)
      | (go_at_call 26; refine (H26.out _ _ _ HK3.out HO3.out).mono ?_; rintro e w4 ⟨hk4, hok4, _⟩; obtain ⟨v4, rfl, ho4⟩ := hok4 HBB.out; rw [HH10.out, HC.out] at ho4; have HK4 := Lib.hid (HK3.out.trans hk4 (fun _ _ h => h)); have HR2 := Lib.hid (HR13.out.keep hk4 (fun _ _ h => h)); have HR4 := Lib.hid (ownsRow_rd ho4 (by intro u hu; obtain ⟨_, _, rfl⟩ := List.mem_map.1 hu; rfl)); obtain ⟨q4, r4, rfl, _⟩ := ownsRow_shape ho4; clear hk4 hok4 ho4)
      | (go_at_call 26; refine (H26.out _ _ _ HK1.out HO1.out).mono ?_; rintro e w2 ⟨hk2, hok2, _⟩; obtain ⟨v2, rfl, ho2⟩ := hok2 HA.out; rw [HH10.out, HC.out] at ho2; have HK2 := Lib.hid (HK1.out.trans hk2 (fun _ _ h => h)); have HR1 := Lib.hid (ownsRow_rd ho2 (by intro u hu; obtain ⟨_, _, rfl⟩ := List.mem_map.1 hu; rfl)); obtain ⟨q2, r2, rfl, _⟩ := ownsRow_shape ho2; clear hk2 hok2 ho2)
      | (go_at_call 28; have h1 : Rd w4 1 (.slice q2 8 r2) (C.map Int.ofNat).length (icells (C.map Int.ofNat)) := (by have h := HR2.out; rw [ncells_icells] at h; rw [List.length_map, HCL.out]; exact h); have h2 : Rd w4 1 (.slice q4 8 r4) (C.map Int.ofNat).length (icells (C.map Int.ofNat)) := (by have h := HR4.out; rw [ncells_icells] at h; rw [List.length_map, HCL.out]; exact h); have hh := eqI_any h1 h2 (by rw [List.length_map, HCL.out]; decide); rw [show eqJ (C.map Int.ofNat) (C.map Int.ofNat) = true from decide_eq_true rfl] at hh; refine Calls.mono hh ?_; clear hh h1 h2; rintro e w5 ⟨rfl, q5, rfl⟩))
    have hrC : ∀ (v : Value), Rd w4 1 v 8 (ncells C) → ∀ (a : Option Addr) (n : Nat), v = .slice a 8 n → ∃ b o, a = some ⟨b, o, none⟩ ∧ ∀ j, j < 8 → (w4.drewN q5).cell? ⟨b, o + j, none⟩ = some (.int .i64 (C.getD j 0 : Nat)) := fun v h a n hv => by
      subst hv
      rcases h.2.2 with ⟨h, h'⟩ | ⟨b, o, c, h, _, _, hx⟩
      · omega
      · injection h with h1 h2 h3
        exact ⟨b, o, h1, fun j hj => hx j _ (ncells_get C j (by rw [HCL.out]; exact hj))⟩
    obtain ⟨lb, lo, rfl, hlc⟩ := hrC _ HR2.out _ _ rfl
    obtain ⟨gb, go2, rfl, hgcell⟩ : ∃ b o, go_ = some ⟨b, o, none⟩ ∧ ∀ j, j < 8 → (w4.drewN q5).cell? ⟨b, o + j, none⟩ = some (.int .i64 (g.getD j 0)) := by
      have hgk := HGR.out.keep (HK4.out.drewN q5) (fun _ _ h => h)
      rcases hgk.2.2 with ⟨h, h'⟩ | ⟨b, o, c, h, _, _, hx⟩
      · have := HGL8.out; omega
      · injection h with h1 h2 h3
        exact ⟨b, o, h1, fun j hj => hx j _ (icells_get g j (by rw [HGL8.out]; exact hj))⟩
    have HLC := Lib.hid hlc
    have HGC := Lib.hid hgcell
    have HK5 := Lib.hid (HK4.out.drewN q5)
    obtain ⟨w5, hw5⟩ : ∃ w5, w5 = w4.drewN q5 := ⟨_, rfl⟩
    rw [← hw5] at HLC HGC HK5
    rw [← hw5]
    clear hrC hlc hgcell hw5
    go_upto_block 0 with fail
    go_wp2_with fail
    go_loopg [71] 8 (fun gh s71 wx => ∃ i : Nat, gh = 8 - i ∧ i ≤ 8 ∧ s71 = .int .i64 (i : Nat) ∧ w5 = wx)
    case atStart => exact ⟨0, rfl, by omega, rfl, rfl⟩
    case round =>
      obtain ⟨i, rfl, hi, rfl, rfl⟩ := hrel
      by_cases hlt : i < 8
      · have hjl : ((i : Int) < 8) = True := by simp; omega
        have ci := HLC.out i hlt
        have gi := HGC.out i hlt
        have hcl := HPART.out.1 i (by rw [HH10.out]; exact hlt)
        have hck : (C.getD i 0 : Nat) < kinds := by
          have h1 := maxN_ge (l := C) (x := C.getD i 0) (by simp [List.getD, List.getElem?_eq_getElem (show i < C.length by rw [HCL.out]; exact hlt)])
          have h2 := HMX.out
          omega
        have hib := fun j => HGP.out.ibit (i := i) (by rw [HGL8.out]; exact hlt) j
        have hpp : ∀ j, j < 8 → adj g i j = true → C.getD i 0 ≠ C.getD j 0 := fun j hj ha => by
          have h := HPART.out.2 i j (by rw [HH10.out]; exact hlt) (by rw [HH10.out]; exact hj)
          rw [HT10.out] at h
          exact h ha
        obtain ⟨x, hx⟩ : ∃ x, g.getD i 0 = x := ⟨_, rfl⟩
        obtain ⟨c, hc⟩ : ∃ c, C.getD i 0 = c := ⟨_, rfl⟩
        rw [hx] at gi hib
        rw [hc] at ci hck hpp
        have HIB := Lib.hid hib
        have HPP := Lib.hid hpp
        have hc0 : ((c : Int) < 0) = False := by simp
        have hck2 : (kinds ≤ (c : Int)) = False := eq_false (by omega)
        clear hx hc hib hpp hcl
        go_upto_block 2 with fail
        go_wp2_with fail
        go_loopg [85] 8 (fun gh s85 wx => ∃ j : Nat, gh = 8 - j ∧ j ≤ 8 ∧ s85 = .int .i64 (j : Nat) ∧ w5 = wx)
        case atStart => exact ⟨0, rfl, by omega, rfl, rfl⟩
        case round =>
          obtain ⟨j, rfl, hj, rfl, rfl⟩ := hrel
          by_cases hlt2 : j < 8
          · have hjl2 : ((j : Int) < 8) = True := by simp; omega
            have cj := HLC.out j hlt2
            have hb := HIB.out j
            have hp := HPP.out j hlt2
            obtain ⟨d, hd⟩ : ∃ d, C.getD j 0 = d := ⟨_, rfl⟩
            rw [hd] at cj hp
            have hj12 : j ≤ 12 := by omega
            cases hadj : adj g i j with
            | true =>
              rw [hadj, if_pos rfl] at hb
              have hne := hp hadj
              have hsh : bits .and .i64 (x / 2 ^ j) 1 = 1 := by rw [i64_and_one, hb]
              have hcd : ((c : Int) == (d : Int)) = false := by rw [int_beq]; simpa using hne
              clear hb hp hne hadj hd
              go_wp2
              go_roundg (8 - (j + 1))
              case measure => omega
              case rel => exact ⟨j + 1, rfl, by omega, by go_num, rfl⟩
            | false =>
              rw [hadj, if_neg Bool.false_ne_true] at hb
              have hsh : bits .and .i64 (x / 2 ^ j) 1 = 0 := by rw [i64_and_one, hb]
              clear hb hp hadj hd
              go_wp2
              go_roundg (8 - (j + 1))
              case measure => omega
              case rel => exact ⟨j + 1, rfl, by omega, by go_num, rfl⟩
          · have hje : j = 8 := by omega
            subst hje
            go_wp2
            go_roundg (8 - (i + 1))
            case measure => omega
            case rel => exact ⟨i + 1, rfl, by omega, by go_num, rfl⟩
      · have hie : i = 8 := by omega
        subst hie
        go_wp2_with (go_at_call 13; refine Calls.mono (awake_any (HG.out.keep HK5.out)) ?_; rintro e w6 ⟨rfl, hk6⟩; have HK6 := Lib.hid hk6; clear hk6)
        go_ret
        exact ⟨rfl, HK5.out.trans HK6.out (fun _ _ h => h)⟩
end Go.Proofs.YthdkamnclbfehaaGreatDoor

/- cubebref06.Colours, Coloured; cubebref09.Assign. -/
namespace Go.Proofs.YthdkamnclbfehaaGreatDoor
set_option linter.unusedSimpArgs false
set_option linter.unusedVariables false
set_option linter.unnecessarySimpa false
open Go.RowKit

def setTo (C : List Nat) (k : Nat) : Nat := (C.take k).foldl (fun s c => s ||| 2 ^ c) 0
theorem setTo_succ {C : List Nat} {k : Nat} (h : k < C.length) : setTo C (k + 1) = setTo C k ||| 2 ^ (C.getD k 0) := by
  have e : C.take (k + 1) = C.take k ++ [C.getD k 0] := by rw [List.take_add_one, List.getElem?_eq_getElem h]; simp [List.getD, List.getElem?_eq_getElem h]
  unfold setTo
  rw [e, List.foldl_append]
  rfl
theorem setTo_bit {C : List Nat} {b : Nat} : ∀ k, k ≤ C.length → ((setTo C k).testBit b = true ↔ ∃ j, j < k ∧ C.getD j 0 = b) := by
  intro k
  induction k with
  | zero => intro _; simp [setTo]
  | succ k ih =>
    intro hk
    rw [setTo_succ (by omega), Nat.testBit_or, Nat.testBit_two_pow, Bool.or_eq_true, ih (by omega), decide_eq_true_eq]
    constructor
    · rintro (⟨j, h1, h2⟩ | h)
      · exact ⟨j, by omega, h2⟩
      · exact ⟨k, by omega, h⟩
    · rintro ⟨j, h1, h2⟩
      by_cases e : j = k
      · subst e; exact .inr h2
      · exact .inl ⟨j, by omega, h2⟩
theorem lt_of_bits {s m : Nat} (h : ∀ b, s.testBit b = true → b < m) : s < 2 ^ m := by
  apply Nat.lt_pow_two_of_testBit
  intro i hi
  cases hb : s.testBit i with
  | false => rfl
  | true => have := h i hb; omega
theorem nodup_le {l1 : List Nat} : ∀ {l2 : List Nat}, l1.Nodup → (∀ x ∈ l1, x ∈ l2) → l1.length ≤ l2.length := by
  induction l1 with
  | nil => intro l2 _ _; simp
  | cons a t ih =>
    intro l2 hn hs
    have ha := hs a (List.mem_cons_self ..)
    have hn2 := List.nodup_cons.1 hn
    have := ih (l2 := l2.erase a) hn2.2 (fun x hx => (List.mem_erase_of_ne (fun e => hn2.1 (by rw [← e]; exact hx))).2 (hs x (List.mem_cons_of_mem _ hx)))
    rw [List.length_erase_of_mem ha] at this
    have hp : 0 < l2.length := List.length_pos_of_mem ha
    simp only [List.length_cons]
    omega
theorem bestTo_clique (g : List Int) : ∀ k, cliqueB g (bestTo g k) = true := by
  intro k
  induction k with
  | zero => show (!(elems 0).any (offB g 0)) = true; rw [elems_zero]; rfl
  | succ k ih =>
    rw [bestTo_succ]
    unfold bestStep
    split
    · rename_i h; exact h.2
    · exact ih
theorem nodup_map {f : Nat → Nat} : ∀ {l : List Nat}, l.Nodup → (∀ a ∈ l, ∀ b ∈ l, a ≠ b → f a ≠ f b) → (l.map f).Nodup := by
  intro l
  induction l with
  | nil => intro _ _; simp
  | cons a t ih =>
    intro hn hf
    have hn2 := List.nodup_cons.1 hn
    rw [List.map_cons, List.nodup_cons]
    refine ⟨fun h => ?_, ih hn2.2 (fun x hx y hy => hf x (List.mem_cons_of_mem _ hx) y (List.mem_cons_of_mem _ hy))⟩
    obtain ⟨b, hb, e⟩ := List.mem_map.1 h
    exact hf b (List.mem_cons_of_mem _ hb) a (List.mem_cons_self ..) (fun e' => hn2.1 (by rw [← e']; exact hb)) e
/-- The colouring uses as many colours as the greatest clique has nodes. -/
theorem col_count {g : List Int} (hc : chordE g = 0) : cnt12 (setTo (colF g) g.length) = most g ∧ setTo (colF g) g.length < 4096 ∧ maxN (colF g) + 1 = most g := by
  have hcg := chordE_0 hc
  obtain ⟨_, hpart, hlen⟩ := col_ok hcg.1 hcg.2
  have hm12 := most_le g
  have hlt : setTo (colF g) g.length < 2 ^ most g := lt_of_bits fun b hb => by
    obtain ⟨j, h1, h2⟩ := (setTo_bit g.length (by omega)).1 hb
    rw [← h2]; exact hpart.1 j h1
  have h4 : setTo (colF g) g.length < 4096 := Nat.lt_of_lt_of_le hlt (pow_le_4096 hm12)
  have hle := cnt12_le hlt
  have hbl : bestF g < 2 ^ g.length := bestTo_lt g _ _ (Nat.le_refl _) (Nat.lt_of_lt_of_le (by decide) Nat.one_le_two_pow)
  have hb4 : bestF g < 4096 := Nat.lt_of_lt_of_le hbl (pow_le_4096 hcg.1.2.1)
  have hcl := (cliqueB_iff hb4).1 (bestTo_clique g (2 ^ g.length))
  have hge : most g ≤ cnt12 (setTo (colF g) g.length) := by
    have hnd : (elems (bestF g)).Nodup := by unfold elems; exact List.Pairwise.filter _ List.nodup_range
    have h := nodup_le (l1 := (elems (bestF g)).map (fun j => (colF g).getD j 0)) (l2 := elems (setTo (colF g) g.length)) (nodup_map hnd (fun a ha b hb hab => by
      have ha' := (mem_elems hb4).1 ha
      have hb' := (mem_elems hb4).1 hb
      exact hpart.2 a b (bit_lt hbl ha') (bit_lt hbl hb') (hcl a b ha' hb' (fun e => hab e.symm)))) (fun x hx => by
      obtain ⟨j, hj, rfl⟩ := List.mem_map.1 hx
      have hj' := (mem_elems hb4).1 hj
      exact (mem_elems h4).2 ((setTo_bit g.length (by omega)).2 ⟨j, bit_lt hbl hj', rfl⟩))
    rw [List.length_map] at h
    exact h
  refine ⟨by omega, h4, ?_⟩
  have hpos := most_pos hc
  have hmx := maxN_lt hpos (col_lt hc)
  have hbit : (setTo (colF g) g.length).testBit (most g - 1) = true := by
    cases hb : (setTo (colF g) g.length).testBit (most g - 1) with
    | true => rfl
    | false =>
      have h := cnt12_le (s := setTo (colF g) g.length) (n := most g - 1) (lt_of_bits fun b hb2 => by
        have h1 := bit_lt hlt hb2
        rcases Nat.lt_or_ge b (most g - 1) with h2 | h2
        · exact h2
        · have : b = most g - 1 := by omega
          subst this
          rw [hb] at hb2; cases hb2)
      omega
  obtain ⟨j, h1, h2⟩ := (setTo_bit g.length (by omega)).1 hbit
  have h3 := maxN_ge (l := colF g) (x := (colF g).getD j 0) (by simp [List.getD, List.getElem?_eq_getElem (show j < (colF g).length by omega)])
  omega

def RColPost (w : World) (g : List Int) (e : Ending) (w' : World) : Prop :=
  ∃ a c, e = .returned (.slice (some a) g.length c) ∧ Rd w' 1 (.slice (some a) g.length c) g.length (ncells (colF g)) ∧ Keep (fun _ => False) w w'
set_option maxHeartbeats 1000000 in
set_option maxRecDepth 100000 in
theorem refColours_any {w : World} {v : Value} {g : List Int} (hg : Graph g) (ho : orderB g = true) (hv : Rd w 1 v g.length (icells g)) : Calls Tryz.prog 61 #[v] w (RColPost w g) := by
  obtain ⟨ao, cap, hve, _⟩ := hv.shape
  subst hve
  have hm := most_le g
  have hok := (col_ok hg ho).2.2
  have H90 := Lib.hid (refClique_any hg hv)
  have hb4 : bestF g < 4096 := Nat.lt_of_lt_of_le (bestTo_lt g _ _ (Nat.le_refl _) (Nat.lt_of_lt_of_le (by decide) Nat.one_le_two_pow)) (pow_le_4096 hg.2.1)
  have hmost : cnt12 (bestF g) = most g := rfl
  have H89 := Lib.hid (fun W => size_any (w := W) hb4)
  rw [hmost] at H89
  have HCR := Lib.hid (colR_col hg ho)
  have H91 : Hid (∀ W, Keep (fun _ => False) w W → Calls Tryz.prog 91 #[.slice ao g.length cap, .slice none 0 0, .int .i64 (most g : Nat)] W (ColRPost W (some (colF g)))) := Lib.hid fun W hk => by
    have h := coloured_any hg hm (gv := .slice ao g.length cap) g.length 0 [] W (.slice none 0 0) (by omega) rfl (hv.keep hk (fun _ _ h => h)) (Rd.nil _ _)
    rw [HCR.out] at h
    exact h
  have HOK := Lib.hid hok
  obtain ⟨bf, hbf⟩ : ∃ bf, bestF g = bf := ⟨_, rfl⟩
  obtain ⟨m, hmm⟩ : ∃ m, most g = m := ⟨_, rfl⟩
  rw [hbf] at H90 H89
  rw [hmm] at H89 H91
  have hneq := fun W a n c' => run_neq_slice_nil_any (P := Tryz.prog) W 34 3 a n c' 0 0 Tryz.underlying34
  clear hv hok hmost hbf hmm hb4 hm
  go_enter Tryz.func61, Tryz.ntmps61
  go_wp2_with (first
    | (go_at_call 90; refine H90.out.mono ?_; rintro e w1 ⟨rfl, hk1⟩; have HK1 := Lib.hid hk1; clear hk1)
    | (go_at_call 89; refine (H89.out _).mono ?_; rintro e w' ⟨rfl, rfl⟩))
  go_loopg [3, 4] 0 (fun gh s3 s4 wx => s3 = .int .i64 (m : Nat) ∧ Keep (fun _ => False) w wx)
  case atStart => exact ⟨rfl, HK1.out⟩
  case round =>
    obtain ⟨rfl, hk⟩ := hrel
    have HK := Lib.hid hk; clear hk
    go_wp2_with (go_at_call 91; refine (H91.out _ HK.out).mono ?_; rintro e w7 ⟨hk7, _, hso7⟩; obtain ⟨a7, c7, rfl, hrd7⟩ := hso7 _ rfl; have HK7 := Lib.hid (HK.out.trans hk7 (fun _ _ h => h)); have HRD7 := Lib.hid hrd7; clear hk7 hso7 hrd7)
    go_ret
    have h := HRD7.out
    rw [HOK.out] at h ⊢
    exact ⟨_, _, rfl, h, HK7.out⟩
end Go.Proofs.YthdkamnclbfehaaGreatDoor

/- cubebref06.Coloured; cubebref09.Assign; the law HouseAssigns, walked. -/
namespace Go.Proofs.YthdkamnclbfehaaGreatDoor
set_option linter.unusedSimpArgs false
set_option linter.unusedVariables false
set_option linter.unnecessarySimpa false
open Go.RowKit

set_option maxHeartbeats 2000000 in
set_option maxRecDepth 100000 in
theorem refColoured_any {w : World} {gv lv : Value} {g : List Int} {C : List Nat} {m : Nat} (hg : Graph g) (hm : m ≤ 12) (hp : Part g m g.length C) (hl : C.length = g.length) (hs4 : setTo C g.length < 4096) (hgv : Rd w 1 gv g.length (icells g)) (hlv : Rd w 1 lv g.length (ncells C)) :
    Calls Tryz.prog 62 #[gv, lv] w (IdxPost w (.tuple #[.int .i64 (cnt12 (setTo C g.length) : Nat), .bool true])) := by
  have hn := hg.2.1
  obtain ⟨gb, go_, gc, hge, hgcell⟩ : ∃ b o c, gv = .slice (some ⟨b, o, none⟩) g.length c ∧ ∀ i, i < g.length → w.cell? ⟨b, o + i, none⟩ = some (.int .i64 (gn g i : Nat)) := by
    rcases hgv.2.2 with ⟨h, h'⟩ | ⟨b, o, c, h, _, _, hx⟩
    · have := hg.1; omega
    · exact ⟨b, o, c, h, fun i hi => by rw [← (hg.bound hi).1]; exact hx i _ (icells_get g i hi)⟩
  obtain ⟨lb, lo, lc, hle, hlcell⟩ : ∃ b o c, lv = .slice (some ⟨b, o, none⟩) g.length c ∧ ∀ i, i < g.length → w.cell? ⟨b, o + i, none⟩ = some (.int .i64 (C.getD i 0 : Nat)) := by
    rcases hlv.2.2 with ⟨h, h'⟩ | ⟨b, o, c, h, _, _, hx⟩
    · have := hg.1; omega
    · exact ⟨b, o, c, h, fun i hi => hx i _ (ncells_get C i (by omega))⟩
  subst hge hle
  have HGC := Lib.hid hgcell
  have HLC := Lib.hid hlcell
  have HG := Lib.hid hg
  have HP := Lib.hid hp
  have HL := Lib.hid hl
  have HS4 := Lib.hid hs4
  clear hgcell hlcell hgv hlv hg hp hl
  obtain ⟨n, hnn⟩ : ∃ n, g.length = n := ⟨_, rfl⟩
  have HN := Lib.hid hnn
  rw [hnn] at hn hs4 ⊢
  clear hnn
  go_enter Tryz.func62, Tryz.ntmps62
  go_wp2
  go_loopg [6, 17] n (fun gh s6 s17 wx => ∃ i : Nat, gh = n - i ∧ i ≤ n ∧ s17 = .int .i64 (i : Nat) ∧ s6 = .int .i64 (setTo C i : Nat) ∧ setTo C i < 4096 ∧ w = wx)
  case atStart => exact ⟨0, rfl, Nat.zero_le _, rfl, rfl, (show (0 : Nat) < 4096 by decide), rfl⟩
  case round =>
    obtain ⟨i, rfl, hi, rfl, rfl, hs, rfl⟩ := hrel
    by_cases hlt : i < n
    · have hjl : ((i : Int) < (n : Int)) = True := by simp; omega
      have hin : i < g.length := by rw [HN.out]; exact hlt
      have ci := HLC.out i hin
      have gi := HGC.out i hin
      have hcm := HP.out.1 i hin
      have hsucc := setTo_succ (C := C) (k := i) (by rw [HL.out]; exact hin)
      have HNE := Lib.hid (fun j (hj : j < n) (ha : (gn g i).testBit j = true) => HP.out.2 i j hin (by rw [HN.out]; exact hj) ha)
      have HBT := Lib.hid (fun j => nat_bit (gn g i) j)
      obtain ⟨c, hc⟩ : ∃ c, C.getD i 0 = c := ⟨_, rfl⟩
      rw [hc] at ci hcm hsucc HNE
      obtain ⟨x, hx⟩ : ∃ x, gn g i = x := ⟨_, rfl⟩
      rw [hx] at gi HBT HNE
      obtain ⟨st, hst⟩ : ∃ st, setTo C i = st := ⟨_, rfl⟩
      rw [hst] at hsucc hs ⊢
      have hc12 : c ≤ 12 := by omega
      have hc0 : ((c : Int) < 0) = False := by simp
      have hc11 : ((11 : Int) < (c : Int)) = False := eq_false (by omega)
      have hpw : IntKind.i64.wrap ((2 : Int) ^ c) = ((2 ^ c : Nat) : Int) := by
        have := shl_one c (by omega)
        rwa [Nat.min_eq_left (by omega)] at this
      have hpl : 2 ^ c < 4096 := Nat.pow_lt_pow_right (n := 12) (by decide) (by omega)
      have hor := i64_or_nat st (2 ^ c) (by omega) (by omega)
      have hol : st ||| 2 ^ c < 4096 := Nat.or_lt_two_pow (n := 12) hs hpl
      obtain ⟨pc, hpc⟩ : ∃ pc : Nat, 2 ^ c = pc := ⟨_, rfl⟩
      rw [hpc] at hpw hor hol hsucc
      obtain ⟨s2, hs2⟩ : ∃ s2, st ||| pc = s2 := ⟨_, rfl⟩
      rw [hs2] at hor hol hsucc
      have HSU := Lib.hid hsucc
      clear hc hx hst hsucc hpc hs2 hpl hcm
      go_wp2
      go_loopg [30] n (fun gh s30 wx => ∃ j : Nat, gh = n - j ∧ j ≤ n ∧ s30 = .int .i64 (j : Nat) ∧ w = wx)
      case atStart => exact ⟨0, rfl, Nat.zero_le _, rfl, rfl⟩
      case round =>
        obtain ⟨j, rfl, hj, rfl, rfl⟩ := hrel
        by_cases hlt2 : j < n
        · have hjl2 : ((j : Int) < (n : Int)) = True := by simp; omega
          have cj := HLC.out j (by rw [HN.out]; exact hlt2)
          have hb := HBT.out j
          have hne := HNE.out j hlt2
          obtain ⟨d, hd⟩ : ∃ d, C.getD j 0 = d := ⟨_, rfl⟩
          rw [hd] at cj hne
          have hj12 : j ≤ 12 := by omega
          cases hxb : x.testBit j with
          | true =>
            rw [hxb, if_pos rfl] at hb
            have hne2 := hne hxb
            have hcd : ((d : Int) == (c : Int)) = false := by rw [int_beq]; simpa using (fun e : d = c => hne2 e.symm)
            clear hne hne2 hxb hd
            go_wp2
            go_roundg (n - (j + 1))
            case measure => omega
            case rel => exact ⟨j + 1, rfl, by omega, by go_num, rfl⟩
          | false =>
            rw [hxb, if_neg Bool.false_ne_true] at hb
            clear hne hxb hd
            go_wp2
            go_roundg (n - (j + 1))
            case measure => omega
            case rel => exact ⟨j + 1, rfl, by omega, by go_num, rfl⟩
        · have hje : j = n := by omega
          subst hje
          have hjl2 : ((j : Int) < (j : Int)) = False := by simp
          go_wp2
          go_roundg (j - (i + 1))
          case measure => omega
          case rel => exact ⟨i + 1, rfl, by omega, by go_num, by rw [HSU.out], by rw [HSU.out]; exact hol, rfl⟩
    · have hie : i = n := by omega
      subst hie
      have hjl : ((i : Int) < (i : Int)) = False := by simp
      have H89 := Lib.hid (size_any (w := w) hs4)
      go_wp2_with (go_at_call 89; refine H89.out.mono ?_; rintro e w' ⟨rfl, rfl⟩)
      go_ret2
      exact ⟨rfl, Keep.refl _ _⟩
end Go.Proofs.YthdkamnclbfehaaGreatDoor

/- cubebref09.Assign; the law HouseAssigns, walked: it returns true, whatever the bays and the number of kinds. -/
namespace Go.Proofs.YthdkamnclbfehaaGreatDoor
set_option linter.unusedSimpArgs false
set_option linter.unusedVariables false
set_option linter.unnecessarySimpa false
open Go.RowKit

def RAPost (w : World) (g : List Int) (kinds : Int) (e : Ending) (w' : World) : Prop :=
  Keep (fun _ => False) w w' ∧ (assignE g kinds = 0 → ∃ v', e = .returned (.tuple #[v', .int .i64 0]) ∧ Rd w' 1 v' g.length (ncells (colF g))) ∧
    (assignE g kinds ≠ 0 → e = .returned (.tuple #[.slice none 0 0, .int .i64 (assignE g kinds)]))
theorem ra_bad {w w' : World} {g : List Int} {kinds : Int} (hk : Keep (fun _ => False) w w') (h : assignE g kinds = 2) : RAPost w g kinds (.returned (.tuple #[.slice none 0 0, .int .i64 2])) w' :=
  ⟨hk, (fun h0 => by rw [h] at h0; cases h0), fun _ => by rw [h]⟩
theorem assign_2 {g : List Int} {kinds : Int} (h : ¬ (baysB g = true ∧ 1 ≤ kinds ∧ kinds ≤ 8)) : assignE g kinds = 2 := by unfold assignE; rw [if_neg h]
set_option maxHeartbeats 2000000 in
set_option maxRecDepth 100000 in
theorem refAssign_any {w : World} {gv : Value} {g : List Int} (kinds : Int) (hgl : g.length < 9223372036854775807) (hv : Rd w 1 gv g.length (icells g)) : Calls Tryz.prog 27 #[gv, .int .i64 kinds] w (RAPost w g kinds) := by
  obtain ⟨ao, cap, hve, _⟩ := hv.shape
  subst hve
  have H17 := Lib.hid (rvalid_any hv hgl)
  have HV := Lib.hid hv
  clear hv
  cases hval : validB g with
  | false =>
    have HA := Lib.hid (assign_2 (g := g) (kinds := kinds) (fun h => by have := h.1; unfold baysB at this; rw [hval] at this; cases this))
    rw [hval] at H17
    go_enter Tryz.func27, Tryz.ntmps27
    go_wp2_with (go_at_call 17; refine H17.out.mono ?_; rintro e w1 ⟨rfl, q, rfl⟩)
    go_ret2
    exact ra_bad ((Keep.refl _ _).drewN q) HA.out
  | true =>
    rw [hval] at H17
    by_cases h8 : g.length = 8
    · have h8b : ((g.length : Int) != 8) = false := by simp [h8]
      have hbays : baysB g = true := by unfold baysB; rw [hval, h8]; rfl
      have H8 := Lib.hid h8
      have HB := Lib.hid hbays
      have HGR := Lib.hid (validB_true.1 hval)
      by_cases hk1 : 1 ≤ kinds
      · have hl1 : (kinds < 1) = False := eq_false (by omega)
        by_cases hk8 : kinds ≤ 8
        · have hl8 : (8 < kinds) = False := eq_false (by omega)
          have hae : assignE g kinds = if chordE g = 0 then (if kinds ≤ (maxN (colF g) : Nat) then 5 else 0) else chordE g := by unfold assignE; rw [if_pos ⟨hbays, hk1, hk8⟩]
          have H60 : Hid (∀ W, Keep (fun _ => False) w W → Calls Tryz.prog 60 #[.slice ao g.length cap] W (OrdPost W g)) := Lib.hid fun W hk => refOrder_any HGR.out (HV.out.keep hk (fun _ _ h => h))
          cases ho : orderB g with
          | false =>
            have hce : chordE g = 7 := by unfold chordE; rw [hval, ho]; rfl
            rw [hce] at hae
            have HA := Lib.hid (show assignE g kinds = 7 from hae)
            have HO := Lib.hid ho
            clear hce hae h8 hbays ho hval
            go_enter Tryz.func27, Tryz.ntmps27
            go_wp2_with (first
              | (go_at_call 17; refine H17.out.mono ?_; rintro e w1 ⟨rfl, q, rfl⟩)
              | (go_at_call 60; refine (H60.out _ ((Keep.refl _ _).drewN q)).mono ?_; rintro e w2 ⟨v2, rfl, hk2⟩; rw [HO.out]; have HK2 := Lib.hid (((Keep.refl (fun _ => False) w).drewN q).trans hk2 (fun _ _ h => h)); clear hk2))
            go_ret2
            exact ⟨HK2.out, (fun h => by rw [HA.out] at h; cases h), fun _ => by rw [HA.out]; rfl⟩
          | true =>
            have hce : chordE g = 0 := by unfold chordE; rw [hval, ho]; rfl
            have hcc := col_count hce
            have hok := (col_ok HGR.out ho).2
            have hm12 := most_le g
            rw [if_pos hce] at hae
            have HO := Lib.hid ho
            have H61 : Hid (∀ W, Keep (fun _ => False) w W → Calls Tryz.prog 61 #[.slice ao g.length cap] W (RColPost W g)) := Lib.hid fun W hk => refColours_any HGR.out HO.out (HV.out.keep hk (fun _ _ h => h))
            have H62 : Hid (∀ W lv, Keep (fun _ => False) w W → Rd W 1 lv g.length (ncells (colF g)) → Calls Tryz.prog 62 #[.slice ao g.length cap, lv] W (IdxPost W (.tuple #[.int .i64 (most g : Nat), .bool true]))) := Lib.hid fun W lv hk hlv => by
              have h := refColoured_any HGR.out hm12 hok.1 hok.2 hcc.2.1 (HV.out.keep hk (fun _ _ h => h)) hlv
              rw [hcc.1] at h
              exact h
            obtain ⟨m, hm⟩ : ∃ m, most g = m := ⟨_, rfl⟩
            rw [hm] at H62 hcc
            by_cases hle : kinds ≤ (maxN (colF g) : Nat)
            · have hgt : (kinds < (m : Int)) = True := eq_true (by have := hcc.2.2; omega)
              rw [if_pos hle] at hae
              have HA := Lib.hid hae
              clear hce hae h8 hbays ho hval hcc hok hm12 hm hle
              go_enter Tryz.func27, Tryz.ntmps27
              go_wp2_with (first
                | (go_at_call 17; refine H17.out.mono ?_; rintro e w1 ⟨rfl, q, rfl⟩)
                | (go_at_call 60; refine (H60.out _ ((Keep.refl _ _).drewN q)).mono ?_; rintro e w2 ⟨v2, rfl, hk2⟩; rw [HO.out]; have HK2 := Lib.hid (((Keep.refl (fun _ => False) w).drewN q).trans hk2 (fun _ _ h => h)); clear hk2)
                | (go_at_call 61; refine (H61.out _ HK2.out).mono ?_; rintro e w3 ⟨a3, c3, rfl, hrd3, hk3⟩; have HK3 := Lib.hid (HK2.out.trans hk3 (fun _ _ h => h)); have HR3 := Lib.hid hrd3; clear hk3 hrd3)
                | (go_at_call 62; refine (H62.out _ _ HK3.out HR3.out).mono ?_; rintro e w4 ⟨rfl, hk4⟩; have HK4 := Lib.hid (HK3.out.trans hk4 (fun _ _ h => h)); clear hk4))
              go_ret2
              exact ⟨HK4.out, (fun h => by rw [HA.out] at h; cases h), fun _ => by rw [HA.out]; rfl⟩
            · have hgt : (kinds < (m : Int)) = False := eq_false (by have := hcc.2.2; omega)
              rw [if_neg hle] at hae
              have HA := Lib.hid hae
              clear hce hae h8 hbays ho hval hcc hok hm12 hm hle
              go_enter Tryz.func27, Tryz.ntmps27
              go_wp2_with (first
                | (go_at_call 17; refine H17.out.mono ?_; rintro e w1 ⟨rfl, q, rfl⟩)
                | (go_at_call 60; refine (H60.out _ ((Keep.refl _ _).drewN q)).mono ?_; rintro e w2 ⟨v2, rfl, hk2⟩; rw [HO.out]; have HK2 := Lib.hid (((Keep.refl (fun _ => False) w).drewN q).trans hk2 (fun _ _ h => h)); clear hk2)
                | (go_at_call 61; refine (H61.out _ HK2.out).mono ?_; rintro e w3 ⟨a3, c3, rfl, hrd3, hk3⟩; have HK3 := Lib.hid (HK2.out.trans hk3 (fun _ _ h => h)); have HR3 := Lib.hid hrd3; clear hk3 hrd3)
                | (go_at_call 62; refine (H62.out _ _ HK3.out HR3.out).mono ?_; rintro e w4 ⟨rfl, hk4⟩; have HK4 := Lib.hid (HK3.out.trans hk4 (fun _ _ h => h)); have HR4 := Lib.hid (HR3.out.keep hk4 (fun _ _ h => h)); clear hk4))
              go_ret2
              exact ⟨HK4.out, fun _ => ⟨_, rfl, HR4.out⟩, fun h => absurd HA.out h⟩
        · have hl8 : (8 < kinds) = True := eq_true (by omega)
          have HA := Lib.hid (assign_2 (g := g) (kinds := kinds) (fun h => by omega))
          clear h8
          go_enter Tryz.func27, Tryz.ntmps27
          go_wp2_with (go_at_call 17; refine H17.out.mono ?_; rintro e w1 ⟨rfl, q, rfl⟩)
          go_ret2
          exact ra_bad ((Keep.refl _ _).drewN q) HA.out
      · have hl1 : (kinds < 1) = True := eq_true (by omega)
        have HA := Lib.hid (assign_2 (g := g) (kinds := kinds) (fun h => by omega))
        clear h8
        go_enter Tryz.func27, Tryz.ntmps27
        go_wp2_with (go_at_call 17; refine H17.out.mono ?_; rintro e w1 ⟨rfl, q, rfl⟩)
        go_ret2
        exact ra_bad ((Keep.refl _ _).drewN q) HA.out
    · have h8b : ((g.length : Int) != 8) = true := by simp; omega
      have HA := Lib.hid (assign_2 (g := g) (kinds := kinds) (fun h => h8 (baysB_8 h.1)))
      clear h8
      go_enter Tryz.func27, Tryz.ntmps27
      go_wp2_with (go_at_call 17; refine H17.out.mono ?_; rintro e w1 ⟨rfl, q, rfl⟩)
      go_ret2
      exact ra_bad ((Keep.refl _ _).drewN q) HA.out

theorem assign_take (g : List Int) (kinds : Int) : assignE (g.take 10) kinds = assignE g kinds ∧ (assignE g kinds = 0 → g.take 10 = g) := by
  by_cases h : g.length ≤ 10
  · rw [List.take_of_length_le h]; exact ⟨rfl, fun _ => rfl⟩
  · have h1 : assignE (g.take 10) kinds = 2 := assign_2 (fun hb => by have := baysB_8 hb.1; rw [List.length_take] at this; omega)
    have h2 : assignE g kinds = 2 := assign_2 (fun hb => by have := baysB_8 hb.1; omega)
    exact ⟨by rw [h1, h2], fun h0 => by rw [h2] at h0; cases h0⟩
set_option maxHeartbeats 2000000 in
set_option maxRecDepth 100000 in
theorem houseAssigns_any {w : World} {gv : Value} {g : List Int} (kinds : Int) (hG : Glob w) (hg : Rd w 1 gv g.length (icells g)) (hgl : g.length < 9223372036854775807) :
    Calls Tryz.prog 5 #[gv, .int .i64 kinds] w (IdxPost w (.bool true)) := by
  obtain ⟨go_, gc, hge, hgc, _⟩ := hg.shape
  subst hge
  have hl10 : (g.take 10).length < 9223372036854775807 := by rw [List.length_take]; omega
  have HG := Lib.hid hG; clear hG
  have HGR := Lib.hid hg; clear hg
  have H25 := Lib.hid (graph_any HGR.out (Nat.le_of_lt hgl))
  have H26 : Hid (∀ W v k, Keep (fun _ => False) w W → Rd W 1 v (g.take 10).length (icells (g.take 10)) → Calls Tryz.prog 26 #[v, .int .i64 k] W (AssignPost W (g.take 10) k)) := Lib.hid fun W v k hk hrd =>
    assign_any k hrd hl10 (HG.out.keep hk).tab (by have := (HG.out.keep hk).size; omega)
  have H27 : Hid (∀ W, Keep (fun _ => False) w W → Calls Tryz.prog 27 #[.slice go_ g.length gc, .int .i64 kinds] W (RAPost W g kinds)) := Lib.hid fun W hk => refAssign_any kinds hgl (HGR.out.keep hk (fun _ _ h => h))
  obtain ⟨ht1, ht2⟩ := assign_take g kinds
  obtain ⟨E, hE⟩ : ∃ E, assignE g kinds = E := ⟨_, rfl⟩
  rw [hE] at ht1 ht2
  have HE1 := Lib.hid ht1
  have HE2 := Lib.hid hE
  clear hl10
  by_cases h0 : E = 0
  · subst h0
    have HT := Lib.hid (ht2 rfl)
    have hcl : (colF g).length = g.length := by
      rcases assign_cases g kinds with h | ⟨h, _⟩ | ⟨h, _⟩ | ⟨_, _, _, hc, _⟩
      · rw [hE] at h; cases h
      · rw [hE] at h; cases h
      · rw [hE] at h; cases h
      · exact (col_ok (chordE_0 hc).1 (chordE_0 hc).2).2.2
    have HCL := Lib.hid hcl
    clear ht1 ht2 hE hcl
    go_enter Tryz.func5, Tryz.ntmps5
    go_wp2_with (first
      | (go_at_call 25; refine (H25.out).mono ?_; rintro e w1 ⟨v1, rfl, ho1, hk1⟩; have HK1 := Lib.hid hk1; have HO1 := Lib.hid (ownsRow_rd ho1 (icells_one _)); clear ho1 hk1)
      | (go_at_call 26; refine (H26.out _ _ _ HK1.out HO1.out).mono ?_; rintro e w2 ⟨hk2, hok2, _⟩; obtain ⟨v2, rfl, ho2⟩ := hok2 HE1.out; rw [HT.out] at ho2; have HK2 := Lib.hid (HK1.out.trans hk2 (fun _ _ h => h)); have HR2 := Lib.hid (ownsRow_rd ho2 (by intro u hu; obtain ⟨_, _, rfl⟩ := List.mem_map.1 hu; rfl)); clear hk2 hok2 ho2)
      | (go_at_call 27; refine (H27.out _ HK2.out).mono ?_; rintro e w3 ⟨hk3, hok3, _⟩; obtain ⟨v3, rfl, hr3⟩ := hok3 HE2.out; have HK3 := Lib.hid (HK2.out.trans hk3 (fun _ _ h => h)); have HR3 := Lib.hid hr3; have HR23 := Lib.hid (HR2.out.keep hk3 (fun _ _ h => h)); clear hk3 hok3 hr3)
      | (go_at_call 28; have h1 : Rd w3 1 v2 ((colF g).map Int.ofNat).length (icells ((colF g).map Int.ofNat)) := (by have h := HR23.out; rw [ncells_icells] at h; rw [List.length_map, HCL.out]; exact h); have h2 : Rd w3 1 v3 ((colF g).map Int.ofNat).length (icells ((colF g).map Int.ofNat)) := (by have h := HR3.out; rw [ncells_icells] at h; rw [List.length_map, HCL.out]; exact h); have hh := eqI_any h1 h2 (by rw [List.length_map, HCL.out]; exact hgl); rw [show eqJ ((colF g).map Int.ofNat) ((colF g).map Int.ofNat) = true from decide_eq_true rfl] at hh; refine Calls.mono hh ?_; clear hh h1 h2; rintro e w4 ⟨rfl, q4, rfl⟩)
      | (go_at_call 13; refine Calls.mono (awake_any (HG.out.keep (HK3.out.drewN q4))) ?_; rintro e w5 ⟨rfl, hk5⟩; have HK5 := Lib.hid hk5; clear hk5))
    go_ret
    exact ⟨rfl, (HK3.out.drewN q4).trans HK5.out (fun _ _ h => h)⟩
  · have HN0 := Lib.hid h0
    clear ht1 ht2 hE h0
    go_enter Tryz.func5, Tryz.ntmps5
    go_wp2_with (first
      | (go_at_call 25; refine (H25.out).mono ?_; rintro e w1 ⟨v1, rfl, ho1, hk1⟩; have HK1 := Lib.hid hk1; have HO1 := Lib.hid (ownsRow_rd ho1 (icells_one _)); clear ho1 hk1)
      | (go_at_call 26; refine (H26.out _ _ _ HK1.out HO1.out).mono ?_; rintro e w2 ⟨hk2, _, hbad2⟩; obtain rfl := hbad2 (by rw [HE1.out]; exact HN0.out); rw [HE1.out]; have HK2 := Lib.hid (HK1.out.trans hk2 (fun _ _ h => h)); clear hk2 hbad2)
      | (go_at_call 27; refine (H27.out _ HK2.out).mono ?_; rintro e w3 ⟨hk3, _, hbad3⟩; obtain rfl := hbad3 (by rw [HE2.out]; exact HN0.out); rw [HE2.out]; have HK3 := Lib.hid (HK2.out.trans hk3 (fun _ _ h => h)); clear hk3 hbad3)
      | (go_at_call 28; have hh := eqI_any (w := w3) (l := []) (m := []) (Rd.nil _ _) (Rd.nil _ _) (by decide); rw [show eqJ [] [] = true from decide_eq_true rfl] at hh; refine Calls.mono hh ?_; clear hh; rintro e w4 ⟨rfl, q4, rfl⟩)
      | (go_at_call 13; refine Calls.mono (awake_any (HG.out.keep (HK3.out.drewN q4))) ?_; rintro e w5 ⟨rfl, hk5⟩; have HK5 := Lib.hid hk5; clear hk5))
    go_ret
    exact ⟨rfl, (HK3.out.drewN q4).trans HK5.out (fun _ _ h => h)⟩
end Go.Proofs.YthdkamnclbfehaaGreatDoor
