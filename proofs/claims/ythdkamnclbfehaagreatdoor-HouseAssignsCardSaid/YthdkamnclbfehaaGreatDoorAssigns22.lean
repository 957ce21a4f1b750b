/- chordal.order, chordal: whether a graph has an elimination order. -/
import Derived.Test.YthdkamnclbfehaaGreatDoorAssigns19
import Derived.Test.YthdkamnclbfehaaGreatDoorAssigns10
import Derived.Deep.LoopGhost
import Derived.Deep.DeepCutAuto
import Derived.StillTailTactics

/- chordal.order, chordal: whether a graph has an elimination order. -/
namespace Go.Proofs.YthdkamnclbfehaaGreatDoor
set_option linter.unusedSimpArgs false
set_option linter.unusedVariables false
set_option linter.unnecessarySimpa false
open Go.RowKit

theorem find_nat (P : Nat → Bool) : ∀ (l : List Nat) (k : Nat), (findFrom (fun x => P x.toNat) (l.map Int.ofNat) k = -1 ∧ l.find? P = none) ∨ ∃ j i, j < l.length ∧ findFrom (fun x => P x.toNat) (l.map Int.ofNat) k = ((k + j : Nat) : Int) ∧ l[j]? = some i ∧ l.find? P = some i := by
  intro l
  induction l with
  | nil => intro k; exact .inl ⟨rfl, rfl⟩
  | cons x r ih =>
    intro k
    by_cases hx : P x = true
    · exact .inr ⟨0, x, by simp, by simp [findFrom, hx], rfl, by simp [List.find?, hx]⟩
    · have hx' : P x = false := by simpa using hx
      rcases ih (k + 1) with ⟨h1, h2⟩ | ⟨j, i, h1, h2, h3, h4⟩
      · exact .inl ⟨by simp only [List.map_cons, findFrom]; rw [show P (Int.ofNat x).toNat = false from hx']; simpa using h1, by rw [List.find?_cons, hx']; exact h2⟩
      · refine .inr ⟨j + 1, i, by simpa using h1, ?_, h3, by rw [List.find?_cons, hx']; exact h4⟩
        simp only [List.map_cons, findFrom]
        rw [show P (Int.ofNat x).toNat = false from hx']
        simp only [Bool.false_eq_true, if_false, h2]
        congr 1
        omega

set_option maxHeartbeats 1000000 in
set_option maxRecDepth 100000 in
theorem order1_any {w : World} {v : Value} {g : List Int} {left i b1 b4 : Nat} (hg : Graph g) (hv : Rd w 1 v g.length (icells g)) (hl : left < 2 ^ g.length) (hi : i < g.length)
    (h1 : w.cell? ⟨b1, 0, none⟩ = some v) (h4 : w.cell? ⟨b4, 0, none⟩ = some (.int .i64 left)) (hb1 : b1 < w.heap.size) (hb4 : b4 < w.heap.size) (hT : TabAt 3 Lib.deBruijn64tab w) (hw3 : 3 < w.heap.size) :
    Calls Tryz.prog 155 #[.int .i64 i, .pointer (some ⟨b1, 0, none⟩), .pointer (some ⟨b4, 0, none⟩)] w (IdxPost w (.bool (cliqueB g (gn g i &&& left)))) := by
  have hn := hg.2.1
  have h12 := pow_le_4096 hn
  obtain ⟨b, o, cap, hve, hcell⟩ : ∃ b o cap, v = .slice (some ⟨b, o, none⟩) g.length cap ∧ w.cell? ⟨b, o + i, none⟩ = some (.int .i64 (g.getD i 0)) := by
    rcases hv.2.2 with ⟨h, h'⟩ | ⟨b, o, c, h, _, _, hx⟩
    · omega
    · exact ⟨b, o, c, h, hx i _ (icells_get g i hi)⟩
  subst hve
  obtain ⟨hgb1, hgb2⟩ := hg.bound hi
  rw [hgb1] at hcell
  have hb : b < w.heap.size := by
    rcases Nat.lt_or_ge b w.heap.size with h | h
    · exact h
    · simp [World.cell?, Array.getElem?_eq_none h] at hcell
  have e1 := i64_and_nat (gn g i) left (Nat.lt_of_lt_of_le hgb2 (Nat.le_trans h12 (by decide))) (Nat.lt_of_lt_of_le hl (Nat.le_trans h12 (by decide)))
  have HCL : Hid (∀ W, Keep (fun _ => False) w W → Calls Tryz.prog 83 #[.slice (some ⟨b, o, none⟩) g.length cap, .int .i64 ((gn g i &&& left : Nat) : Int)] W (IdxPost W (.bool (cliqueB g (gn g i &&& left))))) := Lib.hid fun W hk =>
    clique_any hg (hv.keep hk (fun _ _ h => h)) (Nat.lt_of_le_of_lt Nat.and_le_right hl) (fun j hj => (hk.cell (p := ⟨3, j, none⟩) hw3 (fun h => h)).trans (hT j hj)) (Nat.lt_of_lt_of_le hw3 hk.size)
  have hiI : (i : Int) < g.length := by omega
  generalize cliqueB g (gn g i &&& left) = res at *
  obtain ⟨gi, hgi⟩ : ∃ gi, gn g i = gi := ⟨_, rfl⟩
  rw [hgi] at hcell e1 HCL
  obtain ⟨ga, hga⟩ : ∃ ga, gi &&& left = ga := ⟨_, rfl⟩
  rw [hga] at e1 HCL
  have HSA : Hid (∀ W, Keep (fun _ => False) w W → (W.cell? ⟨b1, 0, none⟩ = some (.slice (some ⟨b, o, none⟩) g.length cap) ∧ W.cell? ⟨b4, 0, none⟩ = some (.int .i64 left) ∧ W.cell? ⟨b, o + i, none⟩ = some (.int .i64 gi))) := Lib.hid fun W hk =>
    ⟨(hk.cell (p := ⟨b1, 0, none⟩) hb1 (fun h => h)).trans h1, (hk.cell (p := ⟨b4, 0, none⟩) hb4 (fun h => h)).trans h4, (hk.cell (p := ⟨b, o + i, none⟩) hb (fun h => h)).trans hcell⟩
  clear h1 h4 hcell hgb1 hgb2 hgi hga h12 hv hT
  go_enter Tryz.func155, Tryz.ntmps155
  go_wp2
  refine wp_region_noPanic ?_
  refine wp_region_held_drew (S := fun W => W.cell? ⟨b1, 0, none⟩ = some (.slice (some ⟨b, o, none⟩) g.length cap) ∧ W.cell? ⟨b4, 0, none⟩ = some (.int .i64 left) ∧ W.cell? ⟨b, o + i, none⟩ = some (.int .i64 gi)) (by kernel_rfl) (HSA.out _ (Keep.refl (fun _ => False) w).drew) (fun hHeld => ?_)
  refine wpAnyH_take (i := 0) (oi := _) (v := ?_) rfl (by kernel_rfl) (by kernel_rfl) (by kernel_rfl) (fun _ _ _ h => h) (Or.inl ⟨by rfl, ?_⟩) (by assumption) ?_
  rotate_left
  · (intro w hSw; (try dsimp only at hSw); go_simp) <;> with_reducible rfl
  (try simp only [List.getElem_toArray, List.getElem_cons_zero, List.getElem_cons_succ, Act.put, List.setIfInBounds_toArray, List.set_cons_zero, List.set_cons_succ])
  refine wpAnyH_take (i := 1) (oi := _) (v := ?_) rfl (by kernel_rfl) (by kernel_rfl) (by kernel_rfl) (fun _ _ _ h => h) (Or.inl ⟨by rfl, ?_⟩) (by assumption) ?_
  rotate_left
  · (intro w hSw; (try dsimp only at hSw); go_simp) <;> with_reducible rfl
  (try simp only [List.getElem_toArray, List.getElem_cons_zero, List.getElem_cons_succ, Act.put, List.setIfInBounds_toArray, List.set_cons_zero, List.set_cons_succ])
  refine wpAnyH_take (i := 2) (oi := _) (v := ?_) rfl (by kernel_rfl) (by kernel_rfl) (by kernel_rfl) (fun _ _ _ h => h) (Or.inl ⟨by rfl, ?_⟩) (by assumption) ?_
  rotate_left
  · (intro w hSw; (try dsimp only at hSw); go_simp) <;> with_reducible rfl
  (try simp only [List.getElem_toArray, List.getElem_cons_zero, List.getElem_cons_succ, Act.put, List.setIfInBounds_toArray, List.set_cons_zero, List.set_cons_succ])
  refine wpAnyH_take (i := 3) (oi := _) (v := ?_) rfl (by kernel_rfl) (by kernel_rfl) (by kernel_rfl) (fun _ _ _ h => h) (Or.inl ⟨by rfl, ?_⟩) (by assumption) ?_
  rotate_left
  · (intro w hSw; (try dsimp only at hSw); go_simp) <;> with_reducible rfl
  (try simp only [List.getElem_toArray, List.getElem_cons_zero, List.getElem_cons_succ, Act.put, List.setIfInBounds_toArray, List.set_cons_zero, List.set_cons_succ])
  refine wpAnyH_take (i := 4) (oi := _) (v := ?_) rfl (by kernel_rfl) (by kernel_rfl) (by kernel_rfl) (fun _ _ _ h => h) (Or.inl ⟨by rfl, ?_⟩) (by assumption) ?_
  rotate_left
  · (intro w hSw; (try dsimp only at hSw); go_simp) <;> with_reducible rfl
  (try simp only [List.getElem_toArray, List.getElem_cons_zero, List.getElem_cons_succ, Act.put, List.setIfInBounds_toArray, List.set_cons_zero, List.set_cons_succ])
  refine wpAnyH_take (i := 5) (oi := _) (v := ?_) rfl (by kernel_rfl) (by kernel_rfl) (by kernel_rfl) (fun _ _ _ h => h) (Or.inl ⟨by rfl, ?_⟩) (by assumption) ?_
  rotate_left
  · (intro w hSw; (try dsimp only at hSw); go_simp) <;> with_reducible rfl
  (try simp only [List.getElem_toArray, List.getElem_cons_zero, List.getElem_cons_succ, Act.put, List.setIfInBounds_toArray, List.set_cons_zero, List.set_cons_succ])
  refine wpAnyH_take (i := 6) (oi := _) (v := ?_) rfl (by kernel_rfl) (by kernel_rfl) (by kernel_rfl) (fun _ _ _ h => h) (Or.inl ⟨by rfl, ?_⟩) (by assumption) ?_
  rotate_left
  · (intro w hSw; (try dsimp only at hSw); go_simp) <;> with_reducible rfl
  (try simp only [List.getElem_toArray, List.getElem_cons_zero, List.getElem_cons_succ, Act.put, List.setIfInBounds_toArray, List.set_cons_zero, List.set_cons_succ])
  refine wpAnyH_ready (rs := [7]) (by kernel_rfl) (by simp) ?_
  refine AllReadyH.cons (o := _) rfl (fun K hK => ?_) AllReadyH.nil
  go_simp
  refine Calls.mono (HCL.out _ (show Keep (fun _ => False) w _ by repeat (first | exact HKR.out | exact Keep.refl _ _ | apply Keep.drew | apply Keep.drewN | apply Keep.alloc))) ?_
  rintro e' Wc ⟨rfl, hkc⟩
  have HKRC := Lib.hid (Keep.trans (show Keep (fun _ => False) w _ by repeat (first | exact HKR.out | exact Keep.refl _ _ | apply Keep.drew | apply Keep.drewN | apply Keep.alloc)) hkc (fun _ _ h => h))
  have HKR := HKRC
  clear HKRC hkc
  (try dsimp only)
  refine hK.out _ _ ?_ (fun hHeld => ?_)
  · ((try dsimp only); refine HSA.out _ ?_; repeat (first | exact HKR.out | exact Keep.refl _ _ | apply Keep.drew | apply Keep.drewN | apply Keep.alloc))
  clear hK K
  (try simp only [List.getElem_toArray, List.getElem_cons_zero, List.getElem_cons_succ, Act.put, List.setIfInBounds_toArray, List.set_cons_zero, List.set_cons_succ])
  refine wpAnyH_ready (rs := [8]) (by kernel_rfl) (by simp) ?_
  refine AllReadyH.cons (o := _) rfl (fun K hK => ?_) AllReadyH.nil
  go_simp
  refine hK.out _ _ ?_ (fun hHeld => ?_)
  · ((try dsimp only); refine HSA.out _ ?_; repeat (first | exact HKR.out | exact Keep.refl _ _ | apply Keep.drew | apply Keep.drewN | apply Keep.alloc))
  clear hK K
  (try simp only [List.getElem_toArray, List.getElem_cons_zero, List.getElem_cons_succ, Act.put, List.setIfInBounds_toArray, List.set_cons_zero, List.set_cons_succ])
  refine wpAnyH_done (by kernel_rfl) ?_ _
  refine NoPanic.normal ?_
  go_wp2
  go_ret
  exact ⟨rfl, HKR.out⟩
def OrdRel (w : World) (g : List Int) (v : Value) (R : Bool) (gh : Nat) (s5 : Value) (wx : World) : Prop :=
  ∃ (left n : Nat) (out : List Nat), left = gh ∧ left < 2 ^ g.length ∧ (∃ f, left < f ∧ elimB g f left = R) ∧ n + left ≤ 4096 ∧ Blk wx w.heap.size #[v] 53 ∧ Blk wx (w.heap.size + 1) #[.int .i64 left] 3 ∧ wx.ownsRow (w.heap.size + 2) 3 1 s5 n (ncells out) ∧ Keep (fun _ => False) w wx
set_option maxHeartbeats 2000000 in
set_option maxRecDepth 100000 in
theorem order_any {w : World} {v : Value} {g : List Int} (hg : Graph g) (hv : Rd w 1 v g.length (icells g)) (hT : TabAt 3 Lib.deBruijn64tab w) (hw3 : 3 < w.heap.size) :
    Calls Tryz.prog 121 #[v] w (fun e w' => ∃ v', e = .returned (.tuple #[v', .bool (orderB g)]) ∧ Keep (fun _ => False) w w') := by
  obtain ⟨ao, cap, hve, _⟩ := hv.shape
  subst hve
  have hn := hg.2.1
  have h12 := pow_le_4096 hn
  have hp1 : 1 ≤ 2 ^ g.length := Nat.one_le_two_pow
  have hlv : ∀ k, (Value.slice ao g.length cap).ownBlock = some k → True := fun _ _ => trivial
  obtain ⟨R, hR⟩ : ∃ R, orderB g = R := ⟨_, rfl⟩
  have hR0 : elimB g 4096 (2 ^ g.length - 1) = R := hR
  have HR := Lib.hid hR; clear hR
  have HR0 := Lib.hid hR0; clear hR0
  have HG := Lib.hid hg
  have HV := Lib.hid hv; clear hv
  have HT := Lib.hid hT; clear hT
  have HT2 : Hid (∀ W, Keep (fun _ => False) w W → TabAt 3 Lib.deBruijn64tab W ∧ 3 < W.heap.size) := Lib.hid fun W hk => ⟨fun j hj => (hk.cell (p := ⟨3, j, none⟩) hw3 (fun h => h)).trans (HT.out j hj), Nat.lt_of_lt_of_le hw3 hk.size⟩
  have HALL := Lib.hid (fun w1 => all_any (w := w1) (ao := ao) (c := cap) hn)
  have hsub : (((2 ^ g.length : Nat) : Int) - 1) = ((2 ^ g.length - 1 : Nat) : Int) := by omega
  obtain ⟨N, hN⟩ : ∃ N : Nat, 2 ^ g.length - 1 = N := ⟨_, rfl⟩
  rw [hsub, hN] at HALL
  rw [hN] at HR0
  have hNl : N < 2 ^ g.length := by omega
  have HNL := Lib.hid hNl; clear hNl
  have hN4 : N < 4096 := by omega
  clear hsub hN h12 hp1 hg
  go_enter Tryz.func121, Tryz.ntmps121
  go_wp2_with (go_at_call 124; refine (HALL.out _).mono ?_; rintro e w' ⟨rfl, rfl⟩)
  go_loopg [5] N (fun gh s5 wx => OrdRel w g (.slice ao g.length cap) R gh s5 wx)
  case atStart =>
    refine ⟨N, 0, [], rfl, HNL.out, ⟨4096, hN4, HR0.out⟩, by omega, (Blk.new _ _ _).alloc _, ?_, World.ownsRow_nil _ _ _ _, ((Keep.refl _ _).alloc _).alloc _⟩
    have := Blk.new (w.alloc (.cells #[Value.slice ao g.length cap] 53)) #[.int .i64 N] 3
    rw [World.size_alloc] at this
    exact this
  case round =>
    obtain ⟨left, n, out, rfl, hl, ⟨f, hlf, hel⟩, hnl, hb1, hb4, hown, hk⟩ := hrel
    obtain ⟨oo, oc, hoe, _⟩ := ownsRow_shape hown
    subst hoe
    have h4 : left < 4096 := Nat.lt_of_lt_of_le hl (pow_le_4096 HG.out.2.1)
    have HL := Lib.hid hl; clear hl
    have HEL := Lib.hid hel; clear hel
    have HB1 := Lib.hid hb1
    have HB4 := Lib.hid hb4
    have HOWN := Lib.hid hown; clear hown
    have HK := Lib.hid hk
    have c1 := hb1.cell 0
    have c4 := hb4.cell 0
    simp at c1 c4
    clear hb1 hb4 hk
    have HND : Hid (∀ W, Keep (fun _ => False) w W → Calls Tryz.prog 86 #[.int .i64 left] W (NodesPost W left)) := Lib.hid fun W hk => nodes_any left (by omega) W (HT2.out W hk).1 (HT2.out W hk).2
    by_cases h0 : left = 0
    · subst h0
      have hr : R = true := by
        rw [← HEL.out]
        cases f with
        | zero => omega
        | succ f => simp [elimB]
      go_wp2
      go_ret2
      exact ⟨_, by rw [HR.out, hr]; rfl, HK.out⟩
    · have hne : ((left : Int) != 0) = true := by simp; omega
      obtain ⟨f', rfl⟩ : ∃ f', f = f' + 1 := ⟨f - 1, by omega⟩
      have hel2 : (match (elems left).find? (fun i => cliqueB g (gn g i &&& left)) with | none => false | some i => elimB g f' (sdiff left (2 ^ i))) = R := by
        have := HEL.out
        unfold elimB at this
        rwa [if_neg h0] at this
      have HIX : Hid (∀ W v', Keep (fun _ => False) wr W → Rd W 1 v' ((elems left).map Int.ofNat).length (icells ((elems left).map Int.ofNat)) → Calls Tryz.prog 126 #[v', .func (.func 155) #[] #[.pointer (some ⟨w.heap.size, 0, none⟩), .pointer (some ⟨w.heap.size + 1, 0, none⟩)]] W (IdxPost W (.int .i64 (findI (fun x => cliqueB g (gn g x.toNat &&& left)) ((elems left).map Int.ofNat))))) := Lib.hid (by
        intro W v' hkW hrd
        refine indexFunc_any hrd (enters_of Tryz.func155 (by kernel_rfl) rfl) ?_ (by
          have := List.length_filter_le (left.testBit ·) (List.range 12)
          have h2 : (elems left).length ≤ 12 := by simpa [elems] using this
          simp; omega)
        intro w4 hk4 x hx
        obtain ⟨i, hi, rfl⟩ := List.mem_map.1 hx
        have hk34 := hkW.trans hk4 (fun _ _ h => h)
        have hkw := HK.out.trans hk34 (fun _ _ h => h)
        have q1 := (HB1.out.keep hk34 (fun h => h))
        have q4 := (HB4.out.keep hk34 (fun h => h))
        have z1 := q1.cell 0
        have z4 := q4.cell 0
        simp at z1 z4
        exact order1_any HG.out (HV.out.keep hkw (fun _ _ h => h)) HL.out (elems_lt HL.out hi) z1 z4 q1.lt q4.lt (HT2.out w4 hkw).1 (HT2.out w4 hkw).2)
      rcases find_nat (fun i => cliqueB g (gn g i &&& left)) (elems left) 0 with ⟨e1, e2⟩ | ⟨j, i, hj, e1, e2, e3⟩
      · have hfi : findI (fun x => cliqueB g (gn g x.toNat &&& left)) ((elems left).map Int.ofNat) = -1 := e1
        rw [hfi] at HIX
        rw [e2] at hel2
        have hr : R = false := hel2.symm
        clear e1 e2 hel2 h0 hfi
        go_wp2_with (first
          | (go_at_call 86; refine (HND.out _ HK.out).mono ?_; rintro e w3 ⟨v3, rfl, ho3, hk3⟩; have HO3 := Lib.hid (show Rd w3 1 v3 ((elems left).map Int.ofNat).length (icells ((elems left).map Int.ofNat)) by have := ownsRow_rd ho3 (by intro u hu; obtain ⟨_, _, rfl⟩ := List.mem_map.1 hu; rfl); rw [ncells_icells] at this; simpa using this); have HK3 := Lib.hid hk3; clear ho3 hk3)
          | (go_at_call 126; refine (HIX.out _ _ HK3.out HO3.out).mono ?_; rintro e w4 ⟨rfl, hk4⟩; have HK4 := Lib.hid hk4; clear hk4))
        go_ret2
        exact ⟨_, by rw [HR.out, hr]; rfl, (HK.out.trans HK3.out (fun _ _ h => h)).trans HK4.out (fun _ _ h => h)⟩
      · have hfi : findI (fun x => cliqueB g (gn g x.toNat &&& left)) ((elems left).map Int.ofNat) = (j : Int) := by have : findI (fun x => cliqueB g (gn g x.toNat &&& left)) ((elems left).map Int.ofNat) = ((0 + j : Nat) : Int) := e1; simpa using this
        rw [hfi] at HIX
        rw [e3] at hel2
        have hmem : i ∈ elems left := List.mem_of_getElem? e2
        have hbit := (mem_elems h4).1 hmem
        have hi12 : i < 12 := bit_lt (n := 12) h4 hbit
        have hlt := sdiff_bit_lt hbit
        have hpw : IntKind.i64.wrap ((2 : Int) ^ min i 64) = ((2 ^ i : Nat) : Int) := shl_one i (by omega)
        rw [Nat.min_eq_left (by omega)] at hpw
        have hp2 : 2 ^ i ≤ 4096 := pow_le_4096 (by omega)
        have han := i64_andNot_nat left (2 ^ i) (by omega) (by omega)
        have HEL2 := Lib.hid (show elimB g f' (sdiff left (2 ^ i)) = R from hel2)
        have HSL := Lib.hid (Nat.lt_trans hlt HL.out)
        have hjl : ((j : Int) < ((elems left).length : Int)) = True := by simp; omega
        have HE2 := Lib.hid e2
        have hj0 : ((j : Int) < 0) = False := by simp
        obtain ⟨ll, hll⟩ : ∃ ll, (elems left).length = ll := ⟨_, rfl⟩
        rw [hll] at hjl hj
        have HLL := Lib.hid hll
        have hel12 : ll ≤ 12 := by
          have := List.length_filter_le (left.testBit ·) (List.range 12)
          rw [← hll]; simpa [elems] using this
        obtain ⟨pi, hpi⟩ : ∃ pi, 2 ^ i = pi := ⟨_, rfl⟩
        rw [hpi] at hpw hp2 han HEL2 HSL hlt
        obtain ⟨nl, hnl2⟩ : ∃ nl, sdiff left pi = nl := ⟨_, rfl⟩
        rw [hnl2] at han HEL2 HSL hlt
        clear e1 e2 e3 hel2 h0 hfi hmem hbit hpi hnl2 hll
        go_upto_region 9 with (first
          | (go_at_call 86; refine (HND.out _ ((HK.out.trans HK3.out (fun _ _ h => h)).trans HK4.out (fun _ _ h => h))).mono ?_; rintro e w5 ⟨v5, rfl, ho5, hk5⟩; have hrd5 := ownsRow_rd ho5 (by intro u hu; obtain ⟨_, _, rfl⟩ := List.mem_map.1 hu; rfl); obtain ⟨b5, o5, c5, rfl, hcell5⟩ : (∃ b5 o5 c5, v5 = .slice (some ⟨b5, o5, none⟩) ll c5 ∧ w5.cell? ⟨b5, o5 + j, none⟩ = some (.int .i64 (i : Int))) := (by have hll := HLL.out; rcases hrd5.2.2 with ⟨h, h'⟩ | ⟨b, o, c, h, _, _, hx⟩; (omega); exact ⟨b, o, c, by rw [h, hll], hx j _ (by simp [ncells, HE2.out])⟩); have HK5 := Lib.hid (HK45.out.trans hk5 (fun _ _ h => h)); clear ho5 hk5 hrd5)
          | (go_at_call 86; refine (HND.out _ HK.out).mono ?_; rintro e w3 ⟨v3, rfl, ho3, hk3⟩; have HO3 := Lib.hid (show Rd w3 1 v3 ((elems left).map Int.ofNat).length (icells ((elems left).map Int.ofNat)) by have := ownsRow_rd ho3 (by intro u hu; obtain ⟨_, _, rfl⟩ := List.mem_map.1 hu; rfl); rw [ncells_icells] at this; simpa using this); have HK3 := Lib.hid hk3; clear ho3 hk3)
          | (go_at_call 126; refine (HIX.out _ _ HK3.out HO3.out).mono ?_; rintro e w4 ⟨rfl, hk4⟩; have HK4 := Lib.hid hk4; have HK45 := Lib.hid (HK3.out.trans hk4 (fun _ _ h => h)); have c4 := (HB4.out.keep HK45.out (fun h => h)).cell 0; simp at c4; clear hk4)
          | (at_builtin; refine wpList_app (w := w5.alloc (.cells #[.int .i64 (i : Int)] 3)) rfl (.tmp 23) (.tmp 25) 34 34 rfl 3 (.int .i64 0) 1 8 Tryz.underlying34 info3 rfl ((ownsRow_keep HOWN.out HK5.out (fun _ _ h => h)).alloc _) rfl (Src.new (P := Tryz.prog) Tryz.underlying34 w5 1 [.int .i64 (i : Int)] 3 rfl (by simp [Value.oneCell'])) rfl ?hb1 ?hb2 ?hb3 ?hgo))
        case hb1 => unfold maxLen; omega
        case hb2 => omega
        case hb3 => have h1 := (HB4.out.keep HK5.out (fun h => h)).lt; simp; omega
        case hgo =>
        intro v6 w6 happ
        have hb0 := HB4.out.lt
        have hz5 := HK5.out.size
        obtain ⟨o6, c6, hv6, _⟩ := ownsRow_shape happ.own
        subst hv6
        have hkeep6 : Keep (fun k => w.heap.size + 2 ≤ k) wr w6 := ((HK5.out.alloc (.cells #[.int .i64 (i : Int)] 3)).mono (T := fun k => w.heap.size + 2 ≤ k) (fun _ _ h => h.elim)).trans happ.keep (fun k hk e => (ownsRow_lt HOWN.out k e).1)
        have hb1 := HB1.out.keep hkeep6 (fun h => by omega)
        have hb4 := HB4.out.keep hkeep6 (fun h => by omega)
        have c4 := hb4.cell 0
        have f4 := hb4.free 0
        simp at c4
        have hkw := HK.out.trans hkeep6 (fun k hk e => by omega)
        have HKW := Lib.hid hkw
        have HB16 := Lib.hid hb1
        have HB46 := Lib.hid hb4
        have HOA := Lib.hid (show w6.ownsRow (w.heap.size + 2) 3 1 (.slice o6 (n + 1) c6) (n + 1) (ncells (out ++ [i])) by have := happ.own; simpa [ncells] using this)
        clear happ hkeep6 hb1 hb4 hkw hcell5
        go_upto_region 9 with fail
        go_still_tail 4, (by kernel_rfl)
        change wpList _ _ _ _ _ w6.drew
        go_wp2
        go_roundg nl
        case measure => omega
        case rel =>
          refine ⟨nl, n + 1, out ++ [i], rfl, HSL.out, ⟨f', by omega, HEL2.out⟩, by omega, ?_, ?_, ?_, ?_⟩
          · exact HB16.out.drew.keep (S := fun k => k = w.heap.size + 1) ((Keep.refl _ _).setCell _ _ (fun _ => rfl)) (fun h => by omega)
          · have hs := HB46.out.set 0 (.int .i64 nl)
            simp at hs
            exact hs.drew
          · exact ownsRow_keep HOA.out (S := fun k => k = w.heap.size + 1) ((Keep.refl _ _).drew.setCell _ _ (fun _ => rfl)) (fun k e h => by have := (ownsRow_lt HOA.out k e).1; omega)
          · exact HKW.out.drew.setCell _ _ (fun h => by have : w.heap.size + 1 < w.heap.size := h; omega)
def chordE (g : List Int) : Int := if validB g then (if orderB g then 0 else 7) else 2
set_option maxRecDepth 100000 in
theorem chordal_any {w : World} {v : Value} {g : List Int} (hv : Rd w 1 v g.length (icells g)) (hlen : g.length < 9223372036854775807) (hT : TabAt 3 Lib.deBruijn64tab w) (hw3 : 3 < w.heap.size) :
    Calls Tryz.prog 80 #[v] w (IdxPost w (.int .i64 (chordE g))) := by
  obtain ⟨ao, cap, hve, _⟩ := hv.shape
  subst hve
  have HT := Lib.hid hT; clear hT
  have HV := Lib.hid hv; clear hv
  cases hb : validB g with
  | false =>
    have HB := Lib.hid hb; clear hb
    go_enter Tryz.func80, Tryz.ntmps80
    go_wp2_with (go_at_call 116; refine (valid_any HV.out hlen).mono ?_; rintro e w1 h; have h := h.keep; rw [HB.out] at h; obtain ⟨rfl, hk1⟩ := h; have HK1 := Lib.hid hk1; clear hk1)
    go_ret
    exact ⟨by unfold chordE; rw [HB.out]; rfl, HK1.out⟩
  | true =>
    have HB := Lib.hid hb; clear hb
    have HO : Hid (∀ W, Keep (fun _ => False) w W → Calls Tryz.prog 121 #[.slice ao g.length cap] W (fun e w' => ∃ v', e = .returned (.tuple #[v', .bool (orderB g)]) ∧ Keep (fun _ => False) W w')) := Lib.hid fun W hk =>
      order_any (validB_true.1 HB.out) (HV.out.keep hk (fun _ _ h => h)) (fun j hj => (hk.cell (p := ⟨3, j, none⟩) hw3 (fun h => h)).trans (HT.out j hj)) (Nat.lt_of_lt_of_le hw3 hk.size)
    cases ho : orderB g with
    | false =>
      have HOB := Lib.hid ho
      rw [ho] at HO
      clear ho
      go_enter Tryz.func80, Tryz.ntmps80
      go_wp2_with (first
        | (go_at_call 116; refine (valid_any HV.out hlen).mono ?_; rintro e w1 h; have h := h.keep; rw [HB.out] at h; obtain ⟨rfl, hk1⟩ := h; have HK1 := Lib.hid hk1; clear hk1)
        | (go_at_call 121; refine (HO.out _ HK1.out).mono ?_; rintro e w2 ⟨v2, rfl, hk2⟩; have HK2 := Lib.hid (HK1.out.trans hk2 (fun _ _ h => h)); clear hk2))
      go_ret
      exact ⟨by unfold chordE; rw [HB.out, HOB.out]; rfl, HK2.out⟩
    | true =>
      have HOB := Lib.hid ho
      rw [ho] at HO
      clear ho
      go_enter Tryz.func80, Tryz.ntmps80
      go_wp2_with (first
        | (go_at_call 116; refine (valid_any HV.out hlen).mono ?_; rintro e w1 h; have h := h.keep; rw [HB.out] at h; obtain ⟨rfl, hk1⟩ := h; have HK1 := Lib.hid hk1; clear hk1)
        | (go_at_call 121; refine (HO.out _ HK1.out).mono ?_; rintro e w2 ⟨v2, rfl, hk2⟩; have HK2 := Lib.hid (HK1.out.trans hk2 (fun _ _ h => h)); clear hk2))
      go_ret
      exact ⟨by unfold chordE; rw [HB.out, HOB.out]; rfl, HK2.out⟩
end Go.Proofs.YthdkamnclbfehaaGreatDoor

/- chordal.Colours: the search. -/
namespace Go.Proofs.YthdkamnclbfehaaGreatDoor
set_option linter.unusedSimpArgs false
set_option linter.unusedVariables false
set_option linter.unnecessarySimpa false
open Go.RowKit

theorem ncells_get (l : List Nat) (j : Nat) (h : j < l.length) : (ncells l)[j]? = some (.int .i64 (l.getD j 0 : Nat)) := by
  simp [ncells, List.getD, List.getElem?_eq_getElem h]
theorem ncells_length (l : List Nat) : (ncells l).length = l.length := by simp [ncells]
theorem ncells_set (l : List Nat) (i c : Nat) : ncells (l.set i c) = (ncells l).set i (.int .i64 (c : Nat)) := by simp [ncells, List.map_set]
theorem int_beq (a b : Nat) : ((a : Int) == (b : Int)) = (a == b) := by rw [Bool.eq_iff_iff, beq_iff_eq, beq_iff_eq]; omega

set_option maxHeartbeats 800000 in
theorem clash1_any {w : World} {out : List Nat} {b6 bc bo j c : Nat} (h6 : w.cell? ⟨b6, 0, none⟩ = some (.slice (some ⟨bo, 0, none⟩) out.length out.length)) (hc : w.cell? ⟨bc, 0, none⟩ = some (.int .i64 (c : Nat))) (hb : Blk w bo (ncells out).toArray 3) (hj : j < out.length) (hl : out.length ≤ 12) :
    Calls Tryz.prog 87 #[.int .i64 (j : Nat), .pointer (some ⟨b6, 0, none⟩), .pointer (some ⟨bc, 0, none⟩)] w (DrawPost w (.bool (out.getD j 0 == c))) := by
  have hcell : w.cell? ⟨bo, j, none⟩ = some (.int .i64 (out.getD j 0 : Nat)) := by
    rw [hb.cell j]
    have := ncells_get out j hj
    simpa using this
  have e4 := int_beq (out.getD j 0) c
  generalize (out.getD j 0 == c) = res at *
  generalize out.getD j 0 = x at *
  have hjI : (j : Int) < out.length := by omega
  clear hb
  go_enter Tryz.func87, Tryz.ntmps87
  go_wp2
  go_quiet (fail)
  go_wp2
  go_ret
  exact ⟨rfl, _, rfl⟩

/-- What the search's closure sees. -/
structure Env (w : World) (g : List Int) (v : Value) (m b1 b5 b6 b7 bo : Nat) : Prop where
  c1 : w.cell? ⟨b1, 0, none⟩ = some v
  c5 : w.cell? ⟨b5, 0, none⟩ = some (.int .i64 (m : Nat))
  c6 : w.cell? ⟨b6, 0, none⟩ = some (.slice (some ⟨bo, 0, none⟩) g.length g.length)
  c7 : w.cell? ⟨b7, 0, none⟩ = some (.func (.func 84) #[] #[.pointer (some ⟨b1, 0, none⟩), .pointer (some ⟨b5, 0, none⟩), .pointer (some ⟨b6, 0, none⟩), .pointer (some ⟨b7, 0, none⟩)])
  rd : Rd w 1 v g.length (icells g)
  l1 : b1 < w.heap.size
  l5 : b5 < w.heap.size
  l6 : b6 < w.heap.size
  l7 : b7 < w.heap.size
  n1 : b1 ≠ bo
  n5 : b5 ≠ bo
  n6 : b6 ≠ bo
  n7 : b7 ≠ bo
  nv : v.ownBlock ≠ some bo
  tab : TabAt 3 Lib.deBruijn64tab w
  l3 : 3 < w.heap.size
  n3 : 3 ≠ bo
theorem Env.keep {w w' : World} {g : List Int} {v : Value} {m b1 b5 b6 b7 bo : Nat} (h : Env w g v m b1 b5 b6 b7 bo) (k : Keep (fun k => k = bo) w w') : Env w' g v m b1 b5 b6 b7 bo :=
  ⟨(k.cell (p := ⟨b1, 0, none⟩) h.l1 h.n1).trans h.c1, (k.cell (p := ⟨b5, 0, none⟩) h.l5 h.n5).trans h.c5, (k.cell (p := ⟨b6, 0, none⟩) h.l6 h.n6).trans h.c6, (k.cell (p := ⟨b7, 0, none⟩) h.l7 h.n7).trans h.c7,
   h.rd.keep k (fun b e e' => h.nv (e' ▸ e)), Nat.lt_of_lt_of_le h.l1 k.size, Nat.lt_of_lt_of_le h.l5 k.size, Nat.lt_of_lt_of_le h.l6 k.size, Nat.lt_of_lt_of_le h.l7 k.size, h.n1, h.n5, h.n6, h.n7, h.nv,
   fun j hj => (k.cell (p := ⟨3, j, none⟩) h.l3 h.n3).trans (h.tab j hj), Nat.lt_of_lt_of_le h.l3 k.size, h.n3⟩
def TryPost (w : World) (bo : Nat) (r : Bool × List Nat) (e : Ending) (w' : World) : Prop :=
  e = .returned (.bool r.1) ∧ Blk w' bo (ncells r.2).toArray 3 ∧ Keep (fun k => k = bo) w w'
theorem range_drop {m c : Nat} (h : c < m) : (List.range m).drop c = c :: (List.range m).drop (c + 1) := by
  rw [List.drop_eq_getElem_cons (by simpa using h)]
  simp
def TrRel (w : World) (g : List Int) (m k i bo : Nat) (R : Bool × List Nat) (gh : Nat) (s13 : Value) (wx : World) : Prop :=
  ∃ (c : Nat) (o : List Nat), gh = m - c ∧ c ≤ m ∧ s13 = .int .i64 (c : Nat) ∧ o.length = g.length ∧ tryC (tryF g m k (i + 1)) g i ((List.range m).drop c) o = R ∧ Blk wx bo (ncells o).toArray 3 ∧ Keep (fun k => k = bo) w wx

set_option maxHeartbeats 2000000 in
set_option maxRecDepth 100000 in
theorem try_any {g : List Int} (hg : Graph g) {v : Value} {m b1 b5 b6 b7 bo : Nat} (hm : m ≤ 12) : ∀ (k i : Nat) (out : List Nat) (w : World), i + k = g.length → out.length = g.length → Env w g v m b1 b5 b6 b7 bo → Blk w bo (ncells out).toArray 3 →
    Calls Tryz.prog 84 #[.int .i64 (i : Nat), .pointer (some ⟨b1, 0, none⟩), .pointer (some ⟨b5, 0, none⟩), .pointer (some ⟨b6, 0, none⟩), .pointer (some ⟨b7, 0, none⟩)] w (TryPost w bo (tryF g m k i out)) := by
  intro k
  induction k with
  | zero =>
    intro i out w hi hl hE hB
    obtain ⟨vo, vc, hve, _⟩ := hE.rd.shape
    subst hve
    have c1 := hE.c1
    have hie : ((i : Int) == (g.length : Int)) = true := by simp; omega
    have hie2 : ((i : Int) = (g.length : Int)) = True := by simp; omega
    have HB := Lib.hid hB
    clear hE hB hi
    go_enter Tryz.func84, Tryz.ntmps84
    go_wp2
    go_ret
    exact ⟨rfl, HB.out, Keep.refl _ _⟩
  | succ k ih =>
    intro i out w hi hl hE hB
    have hn := hg.2.1
    have h12 := pow_le_4096 hn
    have hin : i < g.length := by omega
    obtain ⟨vb, vo, vc, hve⟩ : ∃ vb vo vc, v = .slice (some ⟨vb, vo, none⟩) g.length vc := by
      rcases hE.rd.2.2 with ⟨h, h'⟩ | ⟨b, o, c, h, _, _, hx⟩
      · omega
      · exact ⟨b, o, c, h⟩
    subst hve
    obtain ⟨hgb1, hgb2⟩ := hg.bound hin
    have hie : ((i : Int) == (g.length : Int)) = false := by simp; omega
    have hie2 : ((i : Int) = (g.length : Int)) = False := by simp; omega
    have hpw : IntKind.i64.wrap ((2 : Int) ^ min i 64) = ((2 ^ i : Nat) : Int) := shl_one i (by omega)
    rw [Nat.min_eq_left (by omega)] at hpw
    have hp1 : 1 ≤ 2 ^ i := Nat.one_le_two_pow
    have hp2 : 2 ^ i ≤ 4096 := pow_le_4096 (by omega)
    have hsb : IntKind.i64.wrap (((2 ^ i : Nat) : Int) - 1) = ((2 ^ i - 1 : Nat) : Int) := by rw [IntWalk.i64_in _ (by omega)]; omega
    have han := i64_and_nat (gn g i) (2 ^ i - 1) (Nat.lt_of_lt_of_le hgb2 (Nat.le_trans h12 (by decide))) (by omega)
    have hga : gn g i &&& (2 ^ i - 1) < 2 ^ i := Nat.and_lt_two_pow _ (by omega)
    obtain ⟨R, hR⟩ : ∃ R, tryF g m (k + 1) i out = R := ⟨_, rfl⟩
    have hR0 : tryC (tryF g m k (i + 1)) g i ((List.range m).drop 0) out = R := hR
    have hcl : ∀ (o : List Nat) (c : Nat), clashB g i o c = (elems (gn g i &&& (2 ^ i - 1))).any (fun j => o.getD j 0 == c) := fun _ _ => rfl
    obtain ⟨gi, hgi⟩ : ∃ gi, gn g i = gi := ⟨_, rfl⟩
    obtain ⟨pi, hpi⟩ : ∃ pi, 2 ^ i = pi := ⟨_, rfl⟩
    rw [hgi] at han hga hcl hgb1
    rw [hpi] at hpw hsb han hga hcl hp1 hp2
    obtain ⟨ga, hgae⟩ : ∃ ga, gi &&& (pi - 1) = ga := ⟨_, rfl⟩
    rw [hgae] at han hga hcl
    obtain ⟨pm, hpm⟩ : ∃ pm, pi - 1 = pm := ⟨_, rfl⟩
    rw [hpm] at hsb han
    have hgal : ∀ j ∈ elems ga, j < i := fun j hj => bit_lt (n := i) (by rw [hpi]; exact hga) ((mem_elems (by omega)).1 hj)
    rw [hR]
    have HR0 := Lib.hid hR0
    have HCL := Lib.hid hcl
    have HGAL := Lib.hid hgal
    have HE := Lib.hid hE
    have HB := Lib.hid hB
    have HGB := Lib.hid hgb1
    have c1 := hE.c1
    have c5 := hE.c5
    have hga4 : ga < 4096 := by omega
    have HIH := Lib.hid ih
    clear hgb2 hgi hpi hgae hpm hR hR0 hcl hgal hE hB hgb1 h12 hga ih
    go_enter Tryz.func84, Tryz.ntmps84
    go_wp2
    go_loopg [13] m (fun gh s13 wx => TrRel w g m k i bo R gh s13 wx)
    case atStart => exact ⟨0, out, rfl, Nat.zero_le _, rfl, hl, HR0.out, HB.out, Keep.refl _ _⟩
    case round =>
      obtain ⟨c, o, rfl, hc, rfl, hol, hRc, hBr, hkw⟩ := hrel
      have HRC := Lib.hid hRc
      have HBR := Lib.hid hBr
      have HKW := Lib.hid hkw
      have HER := Lib.hid (HE.out.keep hkw)
      clear hRc hBr hkw c1 c5
      by_cases hlt : c < m
      · have hjl : ((c : Int) < (m : Int)) = True := by simp; omega
        have hRs := HRC.out
        rw [range_drop hlt] at hRs
        unfold tryC at hRs
        have HRS := Lib.hid hRs; clear hRs
        have hEb := HER.out.keep ((Keep.refl _ _).alloc (.cells #[.int .i64 (c : Nat)] 3))
        have HBC := Lib.hid (Blk.new wr #[.int .i64 (c : Nat)] 3)
        have hbcne : wr.heap.size ≠ bo := by have := HBR.out.lt; omega
        have HBB := Lib.hid (HBR.out.alloc (.cells #[.int .i64 (c : Nat)] 3))
        have HEB := Lib.hid hEb
        have HKB := Lib.hid (HKW.out.alloc (.cells #[.int .i64 (c : Nat)] 3))
        clear hEb
        go_upto_region 6 with fail
        have c1 := HEB.out.c1
        have HSA : Hid (∀ W, Keep (fun _ => False) (wr.alloc (.cells #[.int .i64 (c : Nat)] 3)) W → (W.cell? ⟨b1, 0, none⟩ = some (.slice (some ⟨vb, vo, none⟩) g.length vc) ∧ W.cell? ⟨vb, vo + i, none⟩ = some (.int .i64 gi))) := Lib.hid fun W hk => by
          have hE2 := HEB.out.keep (hk.mono (T := fun k => k = bo) (fun _ _ h => h.elim))
          refine ⟨hE2.c1, ?_⟩
          rcases hE2.rd.2.2 with ⟨h, h'⟩ | ⟨b, o, c, h, _, _, hx⟩
          · omega
          · injection h with h1 h2 h3
            injection h1 with h1
            injection h1 with h4 h5
            subst h4 h5
            have := hx i _ (icells_get g i hin)
            rw [HGB.out] at this
            exact this
        have HND : Hid (∀ W, Keep (fun _ => False) (wr.alloc (.cells #[.int .i64 (c : Nat)] 3)) W → Calls Tryz.prog 86 #[.int .i64 (ga : Nat)] W (NodesPost W ga)) := Lib.hid fun W hk => by
          have hE2 := HEB.out.keep (hk.mono (T := fun k => k = bo) (fun _ _ h => h.elim))
          exact nodes_any ga hga4 W hE2.tab hE2.l3
        have HCF : Hid (∀ W v', Keep (fun _ => False) (wr.alloc (.cells #[.int .i64 (c : Nat)] 3)) W → Rd W 1 v' ((elems ga).map Int.ofNat).length (icells ((elems ga).map Int.ofNat)) → Calls Tryz.prog 85 #[v', .func (.func 87) #[] #[.pointer (some ⟨b6, 0, none⟩), .pointer (some ⟨wr.heap.size, 0, none⟩)]] W (IdxPost W (.bool (clashB g i o c)))) := Lib.hid (by
          intro W v' hkW hrd
          have hany : ((elems ga).map Int.ofNat).any (fun x => o.getD x.toNat 0 == c) = clashB g i o c := by
            rw [HCL.out, List.any_map]; rfl
          have hcf := containsFunc_any (p := fun x => o.getD x.toNat 0 == c) hrd (enters_of Tryz.func87 (by kernel_rfl) rfl) (capt := #[.pointer (some ⟨b6, 0, none⟩), .pointer (some ⟨wr.heap.size, 0, none⟩)]) (by
            intro w4 hk4 x hx
            obtain ⟨j, hj, rfl⟩ := List.mem_map.1 hx
            have hk34 := hkW.trans hk4 (fun _ _ h => h)
            have hE2 := HEB.out.keep (hk34.mono (T := fun k => k = bo) (fun _ _ h => h.elim))
            have q6 := hE2.c6
            rw [← hol] at q6
            have qc := (HBC.out.keep hk34 (fun h => h)).cell 0
            simp at qc
            have hji := HGAL.out j hj
            exact (clash1_any q6 qc (HBB.out.keep hk34 (fun h => h)) (by omega) (by omega)).mono fun e w5 h5 => h5.keep) (by
            have := List.length_filter_le (ga.testBit ·) (List.range 12)
            have h2 : (elems ga).length ≤ 12 := by simpa [elems] using this
            simp; omega)
          rw [hany] at hcf
          exact hcf)
        have hiI : (i : Int) < g.length := by omega
        cases hcb : clashB g i o c with
        | true =>
          rw [hcb] at HCF HRS
          refine wp_region_noPanic ?_
          refine wp_region_held_drew (S := fun W => W.cell? ⟨b1, 0, none⟩ = some (.slice (some ⟨vb, vo, none⟩) g.length vc) ∧ W.cell? ⟨vb, vo + i, none⟩ = some (.int .i64 gi)) (by kernel_rfl) (HSA.out _ (Keep.refl (fun _ => False) (wr.alloc (.cells #[.int .i64 (c : Nat)] 3))).drew) (fun hHeld => ?_)
          refine wpAnyH_take (i := 0) (oi := _) (v := ?_) rfl (by kernel_rfl) (by kernel_rfl) (by kernel_rfl) (fun _ _ _ h => h) (Or.inl ⟨by rfl, ?_⟩) (by assumption) ?_
          rotate_left
          · (intro w hSw; (try dsimp only at hSw); go_simp) <;> with_reducible rfl
          (try simp only [List.getElem_toArray, List.getElem_cons_zero, List.getElem_cons_succ, Act.put, List.setIfInBounds_toArray, List.set_cons_zero, List.set_cons_succ])
          refine wpAnyH_take (i := 1) (oi := _) (v := ?_) rfl (by kernel_rfl) (by kernel_rfl) (by kernel_rfl) (fun _ _ _ h => h) (Or.inl ⟨by rfl, ?_⟩) (by assumption) ?_
          rotate_left
          · (intro w hSw; (try dsimp only at hSw); go_simp) <;> with_reducible rfl
          (try simp only [List.getElem_toArray, List.getElem_cons_zero, List.getElem_cons_succ, Act.put, List.setIfInBounds_toArray, List.set_cons_zero, List.set_cons_succ])
          refine wpAnyH_take (i := 2) (oi := _) (v := ?_) rfl (by kernel_rfl) (by kernel_rfl) (by kernel_rfl) (fun _ _ _ h => h) (Or.inl ⟨by rfl, ?_⟩) (by assumption) ?_
          rotate_left
          · (intro w hSw; (try dsimp only at hSw); go_simp) <;> with_reducible rfl
          (try simp only [List.getElem_toArray, List.getElem_cons_zero, List.getElem_cons_succ, Act.put, List.setIfInBounds_toArray, List.set_cons_zero, List.set_cons_succ])
          refine wpAnyH_take (i := 3) (oi := _) (v := ?_) rfl (by kernel_rfl) (by kernel_rfl) (by kernel_rfl) (fun _ _ _ h => h) (Or.inl ⟨by rfl, ?_⟩) (by assumption) ?_
          rotate_left
          · (intro w hSw; (try dsimp only at hSw); go_simp) <;> with_reducible rfl
          (try simp only [List.getElem_toArray, List.getElem_cons_zero, List.getElem_cons_succ, Act.put, List.setIfInBounds_toArray, List.set_cons_zero, List.set_cons_succ])
          refine wpAnyH_take (i := 4) (oi := _) (v := ?_) rfl (by kernel_rfl) (by kernel_rfl) (by kernel_rfl) (fun _ _ _ h => h) (Or.inl ⟨by rfl, ?_⟩) (by assumption) ?_
          rotate_left
          · (intro w hSw; (try dsimp only at hSw); go_simp) <;> with_reducible rfl
          (try simp only [List.getElem_toArray, List.getElem_cons_zero, List.getElem_cons_succ, Act.put, List.setIfInBounds_toArray, List.set_cons_zero, List.set_cons_succ])
          refine wpAnyH_take (i := 5) (oi := _) (v := ?_) rfl (by kernel_rfl) (by kernel_rfl) (by kernel_rfl) (fun _ _ _ h => h) (Or.inl ⟨by rfl, ?_⟩) (by assumption) ?_
          rotate_left
          · (intro w hSw; (try dsimp only at hSw); go_simp) <;> with_reducible rfl
          (try simp only [List.getElem_toArray, List.getElem_cons_zero, List.getElem_cons_succ, Act.put, List.setIfInBounds_toArray, List.set_cons_zero, List.set_cons_succ])
          refine wpAnyH_take (i := 6) (oi := _) (v := ?_) rfl (by kernel_rfl) (by kernel_rfl) (by kernel_rfl) (fun _ _ _ h => h) (Or.inl ⟨by rfl, ?_⟩) (by assumption) ?_
          rotate_left
          · (intro w hSw; (try dsimp only at hSw); go_simp) <;> with_reducible rfl
          (try simp only [List.getElem_toArray, List.getElem_cons_zero, List.getElem_cons_succ, Act.put, List.setIfInBounds_toArray, List.set_cons_zero, List.set_cons_succ])
          refine wpAnyH_take (i := 7) (oi := _) (v := ?_) rfl (by kernel_rfl) (by kernel_rfl) (by kernel_rfl) (fun _ _ _ h => h) (Or.inl ⟨by rfl, ?_⟩) (by assumption) ?_
          rotate_left
          · (intro w hSw; (try dsimp only at hSw); go_simp) <;> with_reducible rfl
          (try simp only [List.getElem_toArray, List.getElem_cons_zero, List.getElem_cons_succ, Act.put, List.setIfInBounds_toArray, List.set_cons_zero, List.set_cons_succ])
          refine wpAnyH_take (i := 9) (oi := _) (v := ?_) rfl (by kernel_rfl) (by kernel_rfl) (by kernel_rfl) (fun _ _ _ h => h) (Or.inl ⟨by rfl, ?_⟩) (by assumption) ?_
          rotate_left
          · (intro w hSw; (try dsimp only at hSw); go_simp) <;> with_reducible rfl
          (try simp only [List.getElem_toArray, List.getElem_cons_zero, List.getElem_cons_succ, Act.put, List.setIfInBounds_toArray, List.set_cons_zero, List.set_cons_succ])
          refine wpAnyH_ready (rs := [8]) (by kernel_rfl) (by simp) ?_
          refine AllReadyH.cons (o := _) rfl (fun K hK => ?_) AllReadyH.nil
          go_simp
          refine Calls.mono (HND.out _ (show Keep (fun _ => False) (wr.alloc (.cells #[.int .i64 (c : Nat)] 3)) _ by repeat (first | exact HKR.out | exact Keep.refl _ _ | apply Keep.drew | apply Keep.drewN | apply Keep.alloc))) ?_
          rintro e' Wc ⟨v3, rfl, ho3, hkc⟩
          have HO3 := Lib.hid (show Rd Wc 1 v3 ((elems ga).map Int.ofNat).length (icells ((elems ga).map Int.ofNat)) by have := ownsRow_rd ho3 (by intro u hu; obtain ⟨_, _, rfl⟩ := List.mem_map.1 hu; rfl); rw [ncells_icells] at this; simpa using this)
          have HKRC := Lib.hid (Keep.trans (show Keep (fun _ => False) (wr.alloc (.cells #[.int .i64 (c : Nat)] 3)) _ by repeat (first | exact HKR.out | exact Keep.refl _ _ | apply Keep.drew | apply Keep.drewN | apply Keep.alloc)) hkc (fun _ _ h => h))
          have HKR := HKRC
          clear HKRC hkc ho3
          (try dsimp only)
          refine hK.out _ _ ?_ (fun hHeld => ?_)
          · ((try dsimp only); refine HSA.out _ ?_; repeat (first | exact HKR.out | exact Keep.refl _ _ | apply Keep.drew | apply Keep.drewN | apply Keep.alloc))
          clear hK K
          (try simp only [List.getElem_toArray, List.getElem_cons_zero, List.getElem_cons_succ, Act.put, List.setIfInBounds_toArray, List.set_cons_zero, List.set_cons_succ])
          refine wpAnyH_ready (rs := [10]) (by kernel_rfl) (by simp) ?_
          refine AllReadyH.cons (o := _) rfl (fun K hK => ?_) AllReadyH.nil
          go_simp
          refine Calls.mono (HCF.out _ _ (show Keep (fun _ => False) (wr.alloc (.cells #[.int .i64 (c : Nat)] 3)) _ by repeat (first | exact HKR.out | exact Keep.refl _ _ | apply Keep.drew | apply Keep.drewN | apply Keep.alloc)) HO3.out) ?_
          rintro e' Wd ⟨rfl, hkc⟩
          have HKRC := Lib.hid (Keep.trans (show Keep (fun _ => False) (wr.alloc (.cells #[.int .i64 (c : Nat)] 3)) _ by repeat (first | exact HKR.out | exact Keep.refl _ _ | apply Keep.drew | apply Keep.drewN | apply Keep.alloc)) hkc (fun _ _ h => h))
          have HKR := HKRC
          clear HKRC hkc
          (try dsimp only)
          refine hK.out _ _ ?_ (fun hHeld => ?_)
          · ((try dsimp only); refine HSA.out _ ?_; repeat (first | exact HKR.out | exact Keep.refl _ _ | apply Keep.drew | apply Keep.drewN | apply Keep.alloc))
          clear hK K
          (try simp only [List.getElem_toArray, List.getElem_cons_zero, List.getElem_cons_succ, Act.put, List.setIfInBounds_toArray, List.set_cons_zero, List.set_cons_succ])
          refine wpAnyH_done (by kernel_rfl) ?_ _
          refine NoPanic.normal ?_
          go_wp2
          go_roundg (m - (c + 1))
          case measure => omega
          case rel => exact ⟨c + 1, o, rfl, by omega, by go_num, hol, by have h := HRS.out; rw [if_pos trivial] at h; exact h, HBB.out.keep HKR.out (fun h => h), HKB.out.trans HKR.out (fun _ _ h => h.elim)⟩
        | false =>
          rw [hcb] at HCF HRS
          refine wp_region_noPanic ?_
          refine wp_region_held_drew (S := fun W => W.cell? ⟨b1, 0, none⟩ = some (.slice (some ⟨vb, vo, none⟩) g.length vc) ∧ W.cell? ⟨vb, vo + i, none⟩ = some (.int .i64 gi)) (by kernel_rfl) (HSA.out _ (Keep.refl (fun _ => False) (wr.alloc (.cells #[.int .i64 (c : Nat)] 3))).drew) (fun hHeld => ?_)
          refine wpAnyH_take (i := 0) (oi := _) (v := ?_) rfl (by kernel_rfl) (by kernel_rfl) (by kernel_rfl) (fun _ _ _ h => h) (Or.inl ⟨by rfl, ?_⟩) (by assumption) ?_
          rotate_left
          · (intro w hSw; (try dsimp only at hSw); go_simp) <;> with_reducible rfl
          (try simp only [List.getElem_toArray, List.getElem_cons_zero, List.getElem_cons_succ, Act.put, List.setIfInBounds_toArray, List.set_cons_zero, List.set_cons_succ])
          refine wpAnyH_take (i := 1) (oi := _) (v := ?_) rfl (by kernel_rfl) (by kernel_rfl) (by kernel_rfl) (fun _ _ _ h => h) (Or.inl ⟨by rfl, ?_⟩) (by assumption) ?_
          rotate_left
          · (intro w hSw; (try dsimp only at hSw); go_simp) <;> with_reducible rfl
          (try simp only [List.getElem_toArray, List.getElem_cons_zero, List.getElem_cons_succ, Act.put, List.setIfInBounds_toArray, List.set_cons_zero, List.set_cons_succ])
          refine wpAnyH_take (i := 2) (oi := _) (v := ?_) rfl (by kernel_rfl) (by kernel_rfl) (by kernel_rfl) (fun _ _ _ h => h) (Or.inl ⟨by rfl, ?_⟩) (by assumption) ?_
          rotate_left
          · (intro w hSw; (try dsimp only at hSw); go_simp) <;> with_reducible rfl
          (try simp only [List.getElem_toArray, List.getElem_cons_zero, List.getElem_cons_succ, Act.put, List.setIfInBounds_toArray, List.set_cons_zero, List.set_cons_succ])
          refine wpAnyH_take (i := 3) (oi := _) (v := ?_) rfl (by kernel_rfl) (by kernel_rfl) (by kernel_rfl) (fun _ _ _ h => h) (Or.inl ⟨by rfl, ?_⟩) (by assumption) ?_
          rotate_left
          · (intro w hSw; (try dsimp only at hSw); go_simp) <;> with_reducible rfl
          (try simp only [List.getElem_toArray, List.getElem_cons_zero, List.getElem_cons_succ, Act.put, List.setIfInBounds_toArray, List.set_cons_zero, List.set_cons_succ])
          refine wpAnyH_take (i := 4) (oi := _) (v := ?_) rfl (by kernel_rfl) (by kernel_rfl) (by kernel_rfl) (fun _ _ _ h => h) (Or.inl ⟨by rfl, ?_⟩) (by assumption) ?_
          rotate_left
          · (intro w hSw; (try dsimp only at hSw); go_simp) <;> with_reducible rfl
          (try simp only [List.getElem_toArray, List.getElem_cons_zero, List.getElem_cons_succ, Act.put, List.setIfInBounds_toArray, List.set_cons_zero, List.set_cons_succ])
          refine wpAnyH_take (i := 5) (oi := _) (v := ?_) rfl (by kernel_rfl) (by kernel_rfl) (by kernel_rfl) (fun _ _ _ h => h) (Or.inl ⟨by rfl, ?_⟩) (by assumption) ?_
          rotate_left
          · (intro w hSw; (try dsimp only at hSw); go_simp) <;> with_reducible rfl
          (try simp only [List.getElem_toArray, List.getElem_cons_zero, List.getElem_cons_succ, Act.put, List.setIfInBounds_toArray, List.set_cons_zero, List.set_cons_succ])
          refine wpAnyH_take (i := 6) (oi := _) (v := ?_) rfl (by kernel_rfl) (by kernel_rfl) (by kernel_rfl) (fun _ _ _ h => h) (Or.inl ⟨by rfl, ?_⟩) (by assumption) ?_
          rotate_left
          · (intro w hSw; (try dsimp only at hSw); go_simp) <;> with_reducible rfl
          (try simp only [List.getElem_toArray, List.getElem_cons_zero, List.getElem_cons_succ, Act.put, List.setIfInBounds_toArray, List.set_cons_zero, List.set_cons_succ])
          refine wpAnyH_take (i := 7) (oi := _) (v := ?_) rfl (by kernel_rfl) (by kernel_rfl) (by kernel_rfl) (fun _ _ _ h => h) (Or.inl ⟨by rfl, ?_⟩) (by assumption) ?_
          rotate_left
          · (intro w hSw; (try dsimp only at hSw); go_simp) <;> with_reducible rfl
          (try simp only [List.getElem_toArray, List.getElem_cons_zero, List.getElem_cons_succ, Act.put, List.setIfInBounds_toArray, List.set_cons_zero, List.set_cons_succ])
          refine wpAnyH_take (i := 9) (oi := _) (v := ?_) rfl (by kernel_rfl) (by kernel_rfl) (by kernel_rfl) (fun _ _ _ h => h) (Or.inl ⟨by rfl, ?_⟩) (by assumption) ?_
          rotate_left
          · (intro w hSw; (try dsimp only at hSw); go_simp) <;> with_reducible rfl
          (try simp only [List.getElem_toArray, List.getElem_cons_zero, List.getElem_cons_succ, Act.put, List.setIfInBounds_toArray, List.set_cons_zero, List.set_cons_succ])
          refine wpAnyH_ready (rs := [8]) (by kernel_rfl) (by simp) ?_
          refine AllReadyH.cons (o := _) rfl (fun K hK => ?_) AllReadyH.nil
          go_simp
          refine Calls.mono (HND.out _ (show Keep (fun _ => False) (wr.alloc (.cells #[.int .i64 (c : Nat)] 3)) _ by repeat (first | exact HKR.out | exact Keep.refl _ _ | apply Keep.drew | apply Keep.drewN | apply Keep.alloc))) ?_
          rintro e' Wc ⟨v3, rfl, ho3, hkc⟩
          have HO3 := Lib.hid (show Rd Wc 1 v3 ((elems ga).map Int.ofNat).length (icells ((elems ga).map Int.ofNat)) by have := ownsRow_rd ho3 (by intro u hu; obtain ⟨_, _, rfl⟩ := List.mem_map.1 hu; rfl); rw [ncells_icells] at this; simpa using this)
          have HKRC := Lib.hid (Keep.trans (show Keep (fun _ => False) (wr.alloc (.cells #[.int .i64 (c : Nat)] 3)) _ by repeat (first | exact HKR.out | exact Keep.refl _ _ | apply Keep.drew | apply Keep.drewN | apply Keep.alloc)) hkc (fun _ _ h => h))
          have HKR := HKRC
          clear HKRC hkc ho3
          (try dsimp only)
          refine hK.out _ _ ?_ (fun hHeld => ?_)
          · ((try dsimp only); refine HSA.out _ ?_; repeat (first | exact HKR.out | exact Keep.refl _ _ | apply Keep.drew | apply Keep.drewN | apply Keep.alloc))
          clear hK K
          (try simp only [List.getElem_toArray, List.getElem_cons_zero, List.getElem_cons_succ, Act.put, List.setIfInBounds_toArray, List.set_cons_zero, List.set_cons_succ])
          refine wpAnyH_ready (rs := [10]) (by kernel_rfl) (by simp) ?_
          refine AllReadyH.cons (o := _) rfl (fun K hK => ?_) AllReadyH.nil
          go_simp
          refine Calls.mono (HCF.out _ _ (show Keep (fun _ => False) (wr.alloc (.cells #[.int .i64 (c : Nat)] 3)) _ by repeat (first | exact HKR.out | exact Keep.refl _ _ | apply Keep.drew | apply Keep.drewN | apply Keep.alloc)) HO3.out) ?_
          rintro e' Wd ⟨rfl, hkc⟩
          have HKRC := Lib.hid (Keep.trans (show Keep (fun _ => False) (wr.alloc (.cells #[.int .i64 (c : Nat)] 3)) _ by repeat (first | exact HKR.out | exact Keep.refl _ _ | apply Keep.drew | apply Keep.drewN | apply Keep.alloc)) hkc (fun _ _ h => h))
          have HKR := HKRC
          clear HKRC hkc
          (try dsimp only)
          refine hK.out _ _ ?_ (fun hHeld => ?_)
          · ((try dsimp only); refine HSA.out _ ?_; repeat (first | exact HKR.out | exact Keep.refl _ _ | apply Keep.drew | apply Keep.drewN | apply Keep.alloc))
          clear hK K
          (try simp only [List.getElem_toArray, List.getElem_cons_zero, List.getElem_cons_succ, Act.put, List.setIfInBounds_toArray, List.set_cons_zero, List.set_cons_succ])
          refine wpAnyH_done (by kernel_rfl) ?_ _
          refine NoPanic.normal ?_
          have hEd := HEB.out.keep (HKR.out.mono (T := fun k => k = bo) (fun _ _ h => h.elim))
          have hBd := HBB.out.keep HKR.out (fun h => h)
          have hCd := HBC.out.keep HKR.out (fun h => h)
          have c6 := hEd.c6
          have cb := hCd.cell 0
          simp at cb
          have fb := hBd.free i
          have cbo : Wd.cell? ⟨bo, i, none⟩ = some (.int .i64 (o.getD i 0 : Nat)) := by
            rw [hBd.cell i]
            have := ncells_get o i (by omega)
            simpa using this
          have hks : Keep (fun k => k = bo) Wd (Wd.setCell ⟨bo, i, none⟩ (.int .i64 (c : Nat))) := (Keep.refl _ _).setCell _ _ (fun _ => rfl)
          have hEs := hEd.keep hks
          have hBs : Blk (Wd.setCell ⟨bo, i, none⟩ (.int .i64 (c : Nat))) bo (ncells (o.set i c)).toArray 3 := by
            have h := hBd.set i (.int .i64 (c : Nat))
            rw [ncells_set]
            simpa using h
          have hKd := (HKB.out.trans HKR.out (fun _ _ h => h.elim)).trans hks (fun _ _ h => h)
          obtain ⟨r, hr⟩ : ∃ r, tryF g m k (i + 1) (o.set i c) = r := ⟨_, rfl⟩
          have hih := HIH.out (i + 1) (o.set i c) _ (by omega) (by rw [List.length_set]; exact hol) hEs hBs
          have hlen := (try_keep (g := g) (m := m) k (i + 1) (o.set i c)).1
          rw [hr] at hih hlen
          rw [show ((i + 1 : Nat) : Int) = (i : Int) + 1 by omega] at hih
          have hRS := HRS.out
          rw [if_neg Bool.false_ne_true, hr] at hRS
          rw [List.length_set, hol] at hlen
          have HLEN := Lib.hid hlen
          have HES := Lib.hid hEs
          have HBS := Lib.hid hBs
          have HKD := Lib.hid hKd
          have HI2 := Lib.hid hih
          have hiw : IntKind.i64.wrap ((i : Int) + 1) = (i : Int) + 1 := IntWalk.i64_in _ (by omega)
          clear hBs hKd hih hr hlen hEd hBd hCd hks
          go_upto_region 8 with fail
          have c7 := hEs.c7
          clear hEs c6 cb fb cbo
          cases hr1 : r.1 with
          | true =>
            rw [hr1, if_pos rfl] at hRS
            have HRR := Lib.hid hRS
            have HR1 := Lib.hid hr1
            clear hRS hr1
            go_wp2_with (go_at_call 84; refine Calls.mono HI2.out ?_; rintro e w9 ⟨he, hb9, hk9⟩; rw [HR1.out] at he; obtain rfl := he; have HB9 := Lib.hid hb9; have HK9 := Lib.hid hk9; clear hb9 hk9)
            go_ret
            exact ⟨by rw [← HRR.out, HR1.out]; rfl, by rw [← HRR.out]; exact HB9.out, HKD.out.trans HK9.out (fun _ _ h => h)⟩
          | false =>
            rw [hr1, if_neg Bool.false_ne_true] at hRS
            have HRR := Lib.hid hRS
            have HR1 := Lib.hid hr1
            clear hRS hr1
            go_wp2_with (go_at_call 84; refine Calls.mono HI2.out ?_; rintro e w9 ⟨he, hb9, hk9⟩; rw [HR1.out] at he; obtain rfl := he; have HB9 := Lib.hid hb9; have HK9 := Lib.hid hk9; clear hb9 hk9)
            go_roundg (m - (c + 1))
            case measure => omega
            case rel => exact ⟨c + 1, r.2, rfl, by omega, by go_num, HLEN.out, HRR.out, HB9.out, HKD.out.trans HK9.out (fun _ _ h => h)⟩
      · have hce : c = m := by omega
        subst hce
        have hjl : ((c : Int) < (c : Int)) = False := by simp
        have hr : R = (false, o) := by
          have h := HRC.out
          rw [List.drop_of_length_le (by simp)] at h
          exact h.symm
        go_wp2
        go_ret
        exact ⟨by rw [hr]; rfl, by rw [hr]; exact HBR.out, HKW.out⟩
end Go.Proofs.YthdkamnclbfehaaGreatDoor
