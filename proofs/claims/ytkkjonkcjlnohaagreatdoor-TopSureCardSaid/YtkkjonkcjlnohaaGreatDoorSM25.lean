/- Facts as they lie in memory; the sort's worlds. -/
import Derived.Test.YtkkjonkcjlnohaaGreatDoorSM24
import Derived.Test.YtkkjonkcjlnohaaGreatDoorSM18
import Derived.Shelf.GgSortFunc.RowK
import Derived.Shelf.SlSortCmp.InsertionK
import Derived.Test.YtkkjonkcjlnohaaGreatDoorSM5

/- Facts as they lie in memory; the sort's worlds. -/
namespace Go.Proofs.YtkkjonkcjlnohaaGreatDoor
set_option linter.unusedSimpArgs false
set_option linter.unusedVariables false
set_option linter.unnecessarySimpa false
open Go.RowKit Go.Sort Go.Proofs

/-- The Args of a fact. -/
def fl (f : Fct) : List Int := [f.1, f.2]
/-- The slices vs are the Args of the facts F. -/
def ArgsOf (w : World) (vs : List Value) (F : List Fct) : Prop := vs.length = F.length ∧ ∀ j, j < F.length → Rd w 1 (vat vs j) 2 (icells (fl (fat F j)))
theorem ArgsOf.keep {w w' : World} {vs : List Value} {F : List Fct} (h : ArgsOf w vs F) (k : Keep (fun _ => False) w w') : ArgsOf w' vs F := ⟨h.1, fun j hj => (h.2 j hj).keep k (fun _ _ h => h)⟩
theorem ArgsOf.shape {w : World} {vs : List Value} {F : List Fct} (h : ArgsOf w vs F) {j : Nat} (hj : j < F.length) : ∃ b o cap, vat vs j = .slice (some ⟨b, o, none⟩) 2 cap ∧ 2 ≤ cap ∧ cap ≤ maxLen ∧ w.cell? ⟨b, o, none⟩ = some (.int .i64 (fat F j).1) ∧ w.cell? ⟨b, o + 1, none⟩ = some (.int .i64 (fat F j).2) := by
  rcases (h.2 j hj).2.2 with ⟨_, h0⟩ | ⟨b, o, cap, hv, h1, h2, hx⟩
  · omega
  · exact ⟨b, o, cap, hv, h1, h2, hx 0 _ rfl, hx 1 _ rfl⟩
/-- A slice of facts. -/
structure FRd (w : World) (v : Value) (vs : List Value) (F : List Fct) : Prop where
  rd : Rd w 2 v F.length (fcells vs)
  ar : ArgsOf w vs F
theorem FRd.keep {w w' : World} {v : Value} {vs : List Value} {F : List Fct} (h : FRd w v vs F) (k : Keep (fun _ => False) w w') : FRd w' v vs F := ⟨h.rd.keep k (fun _ _ h => h), h.ar.keep k⟩
theorem FRd.len {w : World} {v : Value} {vs : List Value} {F : List Fct} (h : FRd w v vs F) : vs.length = F.length := h.ar.1
/-- Good facts: at most twelve, all different, small numbers. -/
structure Good12 (F : List Fct) : Prop where
  len : F.length ≤ 12
  nd : F.Nodup
  rg : ∀ f ∈ F, (1 ≤ f.1 ∧ f.1 ≤ 99) ∧ 1 ≤ f.2 ∧ f.2 ≤ 99
theorem Good12.at {F : List Fct} (h : Good12 F) {j : Nat} (hj : j < F.length) : (1 ≤ (fat F j).1 ∧ (fat F j).1 ≤ 99) ∧ 1 ≤ (fat F j).2 ∧ (fat F j).2 ≤ 99 := h.rg _ (fat_mem hj)
theorem Good12.ne {F : List Fct} (h : Good12 F) {i j : Nat} (hi : i < F.length) (hj : j < F.length) (hne : i ≠ j) : fat F i ≠ fat F j := by
  rw [fat_get hi, fat_get hj]
  have hp := List.pairwise_iff_getElem.1 h.nd
  rcases Nat.lt_trichotomy i j with h | h | h
  · exact hp i j hi hj h
  · exact absurd h hne
  · exact fun e => hp j i hj hi h e.symm
theorem fat_append_lt {F G : List Fct} {j : Nat} (h : j < F.length) : fat (F ++ G) j = fat F j := by simp [fat, List.getD, List.getElem?_append_left h]
theorem fat_append_end {F : List Fct} {f : Fct} : fat (F ++ [f]) F.length = f := by simp [fat, List.getD]
theorem vat_append_lt {F G : List Value} {j : Nat} (h : j < F.length) : vat (F ++ G) j = vat F j := by simp [vat, List.getD, List.getElem?_append_left h]
theorem vat_append_end {F : List Value} {f : Value} : vat (F ++ [f]) F.length = f := by simp [vat, List.getD]
theorem ArgsOf.snoc {w : World} {vs : List Value} {F : List Fct} {v : Value} {f : Fct} (h : ArgsOf w vs F) (hv : Rd w 1 v 2 (icells (fl f))) : ArgsOf w (vs ++ [v]) (F ++ [f]) := by
  refine ⟨by simp [h.1], fun j hj => ?_⟩
  rw [List.length_append, List.length_singleton] at hj
  by_cases e : j = F.length
  · subst e
    rw [fat_append_end, ← h.1, vat_append_end]
    exact hv
  · rw [fat_append_lt (by omega), vat_append_lt (by rw [h.1]; omega)]
    exact h.2 j (by omega)
theorem ArgsOf.nil (w : World) : ArgsOf w [] [] := ⟨rfl, fun j hj => absurd hj (Nat.not_lt_zero _)⟩
theorem sl_one {v : Value} {n : Nat} {w : World} {sz : Nat} {xs : List Value} (h : Rd w sz v n xs) : v.oneCell' = true := by
  obtain ⟨ao, cap, rfl, _⟩ := h.shape
  rfl
theorem ArgsOf.one {w : World} {vs : List Value} {F : List Fct} (h : ArgsOf w vs F) : ∀ v ∈ vs, v.oneCell' = true := by
  intro v hv
  obtain ⟨j, hj, rfl⟩ := List.getElem_of_mem hv
  have := h.2 j (by rw [← h.1]; exact hj)
  have e : vat vs j = vs[j] := by simp [vat, List.getD, hj]
  rw [← e]
  exact sl_one this
/-- The facts in another order. -/
def perm_vs (σ : List Nat) (vs : List Value) : List Value := σ.map (vat vs)
def perm_F (σ : List Nat) (F : List Fct) : List Fct := σ.map (fat F)
theorem perm_fat {σ : List Nat} {F : List Fct} {j : Nat} (hj : j < σ.length) : fat (perm_F σ F) j = fat F (σ.getD j 0) := by simp [fat, perm_F, List.getD, hj]
theorem perm_vat {σ : List Nat} {vs : List Value} {j : Nat} (hj : j < σ.length) : vat (perm_vs σ vs) j = vat vs (σ.getD j 0) := by simp [vat, perm_vs, List.getD, hj]
theorem perm_args {w : World} {vs : List Value} {F : List Fct} {σ : List Nat} (h : ArgsOf w vs F) (hs : σ.Perm (List.range F.length)) : ArgsOf w (perm_vs σ vs) (perm_F σ F) := by
  have hl : σ.length = F.length := by simpa using hs.length_eq
  refine ⟨by simp [perm_vs, perm_F], fun j hj => ?_⟩
  have hj' : j < σ.length := by simpa [perm_F] using hj
  rw [perm_fat hj', perm_vat hj']
  refine h.2 _ ?_
  have hm : σ.getD j 0 ∈ σ := by
    have : σ.getD j 0 = σ[j] := by simp [List.getD, hj']
    rw [this]; exact List.getElem_mem _
  exact List.mem_range.1 (hs.mem_iff.1 hm)
theorem perm_F_perm {F : List Fct} {σ : List Nat} (hs : σ.Perm (List.range F.length)) : (perm_F σ F).Perm F := by
  have h1 : (perm_F σ F).Perm ((List.range F.length).map (fat F)) := hs.map _
  have h2 : (List.range F.length).map (fat F) = F := by
    apply List.ext_getElem
    · simp
    · intro i h1 h2
      simp [fat, List.getD, h2]
  rw [h2] at h1
  exact h1
theorem Good12.perm {F G : List Fct} (h : Good12 F) (p : G.Perm F) : Good12 G := ⟨by rw [p.length_eq]; exact h.len, p.nodup_iff.2 h.nd, fun f hf => h.rg f (p.mem_iff.1 hf)⟩
end Go.Proofs.YtkkjonkcjlnohaaGreatDoor

/- A query of one atom is valid; facts are facts. -/
namespace Go.Proofs.YtkkjonkcjlnohaaGreatDoor
set_option linter.unusedSimpArgs false
set_option linter.unusedVariables false
set_option linter.unnecessarySimpa false
open Go.RowKit

/-- The terms of the atom: a variable 0 or a constant; a constant. -/
structure TOk (t0 t1 : Int) (hd : List Int) : Prop where
  a : t0 = 0 ∨ (-9 ≤ t0 ∧ t0 < 0)
  b : -9 ≤ t1 ∧ t1 < 0
  h : hd = [] ∨ (hd = [0] ∧ t0 = 0)
structure QAt (w : World) (hv bv av : Value) (t0 t1 : Int) (hd : List Int) : Prop where
  h : Rd w 1 hv hd.length (icells hd)
  b : Rd w 2 bv 1 (fcells [av])
  a : Rd w 1 av 2 (icells [t0, t1])
  ok : TOk t0 t1 hd
theorem QAt.keep {w w' : World} {hv bv av : Value} {t0 t1 : Int} {hd : List Int} (q : QAt w hv bv av t0 t1 hd) (k : Keep (fun _ => False) w w') : QAt w' hv bv av t0 t1 hd :=
  ⟨q.h.keep k (fun _ _ h => h), q.b.keep k (fun _ _ h => h), q.a.keep k (fun _ _ h => h), q.ok⟩
theorem term_any {w : World} {x : Int} (hx : -9 ≤ x ∧ x < 8) : Calls Tryz.prog 262 #[.int .i64 x] w fun e w' => e = .returned (.bool false) ∧ Keep (fun _ => False) w w' := by
  have h1 : (x < -9) = False := eq_false (by omega)
  have h2 : ((8 : Int) ≤ x) = False := eq_false (by omega)
  clear hx
  go_enter Tryz.func262, Tryz.ntmps262
  go_wp2
  go_ret
  exact ⟨rfl, Keep.refl _ _⟩
set_option maxHeartbeats 1000000 in
set_option maxRecDepth 100000 in
theorem atomValid_any {w : World} {av : Value} {t0 t1 : Int} {hd : List Int} (ha : Rd w 1 av 2 (icells [t0, t1])) (ht : TOk t0 t1 hd) : Calls Tryz.prog 200 #[.agg #[.int .i64 0, av]] w (IdxPost w (.bool true)) := by
  obtain ⟨ao, cap, hve, _⟩ := ha.shape
  subst hve
  have hp : ∀ W, Keep (fun _ => False) w W → Calls Tryz.prog 143 #[.slice ao 2 cap, .func (.func 262) #[] #[]] W (IdxPost W (.bool false)) := fun W k => by
    have h := containsFunc_any (w := W) (v := .slice ao 2 cap) (l := [t0, t1]) (F := 262) (capt := #[]) (p := fun _ => false) (ha.keep k (fun _ _ h => h)) (enters_of Tryz.func262 (by kernel_rfl) rfl) (fun w1 _ x hx => by
      refine term_any ?_
      have h1 := ht.a
      have h2 := ht.b
      simp only [List.mem_cons, List.not_mem_nil, or_false] at hx
      rcases hx with rfl | rfl <;> omega) (by simp)
    exact h
  have HP := Lib.hid hp
  clear ha ht hp
  go_enter Tryz.func200, Tryz.ntmps200
  go_wp2_with (go_at_call 143; refine (HP.out _ ((Keep.refl _ _).alloc _)).mono ?_; rintro e w1 ⟨rfl, hk⟩; have HK := Lib.hid hk; clear hk)
  go_ret
  exact ⟨rfl, ((Keep.refl _ _).alloc _).trans HK.out (fun _ _ h => h)⟩
theorem qv1_any {w : World} {av : Value} {t0 t1 : Int} {hd : List Int} (ha : Rd w 1 av 2 (icells [t0, t1])) (ht : TOk t0 t1 hd) : Calls Tryz.prog 199 #[.agg #[.int .i64 0, av]] w (IdxPost w (.bool false)) := by
  have HP : Hid (∀ W, Keep (fun _ => False) w W → Calls Tryz.prog 200 #[.agg #[.int .i64 0, av]] W (IdxPost W (.bool true))) := Lib.hid (fun W k => atomValid_any (ha.keep k (fun _ _ h => h)) ht)
  clear ha ht
  go_enter Tryz.func199, Tryz.ntmps199
  go_wp2_with (go_at_call 200; refine (HP.out _ ((Keep.refl _ _).alloc _)).mono ?_; rintro e w1 ⟨rfl, hk⟩; have HK := Lib.hid hk; clear hk)
  go_ret
  exact ⟨rfl, ((Keep.refl _ _).alloc _).trans HK.out (fun _ _ h => h)⟩
def varM (t0 : Int) : Int := if t0 = 0 then 1 else 0
set_option maxHeartbeats 1000000 in
set_option maxRecDepth 100000 in
theorem atomVars_any {w : World} {av : Value} {t0 t1 : Int} {hd : List Int} (ha : Rd w 1 av 2 (icells [t0, t1])) (ht : TOk t0 t1 hd) : Calls Tryz.prog 263 #[.agg #[.int .i64 0, av]] w (IdxPost w (.int .i64 (varM t0))) := by
  obtain ⟨ao, cap, hve, _⟩ := ha.shape
  subst hve
  obtain ⟨b, o, hao, c0⟩ := rd_int ha (k := 0) (by omega)
  obtain ⟨b', o', hao', c1⟩ := rd_int ha (k := 1) (by omega)
  subst hao
  cases hao'
  have hb : b < w.heap.size := World.block_lt_of_cell? _ _ c0
  have k1 : Keep (fun _ => False) w (w.alloc (.cells #[.int .i64 0, .slice (some ⟨b, o, none⟩) 2 cap] 46)) := (Keep.refl _ _).alloc _
  have hc0 : (w.alloc (.cells #[.int .i64 0, .slice (some ⟨b, o, none⟩) 2 cap] 46)).cell? ⟨b, o, none⟩ = some (.int .i64 t0) := (k1.cell (p := ⟨b, o, none⟩) hb (fun h => h)).trans c0
  have hc1 : (w.alloc (.cells #[.int .i64 0, .slice (some ⟨b, o, none⟩) 2 cap] 46)).cell? ⟨b, o + 1, none⟩ = some (.int .i64 t1) := (k1.cell (p := ⟨b, o + 1, none⟩) hb (fun h => h)).trans c1
  have HK := Lib.hid k1
  obtain ⟨W, hW⟩ : ∃ W, W = w.alloc (.cells #[.int .i64 0, .slice (some ⟨b, o, none⟩) 2 cap] 46) := ⟨_, rfl⟩
  have hb1 : ((0 : Int) ≤ t1) = False := eq_false (by have := ht.b; omega)
  have hta := ht.a
  have HTA := Lib.hid hta
  clear ha ht k1 c0 c1 hta hb
  go_enter Tryz.func263, Tryz.ntmps263
  go_wp2
  go_loopw [3, 9] (fun m i wr => ((m = .int .i64 0 ∧ i = .int .i64 0) ∨ (m = .int .i64 (varM t0) ∧ i = .int .i64 1) ∨ (m = .int .i64 (varM t0) ∧ i = .int .i64 2)) ∧ wr = w.alloc (.cells #[.int .i64 0, .slice (some ⟨b, o, none⟩) 2 cap] 46)) (fun _ i _ => 2 - (intOf i).toNat)
  case atStart => exact ⟨.inl ⟨rfl, rfl⟩, rfl⟩
  case round =>
    obtain ⟨⟨rfl, rfl⟩ | ⟨rfl, rfl⟩ | ⟨rfl, rfl⟩, rfl⟩ := hrel
    · by_cases h0 : t0 = 0
      · subst h0
        go_wp2
        go_roundw
        case rel => exact ⟨.inr (.inl ⟨rfl, rfl⟩), by first | rfl | trivial⟩
        case measure => simp [intOf]
      · have hn0 : ((0 : Int) ≤ t0) = False := eq_false (by have := HTA.out; omega)
        have hv : varM t0 = 0 := by unfold varM; rw [if_neg h0]
        have HV := Lib.hid hv
        clear h0 hv
        go_wp2
        go_roundw
        case rel => exact ⟨.inr (.inl ⟨by rw [HV.out], rfl⟩), by first | rfl | trivial⟩
        case measure => simp [intOf]
    · go_wp2
      go_roundw
      case rel => exact ⟨.inr (.inr ⟨rfl, rfl⟩), by first | rfl | trivial⟩
      case measure => simp [intOf]
    · go_wp2
      go_ret
      exact ⟨rfl, HK.out⟩
set_option maxHeartbeats 1000000 in
set_option maxRecDepth 100000 in
theorem qvars_any {w : World} {hv bv av : Value} {t0 t1 : Int} {hd : List Int} (q : QAt w hv bv av t0 t1 hd) : Calls Tryz.prog 201 #[.agg #[hv, bv]] w (IdxPost w (.int .i64 (varM t0))) := by
  obtain ⟨ho, hc, hhe, _⟩ := q.h.shape
  obtain ⟨b, o, cap, hbe, _, _⟩ := rd_fc q.b (k := 0) (by omega)
  obtain ⟨ao, ac, hae, _⟩ := q.a.shape
  subst hhe hbe hae
  have HQ := Lib.hid q; clear q
  have HA : Hid (∀ W, Keep (fun _ => False) w W → Calls Tryz.prog 263 #[.agg #[.int .i64 0, .slice ao 2 ac]] W (IdxPost W (.int .i64 (varM t0)))) := Lib.hid (fun W k => atomVars_any (HQ.out.a.keep k (fun _ _ h => h)) HQ.out.ok)
  have hm : varM t0 = 0 ∨ varM t0 = 1 := by unfold varM; split <;> simp
  have HM := Lib.hid hm; clear hm
  obtain ⟨mm, hmm⟩ : ∃ m, varM t0 = m := ⟨_, rfl⟩
  rw [hmm] at HM HA ⊢
  clear hmm
  go_enter Tryz.func201, Tryz.ntmps201
  go_wp2
  go_loopw [3, 9] (fun m i wr => ((m = .int .i64 0 ∧ i = .int .i64 0) ∨ (m = .int .i64 mm ∧ i = .int .i64 1)) ∧ Keep (fun _ => False) w wr) (fun _ i _ => 1 - (intOf i).toNat)
  case atStart => exact ⟨.inl ⟨rfl, rfl⟩, (Keep.refl _ _).alloc _⟩
  case round =>
    obtain ⟨⟨rfl, rfl⟩ | ⟨rfl, rfl⟩, hk⟩ := hrel
    · have HK := Lib.hid hk; clear hk
      obtain ⟨b', o', cap', hbe, c0, c1⟩ := rd_fc (HQ.out.b.keep HK.out (fun _ _ h => h)) (k := 0) (by omega)
      cases hbe
      have c0' : wr.cell? ⟨b, o, none⟩ = some (.int .i64 0) := by simpa using c0
      have c1' : wr.cell? ⟨b, o + 1, none⟩ = some (.slice ao 2 ac) := by simpa [vat] using c1
      clear c0 c1
      rcases HM.out with rfl | rfl
      · go_wp2_with (go_at_call 263; refine (HA.out _ (HK.out.alloc _)).mono ?_; rintro e w1 ⟨rfl, hk⟩; have HK1 := Lib.hid hk; clear hk)
        go_roundw
        case rel => exact ⟨.inr ⟨rfl, rfl⟩, (HK.out.alloc _).trans HK1.out (fun _ _ h => h)⟩
        case measure => simp [intOf]
      · go_wp2_with (go_at_call 263; refine (HA.out _ (HK.out.alloc _)).mono ?_; rintro e w1 ⟨rfl, hk⟩; have HK1 := Lib.hid hk; clear hk)
        go_roundw
        case rel => exact ⟨.inr ⟨rfl, rfl⟩, (HK.out.alloc _).trans HK1.out (fun _ _ h => h)⟩
        case measure => simp [intOf]
    · have HK := Lib.hid hk; clear hk
      go_wp2
      go_ret
      exact ⟨rfl, HK.out⟩
theorem qv2_any {w : World} {b : Nat} (hb : w.cell? ⟨b, 0, none⟩ = some (.int .i64 1)) : Calls Tryz.prog 202 #[.int .i64 0, .pointer (some ⟨b, 0, none⟩)] w fun e w' => e = .returned (.bool false) ∧ Keep (fun _ => False) w w' := by
  go_enter Tryz.func202, Tryz.ntmps202
  go_wp2
  go_ret
  exact ⟨rfl, Keep.refl _ _⟩
set_option maxHeartbeats 2000000 in
set_option maxRecDepth 100000 in
theorem qvalid_any {w : World} {hv bv av : Value} {t0 t1 : Int} {hd : List Int} (q : QAt w hv bv av t0 t1 hd) : Calls Tryz.prog 132 #[.agg #[hv, bv]] w (IdxPost w (.bool true)) := by
  have HQ := Lib.hid q; clear q
  obtain ⟨ho, hc, hhe, _⟩ := HQ.out.h.shape
  obtain ⟨b, o, cap, hbe, _, _⟩ := rd_fc HQ.out.b (k := 0) (by omega)
  subst hhe hbe
  have HB : Hid (∀ W, Keep (fun _ => False) w W → Calls Tryz.prog 198 #[.slice (some ⟨b, o, none⟩) 1 cap, .func (.func 199) #[] #[]] W (IdxPost W (.bool false))) := Lib.hid (fun W k => by
    have h := contA_any (w := W) (v := .slice (some ⟨b, o, none⟩) 1 cap) (vs := [av]) (F := 199) (capt := #[]) (q := fun _ => false) (HQ.out.b.keep k (fun _ _ h => h)) (enters_of Tryz.func199 (by kernel_rfl) rfl) (fun w1 k1 j hj => by
      have hj0 : j = 0 := by simpa using hj
      subst hj0
      exact qv1_any (HQ.out.a.keep (k.trans k1 (fun _ _ h => h)) (fun _ _ h => h)) HQ.out.ok) (by simp)
    exact h)
  have HV : Hid (∀ W, Keep (fun _ => False) w W → Calls Tryz.prog 201 #[.agg #[.slice ho hd.length hc, .slice (some ⟨b, o, none⟩) 1 cap]] W (IdxPost W (.int .i64 (varM t0)))) := Lib.hid (fun W k => qvars_any (HQ.out.keep k))
  have HH : Hid (∀ (W : World) (g : Nat), Keep (fun _ => False) w W → W.cell? ⟨g, 0, none⟩ = some (.int .i64 (varM t0)) → Calls Tryz.prog 143 #[.slice ho hd.length hc, .func (.func 202) #[] #[.pointer (some ⟨g, 0, none⟩)]] W (IdxPost W (.bool false))) := Lib.hid (fun W g k hg => by
    have h := containsFunc_any (w := W) (v := .slice ho hd.length hc) (l := hd) (F := 202) (capt := #[.pointer (some ⟨g, 0, none⟩)]) (p := fun _ => false) (HQ.out.h.keep k (fun _ _ h => h)) (enters_of Tryz.func202 (by kernel_rfl) rfl) (fun w1 k1 x hx => by
      rcases HQ.out.ok.h with e | ⟨e, e2⟩
      · rw [e] at hx; cases hx
      · rw [e] at hx
        rw [List.mem_singleton.1 hx]
        refine qv2_any ?_
        rw [k1.cell (p := ⟨g, 0, none⟩) (World.block_lt_of_cell? _ _ hg) (fun h => h), hg, e2]
        rfl) (by rcases HQ.out.ok.h with e | ⟨e, _⟩ <;> rw [e] <;> simp)
    rw [show hd.any (fun _ => false) = false by simp] at h
    exact h)
  have hl4 : hd.length ≤ 1 := by rcases HQ.out.ok.h with e | ⟨e, _⟩ <;> rw [e] <;> simp
  have h4 : ((4 : Int) < (hd.length : Int)) = False := eq_false (by omega)
  obtain ⟨mm, hmm⟩ : ∃ m, varM t0 = m := ⟨_, rfl⟩
  obtain ⟨hn, hhn⟩ : ∃ m, hd.length = m := ⟨_, rfl⟩
  rw [hmm] at HV HH
  rw [hhn] at HV HH h4 ⊢
  clear hmm hhn hl4 HQ
  go_enter Tryz.func132, Tryz.ntmps132
  go_wp2_with (first
    | (go_at_call 198; refine (HB.out _ ((Keep.refl _ _).alloc _)).mono ?_; rintro e w1 ⟨rfl, hk⟩; have HK1 := Lib.hid (((Keep.refl _ w).alloc _).trans hk (fun _ _ h => h)); have hbx := (Blk.new w #[.slice ho hn hc, .slice (some ⟨b, o, none⟩) 1 cap] 49).keep hk (fun h => h); have HBX := Lib.hid hbx; have c0 := hbx.cell 0; have c1 := hbx.cell 1; simp at c0 c1; clear hbx hk)
    | (go_at_call 201; refine (HV.out _ HK1.out).mono ?_; rintro e w2 ⟨rfl, hk⟩; have HK2 := Lib.hid (HK1.out.trans hk (fun _ _ h => h)); have hbx2 := (HBX.out.keep hk (fun h => h)).alloc (.cells #[.int .i64 mm] 3); have d0 := hbx2.cell 0; simp at d0; clear hk hbx2)
    | (go_at_call 143; refine (HH.out _ _ (HK2.out.alloc _) (by rw [World.cell?_alloc_new]; rfl)).mono ?_; rintro e w3 ⟨rfl, hk⟩; have HK3 := Lib.hid ((HK2.out.alloc _).trans hk (fun _ _ h => h)); clear hk))
  go_ret
  exact ⟨rfl, HK3.out⟩
/- facts -/
set_option maxHeartbeats 1000000 in
set_option maxRecDepth 100000 in
theorem isF1_any {w : World} {v : Value} {f : Fct} (hv : Rd w 1 v 2 (icells (fl f))) (hr : (1 ≤ f.1 ∧ f.1 ≤ 99) ∧ 1 ≤ f.2 ∧ f.2 ≤ 99) : Calls Tryz.prog 203 #[.agg #[.int .i64 0, v]] w (IdxPost w (.bool false)) := by
  obtain ⟨ao, cap, hve, _⟩ := hv.shape
  subst hve
  have hrg : ∀ r, r ∈ fl f → 1 ≤ r ∧ r ≤ 99 := fun r h => by
    simp only [fl, List.mem_cons, List.not_mem_nil, or_false] at h
    rcases h with rfl | rfl <;> omega
  have HMN : Hid (∀ W, Keep (fun _ => False) w W → Calls Tryz.prog 86 #[.slice ao 2 cap] W (OneOf W (fl f))) := Lib.hid (fun W k => minI_any (hv.keep k (fun _ _ h => h)) (by simp [fl]) (by simp [fl]))
  have HMX : Hid (∀ W, Keep (fun _ => False) w W → Calls Tryz.prog 87 #[.slice ao 2 cap] W (OneOf W (fl f))) := Lib.hid (fun W k => maxI_any (hv.keep k (fun _ _ h => h)) (by simp [fl]) (by simp [fl]))
  have HR := Lib.hid hrg
  clear hv hr hrg
  go_enter Tryz.func203, Tryz.ntmps203
  go_wp2_with (first
    | (go_at_call 86; refine (HMN.out _ ((Keep.refl _ _).alloc _)).mono ?_; rintro e w1 ⟨r1, rfl, hm1, rfl⟩; have hlo : (r1 < 1) = False := eq_false (by have := HR.out r1 hm1; omega); have HM1 := Lib.hid hm1; clear hm1)
    | (go_at_call 87; refine (HMX.out _ ((Keep.refl _ _).alloc _)).mono ?_; rintro e w2 ⟨r2, rfl, hm2, rfl⟩; have hhi : (99 < r2) = False := eq_false (by have := HR.out r2 hm2; omega); have HM2 := Lib.hid hm2; clear hm2))
  go_ret
  exact ⟨rfl, (Keep.refl _ _).alloc _⟩
theorem isFacts_any {w : World} {v : Value} {vs : List Value} {F : List Fct} (hv : FRd w v vs F) (hg : Good12 F) : Calls Tryz.prog 133 #[v] w (IdxPost w (.bool true)) := by
  obtain ⟨ao, cap, hve, _⟩ := hv.rd.shape
  subst hve
  have h := contF_any (w := w) (v := .slice ao F.length cap) (vs := vs) (F := 203) (capt := #[]) (q := fun _ => false) (by rw [hv.len]; exact hv.rd) (enters_of Tryz.func203 (by kernel_rfl) rfl) (fun w1 k1 j hj => by
    have hj' : j < F.length := by rw [← hv.len]; exact hj
    exact isF1_any ((hv.keep k1).ar.2 j hj') (hg.at hj')) (by rw [hv.len]; have := hg.len; omega)
  rw [anyQ_false (fun _ _ => rfl)] at h
  have H := Lib.hid h
  have hl : ((F.length : Int) ≤ 24) = True := eq_true (by have := hg.len; omega)
  obtain ⟨n, hn⟩ : ∃ n, F.length = n := ⟨_, rfl⟩
  rw [hn] at H hl ⊢
  clear hv hg h hn
  go_enter Tryz.func133, Tryz.ntmps133
  go_wp2_with (go_at_call 9; refine H.out.mono ?_; rintro e w1 ⟨rfl, hk⟩; have HK := Lib.hid hk; clear hk)
  go_ret
  exact ⟨rfl, HK.out⟩
end Go.Proofs.YtkkjonkcjlnohaaGreatDoor
