/- match.once at facts that are all different: the same facts in some order. -/
import Derived.Test.YtkkjonkcjlnohaaGreatDoorSM25
import Derived.Test.YtkkjonkcjlnohaaGreatDoorSM26

/- match.once at facts that are all different: the same facts in some order. -/
namespace Go.Proofs.YtkkjonkcjlnohaaGreatDoor
set_option linter.unusedSimpArgs false
set_option linter.unusedVariables false
set_option linter.unnecessarySimpa false
open Go.RowKit Go.Sort Go.Proofs

theorem cmpE_fl (f g : Fct) : cmpE (fl f) (fl g) = if cmpI f.1 g.1 ≠ 0 then cmpI f.1 g.1 else cmpI f.2 g.2 := by
  unfold fl
  simp only [cmpE]
  split
  · rfl
  · by_cases h : cmpI f.2 g.2 = 0 <;> simp [h]
theorem cmpI_neg {x y : Int} : cmpI x y < 0 ↔ x < y := by
  unfold cmpI
  split
  · simp; omega
  · split
    · simp; omega
    · simp; omega
theorem cmpE_lt (f g : Fct) : cmpE (fl f) (fl g) < 0 ↔ (f.1 < g.1 ∨ (f.1 = g.1 ∧ f.2 < g.2)) := by
  rw [cmpE_fl]
  by_cases h : cmpI f.1 g.1 = 0
  · rw [if_neg (by simpa using h), cmpI_neg]
    have := cmpI_zero.1 h
    constructor
    · intro q; exact .inr ⟨this, q⟩
    · rintro (q | ⟨_, q⟩)
      · omega
      · exact q
  · rw [if_pos h, cmpI_neg]
    have hne : f.1 ≠ g.1 := fun e => h (cmpI_zero.2 e)
    constructor
    · intro q; exact .inl q
    · rintro (q | ⟨q, _⟩)
      · exact q
      · exact absurd q hne
theorem cmpE_ne {f g : Fct} (h : f ≠ g) : cmpE (fl f) (fl g) ≠ 0 := by
  rw [cmpE_fl]
  intro e
  split at e
  · rename_i h1; exact h1 e
  · rename_i h1
    have h1' : cmpI f.1 g.1 = 0 := by simpa using h1
    exact h (Prod.ext (cmpI_zero.1 h1') (cmpI_zero.1 e))
def cfF (F : List Fct) {n : Nat} (x y : Fin n) : Int := cmpE (fl (fat F x.val)) (fl (fat F y.val))
theorem swoF (F : List Fct) (n : Nat) : SWO (ltOf (cfF F (n := n))) where
  irrefl x := by unfold ltOf cfF; rw [decide_eq_false_iff_not, cmpE_lt]; omega
  trans x y z h1 h2 := by unfold ltOf cfF at *; rw [decide_eq_true_iff, cmpE_lt] at *; omega
  ntrans x y z h1 h2 := by unfold ltOf cfF at *; rw [decide_eq_false_iff_not, cmpE_lt] at *; omega
def encFt (vs : List Value) {n : Nat} (x : Fin n) : List Value := [.int .i64 0, vat vs x.val]
def allN (n : Nat) : Array (Fin n) := Array.ofFn id
theorem allN_size (n : Nat) : (allN n).size = n := by simp [allN]
theorem ext_all {α : Type} (d : Array α) {n : Nat} (h : d.size = n) : d.extract 0 n = d := by subst h; exact Array.extract_size
theorem allN_list (n : Nat) : (allN n).toList.map (·.val) = List.range n := by
  apply List.ext_getElem
  · simp [allN]
  · intro i h1 h2
    simp [allN]
theorem flatK_all {m : Nat} {vs : List Value} (h : vs.length = m + 1) : flatK (encFt vs) 2 (allN (m + 1)) = (fcells vs).toArray := by
  refine ext_get! (by rw [size_flatK, allN_size]; simp [fcells_length, h]) fun t ht => ?_
  have ht' : t < (m + 1) * 2 := by rw [size_flatK, allN_size] at ht; exact ht
  rw [get_flatK _ _ _ _ (by rw [allN_size]; exact ht')]
  have hj : t / 2 < m + 1 := by omega
  have e1 : (allN (m + 1))[t / 2]! = ⟨t / 2, hj⟩ := by
    rw [getElem!_pos _ _ (by rw [allN_size]; exact hj)]
    simp [allN]
  rw [e1]
  obtain ⟨f1, f2⟩ := fcells_at vs (t / 2) (by omega)
  rcases Nat.mod_two_eq_zero_or_one t with h0 | h0
  · rw [h0]
    have e2 : t = t / 2 * 2 := by omega
    conv => rhs; rw [e2]
    simp [encFt, f1]
  · rw [h0]
    have e2 : t = t / 2 * 2 + 1 := by omega
    conv => rhs; rw [e2]
    simp [encFt, f2]
theorem sortK_keep {α : Type} [Inhabited α] {enc : α → List Value} {w : World} {g n off : Nat} {os : Array Obj} {d : Array α} (hg : g < w.heap.size) : Keep (fun k => k = g) w (sortWorldK enc 2 w g off n d os) := by
  refine ⟨rfl, rfl, rfl, by simp [sortWorldK, putRowK, grow, putRow, mapBlock, Sort.ahead], fun k hk hne => ?_⟩
  unfold sortWorldK putRowK
  rw [heap_grow_old _ _ (by simpa using hk)]
  have : ¬ g = k := fun e => hne e.symm
  simp [putRow, mapBlock, Sort.ahead, Array.getElem?_modify, this]
theorem sortK_holds {α : Type} [Inhabited α] {enc : α → List Value} {w : World} {g n : Nat} {os : Array Obj} {d0 d : Array α} (hg : g < w.heap.size) (h : HoldsK enc 2 w g 0 d0) (hs : d.size = d0.size) : HoldsK enc 2 (sortWorldK enc 2 w g 0 n d os) g 0 d := by
  unfold sortWorldK
  refine holdsK_grow _ _ _ _ _ _ _ (by simpa [putRowK, putRow, mapBlock, Sort.ahead] using hg) ?_
  exact holdsK_putRowK _ _ _ _ _ _ _ (holdsK_ahead _ _ _ n _ _ _ h) hs
theorem o1_any {w : World} {u v : Value} {f g : Fct} (hu : Rd w 1 u 2 (icells (fl f))) (hv : Rd w 1 v 2 (icells (fl g))) (hne : f ≠ g) :
    Calls Tryz.prog 267 #[.agg #[.int .i64 0, u], .agg #[.int .i64 0, v]] w fun e w' => e = .returned (.bool false) ∧ Keep (fun _ => False) w w' := by
  obtain ⟨ao, cap, hue, _⟩ := hu.shape
  obtain ⟨bo, cap2, hve, _⟩ := hv.shape
  subst hue hve
  have HC : Hid (∀ W : World, Keep (fun _ => False) w W → Calls Tryz.prog 265 #[.agg #[.int .i64 0, .slice ao 2 cap], .agg #[.int .i64 0, .slice bo 2 cap2]] W (GrowPost W (.int .i64 (cmpE (fl f) (fl g))))) :=
    Lib.hid (fun W k => compare_any (hu.keep k (fun _ _ h => h)) (hv.keep k (fun _ _ h => h)) rfl (by simp [fl]))
  have hr0 := cmpE_ne hne
  obtain ⟨r, hr⟩ : ∃ r, cmpE (fl f) (fl g) = r := ⟨_, rfl⟩
  rw [hr] at HC hr0
  have h0 : (r == 0) = false := by simpa using hr0
  clear hu hv hne hr hr0
  go_enter Tryz.func267, Tryz.ntmps267
  go_wp2_with (go_at_call 265; refine (HC.out _ (((Keep.refl _ _).alloc _).alloc _)).mono ?_; rintro e w1 ⟨rfl, hk⟩; have HK := Lib.hid hk; clear hk)
  go_ret
  exact ⟨rfl, (((Keep.refl _ w).alloc _).alloc _).trans HK.out.keep (fun _ _ h => h)⟩
def OncePost (w : World) (vs : List Value) (F : List Fct) (e : Ending) (w' : World) : Prop :=
  ∃ (v' : Value) (σ : List Nat), e = .returned v' ∧ σ.Perm (List.range F.length) ∧ FRd w' v' (perm_vs σ vs) (perm_F σ F) ∧ Keep (fun _ => False) w w'
set_option maxHeartbeats 1000000 in
set_option maxRecDepth 100000 in
theorem once_any {w : World} {v : Value} {vs : List Value} {F : List Fct} (hv : FRd w v vs F) (hg : Good12 F) : Calls Tryz.prog 204 #[v] w (OncePost w vs F) := by
  have HCL := Lib.hid (cloneF_any hv.rd (by have := hg.len; omega))
  have HV := Lib.hid hv
  have HG := Lib.hid hg
  have hfl := hv.len
  obtain ⟨n, hn⟩ : ∃ n, F.length = n := ⟨_, rfl⟩
  rw [hn] at hfl HCL
  have hn12 : n ≤ 12 := by rw [← hn]; exact hg.len
  have HN := Lib.hid hn
  clear hv hg hn
  cases n with
  | zero =>
    have hF : F = [] := List.eq_nil_of_length_eq_zero HN.out
    have hvs : vs = [] := List.eq_nil_of_length_eq_zero hfl
    subst hF hvs
    clear hfl
    have HX : Hid (∀ (W : World) (u : Value), Rd W 2 u 0 (fcells []) → Calls Tryz.prog 266 #[u, .func (.func 267) #[] #[]] W (IdxPost W u)) := Lib.hid (fun W u h => compactF_any (vs := []) (F := 267) h (enters_of Tryz.func267 (by kernel_rfl) rfl) (fun _ _ j hj => absurd hj (by simp)) (by simp))
    go_enter Tryz.func204, Tryz.ntmps204
    go_wp2_with (first
      | (go_at_call 264; refine HCL.out.mono ?_; rintro e w1 ⟨v1, rfl, ho1, hk1⟩; obtain ⟨a1, cp1, rfl, _⟩ := ownsRow_shape ho1; have HO1 := Lib.hid ho1; have HK1 := Lib.hid hk1; clear ho1 hk1)
      | (go_at_call 164; refine (Tryz.sortF_none _ _ _ _).mono ?_; rintro e w2 ⟨rfl, rfl⟩)
      | (go_at_call 266; refine (HX.out _ _ (ownsRow_rd HO1.out (by simp [fcells]))).mono ?_; rintro e w3 ⟨rfl, hk3⟩; have HK3 := Lib.hid hk3; clear hk3))
    go_ret
    exact ⟨_, [], rfl, List.Perm.refl _, ⟨(ownsRow_rd HO1.out (by simp [fcells])).keep HK3.out (fun _ _ h => h), ArgsOf.nil _⟩, HK1.out.trans HK3.out (fun _ _ h => h)⟩
  | succ m =>
    have eg : ∀ args w, (callFunc 265 args).run Tryz.prog w = .ok (.enter 265 args) w := enters_of Tryz.func265 (by kernel_rfl) rfl
    have hone : ∀ u ∈ fcells vs, u.oneCell' = true := fcells_one HV.out.ar.one
    have HONE := Lib.hid hone
    -- the sort
    have HS : Hid (∀ (W : World) (g cp : Nat), Keep (fun _ => False) w W → w.heap.size ≤ g → g < W.heap.size → Rd W 2 (.slice (some ⟨g, 0, none⟩) (m + 1) cp) (m + 1) (fcells vs) → (∀ t, W.frozen? ⟨g, t, none⟩ = false) →
        Calls Tryz.prog 164 #[.slice (some ⟨g, 0, none⟩) (m + 1) cp, .func (.func 265) #[] #[]] W fun e w' => e = .returned (.tuple #[]) ∧ ∃ σ : List Nat, σ.Perm (List.range (m + 1)) ∧ Rd w' 2 (.slice (some ⟨g, 0, none⟩) (m + 1) cp) (m + 1) (fcells (perm_vs σ vs)) ∧ Keep (fun _ => False) w w') := Lib.hid (fun W g cp kW hg1 hg2 hr hfz => by
      have hHK : HoldsK (encFt vs) 2 W g 0 (allN (m + 1)) := by
        unfold HoldsK
        rw [flatK_all hfl]
        intro t ht
        have ht' : t < (fcells vs).length := by simpa using ht
        refine ⟨?_, hfz _⟩
        rcases hr.2.2 with ⟨h, _⟩ | ⟨b, o, c, h, _, _, hx⟩
        · cases h
        · cases h
          rw [hx t _ (List.getElem?_eq_getElem ht')]
          simp [ht']
      have hcmp : CmpLays Tryz.prog 265 #[] (encFt vs) 2 (cfF F (n := m + 1)) g 0 (allN (m + 1)).size W := by
        intro q os dk hs x y
        have kk : Keep (fun _ => False) w (sortWorldK (encFt vs) 2 W g 0 q dk os) := kW.trans (sortK_keep hg2) (fun k hk e => by omega)
        have ha := HV.out.ar.keep kk
        have h := compare_any (w := sortWorldK (encFt vs) 2 W g 0 q dk os) (ha.2 x.val (by rw [HN.out]; exact x.isLt)) (ha.2 y.val (by rw [HN.out]; exact y.isLt)) rfl (by simp [fl])
        refine h.mono ?_
        rintro e w1 ⟨rfl, q2, os2, rfl⟩
        exact ⟨rfl, q2, os2, rfl⟩
      have h := Tryz.sortF_any (encFt vs) (fun _ => rfl) (fun x v hv => by
        simp only [encFt, List.mem_cons, List.not_mem_nil, or_false] at hv
        rcases hv with rfl | rfl
        · rfl
        · exact sl_one (HV.out.ar.2 x.val (by rw [HN.out]; exact x.isLt))) (cfF F (n := m + 1)) (swoF F (m + 1)) 265 #[] g 0 cp (allN (m + 1)) W eg hcmp hHK hg2 (by rw [allN_size]; omega)
      rw [allN_size] at h
      refine h.mono ?_
      rintro e w1 ⟨rfl, d', q, os, hp, _, rfl⟩
      refine ⟨rfl, d'.toList.map (·.val), ?_, ?_, kW.trans (sortK_keep hg2) (fun k hk e => by omega)⟩
      · have h2 := hp.2.2
        have e1 : (d'.extract 0 (m + 1)) = d' := ext_all d' (by rw [hp.1, allN_size])
        have e2 : ((allN (m + 1)).extract 0 (m + 1)) = allN (m + 1) := ext_all _ (allN_size _)
        rw [e1, e2] at h2
        have h3 := h2.map (·.val)
        rw [allN_list] at h3
        exact h3
      · have hd : d'.size = m + 1 := by rw [hp.1, allN_size]
        have hh := sortK_holds (n := q) (os := os) hg2 hHK (show d'.size = (allN (m + 1)).size from hp.1)
        refine ⟨by rw [fcells_length]; simp [perm_vs, hd], fcells_one ?_, .inr ⟨g, 0, cp, rfl, ?_, ?_, fun j u hu => ?_⟩⟩
        · intro u hu
          obtain ⟨s, hs, rfl⟩ := List.mem_map.1 hu
          obtain ⟨x, _, rfl⟩ := List.mem_map.1 hs
          exact sl_one (HV.out.ar.2 x.val (by rw [HN.out]; exact x.isLt))
        · rcases hr.2.2 with ⟨h, _⟩ | ⟨b, o, c, h, h1, h2, hx⟩
          · cases h
          · cases h; exact h1
        · rcases hr.2.2 with ⟨h, _⟩ | ⟨b, o, c, h, h1, h2, hx⟩
          · cases h
          · cases h; exact h2
        · have hjl : j < (fcells (perm_vs (d'.toList.map (·.val)) vs)).length := (List.getElem?_eq_some_iff.1 hu).1
          rw [fcells_length] at hjl
          have hj2 : j / 2 < m + 1 := by simp [perm_vs, hd] at hjl; omega
          have hpv : (perm_vs (d'.toList.map (·.val)) vs).length = m + 1 := by simp [perm_vs, hd]
          obtain ⟨f1, f2⟩ := fcells_at (perm_vs (d'.toList.map (·.val)) vs) (j / 2) (by omega)
          have hvt : vat (perm_vs (d'.toList.map (·.val)) vs) (j / 2) = vat vs (d'[j / 2]!).val := by
            rw [perm_vat (by simp [hd]; exact hj2)]
            congr 1
            rw [getElem!_pos d' (j / 2) (by omega)]
            simp [List.getD, hd, hj2]
          rcases Nat.mod_two_eq_zero_or_one j with h0 | h0
          · have e2 : j = j / 2 * 2 := by omega
            have c := (hh.cell (i := j / 2) (c := 0) (by omega) (by omega)).1
            rw [e2, f1] at hu
            rw [show 0 + j = 0 + j / 2 * 2 + 0 by omega, c, ← hu]
            rfl
          · have e2 : j = j / 2 * 2 + 1 := by omega
            have c := (hh.cell (i := j / 2) (c := 1) (by omega) (by omega)).1
            rw [e2, f2, hvt] at hu
            rw [show 0 + j = 0 + j / 2 * 2 + 1 by omega, c, ← hu]
            rfl)
    have HX : Hid (∀ (W : World) (u : Value) (σ : List Nat), Keep (fun _ => False) w W → σ.Perm (List.range (m + 1)) → Rd W 2 u (m + 1) (fcells (perm_vs σ vs)) → Calls Tryz.prog 266 #[u, .func (.func 267) #[] #[]] W (IdxPost W u)) := Lib.hid (fun W u σ kW hs h => by
      have hl : σ.length = m + 1 := by simpa using hs.length_eq
      have hpv : (perm_vs σ vs).length = m + 1 := by simp [perm_vs, hl]
      have hpa := perm_args HV.out.ar (σ := σ) (by rw [HN.out]; exact hs)
      have hgp := HG.out.perm (perm_F_perm (σ := σ) (F := F) (by rw [HN.out]; exact hs))
      have hpf : (perm_F σ F).length = m + 1 := by simp [perm_F, hl]
      refine compactF_any (vs := perm_vs σ vs) (F := 267) (by rw [hpv]; exact h) (enters_of Tryz.func267 (by kernel_rfl) rfl) (fun W2 k2 j hj => ?_) (by omega)
      rw [hpv] at hj
      have ha := hpa.keep (kW.trans k2 (fun _ _ h => h))
      exact o1_any (ha.2 (j + 1) (by omega)) (ha.2 j (by omega)) (hgp.ne (by omega) (by omega) (by omega)))
    clear hone
    go_enter Tryz.func204, Tryz.ntmps204
    go_wp2_with (first
      | (go_at_call 264; refine HCL.out.mono ?_; rintro e w1 ⟨v1, rfl, ho1, hk1⟩; obtain ⟨g, cp, rfl, hr1, hg1, hg2, hfz⟩ : ∃ g cp, v1 = .slice (some ⟨g, 0, none⟩) (m + 1) cp ∧ Rd w1 2 (.slice (some ⟨g, 0, none⟩) (m + 1) cp) (m + 1) (fcells vs) ∧ w.heap.size ≤ g ∧ g < w1.heap.size ∧ (∀ t, w1.frozen? ⟨g, t, none⟩ = false) := (by
          have hr := ownsRow_rd ho1 HONE.out
          rcases ho1.2 with ⟨_, h⟩ | ⟨g, cp, cur, rfl, hb, hgg, _⟩
          · omega
          · exact ⟨g, cp, rfl, hr, hb, (Array.getElem?_eq_some_iff.1 hgg).1, fun t => by simp [World.frozen?, hgg]⟩)
         have HSS := Lib.hid (HS.out _ g cp hk1 hg1 hg2 hr1 hfz); clear ho1 hk1 hr1 hg1 hg2 hfz)
      | (go_at_call 164; refine HSS.out.mono ?_; rintro e w2 ⟨rfl, σ, hs, hr2, hk2⟩; have HSG := Lib.hid hs; have HR2 := Lib.hid hr2; have HK2 := Lib.hid hk2; clear hs hr2 hk2)
      | (go_at_call 266; refine (HX.out _ _ σ HK2.out HSG.out HR2.out).mono ?_; rintro e w3 ⟨rfl, hk3⟩; have HK3 := Lib.hid hk3; clear hk3))
    go_ret
    have hl : σ.length = m + 1 := by simpa using HSG.out.length_eq
    refine ⟨_, σ, rfl, by rw [HN.out]; exact HSG.out, ⟨?_, (perm_args HV.out.ar (σ := σ) (by rw [HN.out]; exact HSG.out)).keep (HK2.out.trans HK3.out (fun _ _ h => h))⟩, HK2.out.trans HK3.out (fun _ _ h => h)⟩
    have e : (perm_F σ F).length = m + 1 := by simp [perm_F, hl]
    rw [e]
    exact HR2.out.keep HK3.out (fun _ _ h => h)
end Go.Proofs.YtkkjonkcjlnohaaGreatDoor
