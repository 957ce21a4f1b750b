/- match.Query.matches at one atom and facts that are all different. -/
import Derived.Test.YtkkjonkcjlnohaaGreatDoorSM27
import Derived.Test.YtkkjonkcjlnohaaGreatDoorSM29

/- match.Query.matches at one atom and facts that are all different. -/
namespace Go.Proofs.YtkkjonkcjlnohaaGreatDoor
set_option linter.unusedSimpArgs false
set_option linter.unusedVariables false
set_option linter.unnecessarySimpa false
open Go.RowKit

def vcells (xs : List Int) : List Value := xs.flatMap fun x => (zc x).toList
theorem vcells_length (xs : List Int) : (vcells xs).length = xs.length * 8 := by
  induction xs with
  | nil => rfl
  | cons a l ih => show ((zc a).toList ++ vcells l).length = _; rw [List.length_append, ih]; simp [zc]; omega
theorem vcells_append (a b : List Int) : vcells (a ++ b) = vcells a ++ vcells b := by simp [vcells]
theorem vcells_one (xs : List Int) : ∀ u ∈ vcells xs, u.oneCell' = true := by
  intro u hu
  obtain ⟨x, _, hm⟩ := List.mem_flatMap.1 hu
  simp only [zc, List.mem_cons, List.not_mem_nil, or_false] at hm
  rcases hm with rfl | rfl | rfl | rfl | rfl | rfl | rfl | rfl <;> rfl
/-- The matches of an atom, as the values of the first variable. -/
def mts (t0 t1 : Int) (F : List Fct) : List Int := (F.filter (fit t0 t1)).map (fitX t0)
theorem mts_snoc (t0 t1 : Int) (F : List Fct) (f : Fct) : mts t0 t1 (F ++ [f]) = mts t0 t1 F ++ if fit t0 t1 f = true then [fitX t0 f] else [] := by
  unfold mts
  rw [List.filter_append, List.map_append]
  by_cases h : fit t0 t1 f = true
  · simp [h]
  · simp [h]
theorem mts_take {t0 t1 : Int} {F : List Fct} {k : Nat} (h : k < F.length) : mts t0 t1 (F.take (k + 1)) = mts t0 t1 (F.take k) ++ if fit t0 t1 (fat F k) = true then [fitX t0 (fat F k)] else [] := by
  rw [List.take_succ_eq_append_getElem h, mts_snoc, fat_get h]
theorem mts_len (t0 t1 : Int) (F : List Fct) : (mts t0 t1 F).length ≤ F.length := by
  unfold mts
  rw [List.length_map]
  exact List.length_filter_le _ _
theorem fit_same {t0 t1 : Int} {f g : Fct} (hf : fit t0 t1 f = true) (hg : fit t0 t1 g = true) (h : fitX t0 f = fitX t0 g) : f = g := by
  unfold fit at hf hg
  unfold fitX at h
  simp only [Bool.and_eq_true, Bool.or_eq_true, decide_eq_true_eq] at hf hg
  refine Prod.ext ?_ (by rw [hf.2, hg.2])
  split at h
  · exact h
  · rename_i h0
    rw [hf.1.resolve_left h0, hg.1.resolve_left h0]
theorem mts_fresh {t0 t1 : Int} {F : List Fct} (hn : F.Nodup) {k : Nat} (hk : k < F.length) (hf : fit t0 t1 (fat F k) = true) : fitX t0 (fat F k) ∉ mts t0 t1 (F.take k) := by
  intro hm
  obtain ⟨g, hg, he⟩ := List.mem_map.1 hm
  obtain ⟨hg1, hg2⟩ := List.mem_filter.1 hg
  have e := fit_same hg2 hf he
  rw [e, fat_get hk] at hg1
  obtain ⟨j, hj, he2⟩ := List.getElem_of_mem hg1
  rw [List.length_take] at hj
  rw [List.getElem_take] at he2
  have hp := List.pairwise_iff_getElem.1 hn j k (by omega) hk (by omega)
  exact hp he2
theorem fitX_range {t0 : Int} {f : Fct} (h : 1 ≤ f.1 ∧ f.1 ≤ 99) : 0 ≤ fitX t0 f ∧ fitX t0 f ≤ 99 := by
  unfold fitX; split <;> omega
theorem MapV.noCells {w : World} {b n : Nat} {f : Int → Bool} (h : MapV w b n f) : ∀ cs e fz, w.heap[b]? ≠ some (.cells cs e fz) := by
  obtain ⟨D, ⟨es, clock, hm, _⟩, _⟩ := h
  intro cs e fz hc
  rw [hm] at hc; cases hc
theorem MapV.blkNe {w : World} {b n : Nat} {f : Int → Bool} (h : MapV w b n f) {g : Nat} {cs : Array Value} {t : TypeId} (hb : Blk w g cs t) : g ≠ b := by
  rintro rfl; exact h.noCells _ _ _ hb
theorem MapV.rowNe {w : World} {b n : Nat} {f : Int → Bool} (h : MapV w b n f) {base : Nat} {e : TypeId} {size : Nat} {v : Value} {m : Nat} {xs : List Value} (ho : w.ownsRow base e size v m xs) : v.ownBlock ≠ some b := by
  intro hb
  obtain ⟨cur, fz, hc⟩ := ownsRow_cells ho hb
  exact h.noCells _ _ _ hc
theorem info255 : (Tryz.prog.info? 255).map (fun i => (i.zero, i.size, i.bytes)) = some (some (.agg (zc 0)), 8, 64) := by kernel_rfl
/-- The inner loop: k facts have been looked at. -/
def MRel (w1 : World) (mb b7 b11 : Nat) (av : Value) (t0 t1 : Int) (F : List Fct) (v9 i : Value) (wr : World) : Prop :=
  ∃ (k n : Nat), k ≤ F.length ∧ n ≤ k ∧ i = .int .i64 k ∧ wr.ownsRow (b11 + 1) 255 8 v9 (mts t0 t1 (F.take k)).length (vcells (mts t0 t1 (F.take k))) ∧
    MapV wr mb n (fun l => decide (l ∈ mts t0 t1 (F.take k))) ∧ w1.heap.size ≤ mb ∧ Keep (fun _ => False) w1 wr ∧ Blk wr b7 #[.int .i64 0, av] 46 ∧ Blk wr b11 (zc 0) 255 ∧ b7 < b11 ∧ w1.heap.size ≤ b11
def MatchPost (w : World) (t0 t1 : Int) (F : List Fct) (e : Ending) (w' : World) : Prop :=
  ∃ (v : Value) (G : List Fct), e = .returned (.tuple #[v, .bool true]) ∧ G.Perm F ∧ Rd w' 8 v (mts t0 t1 G).length (vcells (mts t0 t1 G)) ∧ Keep (fun _ => False) w w'
set_option maxHeartbeats 8000000 in
set_option maxRecDepth 100000 in
theorem matches_any {w : World} {hv bv av fv : Value} {t0 t1 : Int} {hd : List Int} {vs : List Value} {F : List Fct} (q : QAt w hv bv av t0 t1 hd) (hf : FRd w fv vs F) (hg : Good12 F) :
    Calls Tryz.prog 134 #[.agg #[hv, bv], fv] w (MatchPost w t0 t1 F) := by
  obtain ⟨ho, hc, hhe, _⟩ := q.h.shape
  obtain ⟨b, o, cap, hbe, _, _⟩ := rd_fc q.b (k := 0) (by omega)
  obtain ⟨ao, ac, hae, _⟩ := q.a.shape
  subst hhe hbe hae
  obtain ⟨hl1, hhd⟩ : ∃ n, hd.length = n := ⟨_, rfl⟩
  have HQ := Lib.hid q; have HF := Lib.hid hf; have HG := Lib.hid hg
  have HON : Hid (∀ W, Keep (fun _ => False) w W → Calls Tryz.prog 204 #[fv] W (OncePost W vs F)) := Lib.hid (fun W k => once_any (HF.out.keep k) HG.out)
  clear q hf hg
  rw [hhd]
  clear hhd
  have hmm := @run_makeMap Tryz.prog
  have hmm := @run_makeMap Tryz.prog
  have hmm := @run_makeMap Tryz.prog
  have hmm := @run_makeMap Tryz.prog
  have hmm := @run_makeMap Tryz.prog
  have hmm := @run_makeMap Tryz.prog
  go_enter Tryz.func134, Tryz.ntmps134
  go_wp2_with (go_at_call 204; refine (HON.out _ ((Keep.refl _ w).alloc _)).mono ?_; rintro e w1 ⟨v1, σ, rfl, hs, hf1, hk1⟩; obtain ⟨so, sc, rfl, _⟩ := hf1.rd.shape; have hbx := (Blk.new w #[.slice ho hl1 hc, .slice (some ⟨b, o, none⟩) 1 cap] 49).keep hk1 (fun h => h); have c1 := (hbx.alloc (.cells #[.int .i64 0, .int .i64 0, .int .i64 0, .int .i64 0, .int .i64 0, .int .i64 0, .int .i64 0, .int .i64 0] 255)).cell 1; simp at c1; have HSG := Lib.hid hs; have HF1 := Lib.hid hf1; have HK1 := Lib.hid (((Keep.refl (fun _ => False) w).alloc _).trans hk1 (fun _ _ h => h)); clear hs hf1 hk1 hbx)
  obtain ⟨G, hG⟩ : ∃ G, perm_F σ F = G := ⟨_, rfl⟩
  obtain ⟨us, hus⟩ : ∃ u, perm_vs σ vs = u := ⟨_, rfl⟩
  have hGp : G.Perm F := by rw [← hG]; exact perm_F_perm HSG.out
  rw [hG, hus] at HF1
  rw [hG]
  have HGP := Lib.hid hGp
  have HGG := Lib.hid (HG.out.perm hGp)
  clear hG hus hGp c1 HSG
  obtain ⟨n, hn⟩ : ∃ n, G.length = n := ⟨_, rfl⟩
  have HN := Lib.hid hn
  have hn12 : n ≤ 12 := by rw [← hn]; exact HGG.out.len
  rw [hn]
  have HFR : Hid (∀ W, Keep (fun _ => False) w1 W → FRd W (.slice so n sc) us G) := Lib.hid (fun W k => by rw [← hn]; exact HF1.out.keep k)
  clear hn
  obtain ⟨w2, hw2⟩ : ∃ w2, w2 = w1.alloc (.cells #[.int .i64 0, .int .i64 0, .int .i64 0, .int .i64 0, .int .i64 0, .int .i64 0, .int .i64 0, .int .i64 0] 255) := ⟨_, rfl⟩
  have HK2 : Hid (Keep (fun _ => False) w w2) := Lib.hid (by rw [hw2]; exact HK1.out.alloc _)
  have HK12 : Hid (Keep (fun _ => False) w1 w2) := Lib.hid (by rw [hw2]; exact (Keep.refl _ _).alloc _)
  have HB0 : Hid (Blk w2 w1.heap.size (zc 0) 255) := Lib.hid (by rw [hw2]; exact Blk.new _ _ _)
  rw [← hw2]
  clear hw2
  go_loopw [4, 23] (fun v i wr => (i = .int .i64 0 ∧ v = .slice (some ⟨w1.heap.size, 0, none⟩) 1 1 ∧ Keep (fun _ => False) w2 wr) ∨ (i = .int .i64 1 ∧ Keep (fun _ => False) w2 wr ∧ Rd wr 8 v (mts t0 t1 G).length (vcells (mts t0 t1 G)))) (fun _ i _ => 1 - (intOf i).toNat)
  case atStart => exact .inl ⟨rfl, rfl, Keep.refl _ _⟩
  case round =>
    rcases hrel with ⟨rfl, rfl, hk⟩ | ⟨rfl, hk, hr⟩
    · have HKR := Lib.hid hk; clear hk
      obtain ⟨b', o', cap', hbe, a0, a1⟩ := rd_fc (HQ.out.b.keep (HK2.out.trans HKR.out (fun _ _ h => h)) (fun _ _ h => h)) (k := 0) (by omega)
      cases hbe
      have a0' : wr.cell? ⟨b, o, none⟩ = some (.int .i64 0) := by simpa using a0
      have a1' : wr.cell? ⟨b, o + 1, none⟩ = some (.slice ao 2 ac) := by simpa [vat] using a1
      clear a0 a1
      go_wp2_with fail
      obtain ⟨wq, hwq⟩ : ∃ wq, wq = wr := ⟨_, rfl⟩
      obtain ⟨w3, hw3⟩ : ∃ w3, w3 = (wr.alloc (.cells #[.int .i64 0, .slice ao 2 ac] 46)).alloc (.map #[] 0) := ⟨_, rfl⟩
      have HM3 : Hid (MapV w3 (wr.heap.size + 1) 0 (fun _ => false)) := Lib.hid (by rw [hw3]; have h := MapV.made (wr.alloc (.cells #[.int .i64 0, .slice ao 2 ac] 46)); rwa [World.size_alloc] at h)
      have HB3 : Hid (Blk w3 wr.heap.size #[.int .i64 0, .slice ao 2 ac] 46) := Lib.hid (by rw [hw3]; exact (Blk.new _ _ _).alloc _)
      have HK3 : Hid (Keep (fun _ => False) w2 w3) := Lib.hid (by rw [hw3]; exact (HKR.out.alloc _).alloc _)
      have HSZ := Lib.hid (show w2.heap.size ≤ wr.heap.size from HKR.out.size)
      rw [← hw3]
      clear hw3 a0' a1' hwq
      obtain ⟨b7, hb7⟩ : ∃ x, wr.heap.size = x := ⟨_, rfl⟩
      rw [hb7] at HM3 HB3 HSZ ⊢
      clear hb7
      go_loopw [9, 30] (fun v i wx => (i = .int .i64 0 ∧ v = .slice none 0 0 ∧ wx = w3) ∨ (i = .int .i64 1 ∧ Keep (fun _ => False) w2 wx ∧ Rd wx 8 v (mts t0 t1 G).length (vcells (mts t0 t1 G)))) (fun _ i _ => 1 - (intOf i).toNat)
      case atStart => exact .inl ⟨rfl, rfl, rfl⟩
      case round =>
        rcases hrel with ⟨rfl, rfl, rfl⟩ | ⟨rfl, hk, hr⟩
        · have hb0 := HB0.out.keep HK3.out (fun h => h)
          have c0 := hb0.cell 0; have c1 := hb0.cell 1; have c2 := hb0.cell 2; have c3 := hb0.cell 3; have c4 := hb0.cell 4; have c5 := hb0.cell 5; have c6 := hb0.cell 6; have c7 := hb0.cell 7
          simp [zc] at c0 c1 c2 c3 c4 c5 c6 c7
          clear hb0
          go_wp2_with fail
          obtain ⟨w4, hw4⟩ : ∃ w4, w4 = wr.alloc (.cells #[.int .i64 0, .int .i64 0, .int .i64 0, .int .i64 0, .int .i64 0, .int .i64 0, .int .i64 0, .int .i64 0] 255) := ⟨_, rfl⟩
          have HM4 : Hid (MapV w4 (b7 + 1) 0 (fun _ => false)) := Lib.hid (by rw [hw4]; exact HM3.out.keep ((Keep.refl (fun _ => False) _).alloc _) (fun h => h))
          have HB4 : Hid (Blk w4 b7 #[.int .i64 0, .slice ao 2 ac] 46) := Lib.hid (by rw [hw4]; exact HB3.out.alloc _)
          have HK4 : Hid (Keep (fun _ => False) w2 w4) := Lib.hid (by rw [hw4]; exact HK3.out.alloc _)
          have HB11 : Hid (Blk w4 wr.heap.size (zc 0) 255) := Lib.hid (by rw [hw4]; exact Blk.new _ _ _)
          have HS11 : Hid (w2.heap.size ≤ wr.heap.size) := Lib.hid HK3.out.size
          rw [← hw4]
          obtain ⟨b11, hb11⟩ : ∃ x, wr.heap.size = x := ⟨_, rfl⟩
          have HB711 : Hid (b7 < b11) := Lib.hid (by rw [← hb11]; exact HB3.out.lt)
          rw [hb11] at HB11 HS11 ⊢
          clear hw4 hb11 c0 c1 c2 c3 c4 c5 c6 c7
          go_loopw [9, 36] (fun v i wx => MRel w2 (b7 + 1) b7 b11 (.slice ao 2 ac) t0 t1 G v i wx) (fun _ i _ => n - (intOf i).toNat)
          case atStart =>
            refine ⟨0, 0, Nat.zero_le _, Nat.le_refl _, rfl, World.ownsRow_nil _ _ _ _, ?_, by have := HSZ.out; omega, HK4.out, HB4.out, HB11.out, HB711.out, HS11.out⟩
            exact HM4.out
          case round =>
            obtain ⟨k, nn, hk, hnk, rfl, hown, hmap, hge, hkeep, hb7, hb11, hg7, hg11⟩ := hrel
            obtain ⟨a9, c9, rfl, _⟩ := ownsRow_shape hown
            have HO := Lib.hid hown; have HM := Lib.hid hmap; have HGE := Lib.hid hge; have HKE := Lib.hid hkeep; have HB7 := Lib.hid hb7; have HBB := Lib.hid hb11; have HG7 := Lib.hid hg7; have HG11 := Lib.hid hg11
            have HFW := Lib.hid (HFR.out wr (HK12.out.trans HKE.out (fun _ _ h => h)))
            clear hown hmap hge hkeep hb7 hb11 hg7 hg11
            by_cases hlt : k < n
            · have hlti : ((k : Int) < (n : Int)) = True := eq_true (by omega)
              have hkG : k < G.length := by have := HN.out; omega
              obtain ⟨fb, fo, fcap, hvk, _, _, _, _⟩ := HFW.out.ar.shape hkG
              obtain ⟨sb, sof, scap, hse, s0, s1⟩ := rd_fc HFW.out.rd (k := k) (by have := HN.out; omega)
              rw [HN.out] at hse
              cases hse
              rw [hvk] at s1
              have hft := fun (W : World) (kW : Keep (fun _ => False) wr W) => fits_any (w := W) (f := fat G k) (HQ.out.a.keep (HK2.out.trans (HKE.out.trans kW (fun _ _ h => h)) (fun _ _ h => h)) (fun _ _ h => h)) HQ.out.ok (by have h := (HFW.out.keep kW).ar.2 k hkG; rwa [hvk] at h) (HGG.out.at hkG)
              have hml := mts_take (t0 := t0) (t1 := t1) hkG
              have hmlen : (mts t0 t1 (G.take k)).length ≤ k := by have := mts_len t0 t1 (G.take k); rw [List.length_take] at this; omega
              obtain ⟨xs, hxs⟩ : ∃ xs, mts t0 t1 (G.take k) = xs := ⟨_, rfl⟩
              have hfresh := mts_fresh (t0 := t0) (t1 := t1) HGG.out.nd hkG
              have hrng := fitX_range (t0 := t0) (HGG.out.at hkG).1
              rw [hxs] at HO HM hml hmlen hfresh ⊢
              obtain ⟨x, hx⟩ : ∃ x, fitX t0 (fat G k) = x := ⟨_, rfl⟩
              rw [hx] at hml hfresh hrng
              obtain ⟨xl, hxl⟩ : ∃ l, xs.length = l := ⟨_, rfl⟩
              have HXL := Lib.hid hxl
              rw [hxl] at HO hmlen ⊢
              have h20 : ((xl : Int) == 20000) = false := by simp; omega
              have d0 := (HBB.out.alloc (.cells #[.int .i64 0, .slice (some ⟨fb, fo, none⟩) 2 fcap] 38)).cell 0
              have d1 := (HBB.out.alloc (.cells #[.int .i64 0, .slice (some ⟨fb, fo, none⟩) 2 fcap] 38)).cell 1
              have d2 := (HBB.out.alloc (.cells #[.int .i64 0, .slice (some ⟨fb, fo, none⟩) 2 fcap] 38)).cell 2
              have d3 := (HBB.out.alloc (.cells #[.int .i64 0, .slice (some ⟨fb, fo, none⟩) 2 fcap] 38)).cell 3
              have d4 := (HBB.out.alloc (.cells #[.int .i64 0, .slice (some ⟨fb, fo, none⟩) 2 fcap] 38)).cell 4
              have d5 := (HBB.out.alloc (.cells #[.int .i64 0, .slice (some ⟨fb, fo, none⟩) 2 fcap] 38)).cell 5
              have d6 := (HBB.out.alloc (.cells #[.int .i64 0, .slice (some ⟨fb, fo, none⟩) 2 fcap] 38)).cell 6
              have d7 := (HBB.out.alloc (.cells #[.int .i64 0, .slice (some ⟨fb, fo, none⟩) 2 fcap] 38)).cell 7
              have g0 := (HB7.out.alloc (.cells #[.int .i64 0, .slice (some ⟨fb, fo, none⟩) 2 fcap] 38)).cell 0
              have g1 := (HB7.out.alloc (.cells #[.int .i64 0, .slice (some ⟨fb, fo, none⟩) 2 fcap] 38)).cell 1
              simp [zc] at d0 d1 d2 d3 d4 d5 d6 d7 g0 g1
              have HML := Lib.hid hml; have HFT := Lib.hid hft; have HFRS := Lib.hid hfresh; have HRNG := Lib.hid hrng; have HXS := Lib.hid hxs
              have HX := Lib.hid hx
              clear hml hft hfresh hrng hxs hvk hx hxl hkG
              cases hfit : fit t0 t1 (fat G k) with
              | false =>
                have HFIT := Lib.hid hfit
                have HF2 : Hid (∀ (W : World), Keep (fun _ => False) wr W → Calls Tryz.prog 205 #[.agg #[.int .i64 0, .int .i64 0, .int .i64 0, .int .i64 0, .int .i64 0, .int .i64 0, .int .i64 0, .int .i64 0], .agg #[.int .i64 0, .slice ao 2 ac], .agg #[.int .i64 0, .slice (some ⟨fb, fo, none⟩) 2 fcap]] W fun e w' => Keep (fun _ => False) W w' ∧ ∃ y : Int, e = .returned (.tuple #[.agg #[.int .i64 y, .int .i64 0, .int .i64 0, .int .i64 0, .int .i64 0, .int .i64 0, .int .i64 0, .int .i64 0], .bool false])) := Lib.hid (fun W kW => by
                  refine (HFT.out W kW).mono ?_
                  rintro e w' ⟨hk, ⟨h, _⟩ | ⟨_, y, rfl⟩⟩
                  · rw [hfit] at h; cases h
                  · exact ⟨hk, y, rfl⟩)
                clear hfit
                go_wp2_with (go_at_call 205; refine (HF2.out _ ((Keep.refl _ _).alloc _)).mono ?_; rintro e w6 ⟨hk6, y, rfl⟩; have HK6 := Lib.hid (((Keep.refl (fun _ => False) wr).alloc _).trans hk6 (fun _ _ h => h)); clear hk6)
                go_roundw
                case rel =>
                  have k7 := HK6.out.alloc (.cells #[.int .i64 y, .int .i64 0, .int .i64 0, .int .i64 0, .int .i64 0, .int .i64 0, .int .i64 0, .int .i64 0] 255)
                  have hmx : mts t0 t1 (G.take (k + 1)) = xs := by rw [HML.out, HFIT.out]; simp
                  refine ⟨k + 1, nn, by have := HN.out; omega, by omega, by go_num, ?_, ?_, HGE.out, HKE.out.trans k7 (fun _ _ h => h), HB7.out.keep k7 (fun h => h), HBB.out.keep k7 (fun h => h), HG7.out, HG11.out⟩
                  · rw [hmx, HXL.out]; exact ownsRow_keep HO.out k7 (fun _ _ h => h)
                  · rw [hmx]; exact HM.out.keep k7 (fun h => h)
                case measure => simp [intOf]; omega
              | true =>
                have HFIT := Lib.hid hfit
                have HF2 : Hid (∀ (W : World), Keep (fun _ => False) wr W → Calls Tryz.prog 205 #[.agg #[.int .i64 0, .int .i64 0, .int .i64 0, .int .i64 0, .int .i64 0, .int .i64 0, .int .i64 0, .int .i64 0], .agg #[.int .i64 0, .slice ao 2 ac], .agg #[.int .i64 0, .slice (some ⟨fb, fo, none⟩) 2 fcap]] W fun e w' => Keep (fun _ => False) W w' ∧ e = .returned (.tuple #[.agg #[.int .i64 x, .int .i64 0, .int .i64 0, .int .i64 0, .int .i64 0, .int .i64 0, .int .i64 0, .int .i64 0], .bool true])) := Lib.hid (fun W kW => by
                  refine (HFT.out W kW).mono ?_
                  rintro e w' ⟨hk, ⟨_, rfl⟩ | ⟨h, _⟩⟩
                  · exact ⟨hk, by rw [HX.out]; rfl⟩
                  · rw [hfit] at h; cases h)
                clear hfit
                go_wp2_with (first
                  | (go_at_call 205; go_loud (
                     refine (HF2.out _ ((Keep.refl _ _).alloc _)).mono ?_
                     rintro e w6 ⟨hk6, rfl⟩
                     have hk6' := (((Keep.refl (fun _ => False) wr).alloc (.cells #[.int .i64 0, .slice (some ⟨fb, fo, none⟩) 2 fcap] 38)).trans hk6 (fun _ _ h => h)).alloc (.cells #[.int .i64 x, .int .i64 0, .int .i64 0, .int .i64 0, .int .i64 0, .int .i64 0, .int .i64 0, .int .i64 0] 255)
                     have hm6 := HM.out.keep hk6' (fun h => h)
                     have hlook := hm6.miss (t := 294) (e := 4) Tryz.underlying294 (z := .bool false) Tryz.zeroValue4 HRNG.out (decide_eq_false (HFRS.out HFIT.out))
                     obtain ⟨w7, hrun, hm7, hk7, hs7⟩ := hm6.store (t := 294) (e := 4) Tryz.underlying294 (by unfold maxLen; omega) HRNG.out (.bool true)
                     have hb14 := (Blk.new w6 #[.int .i64 x, .int .i64 0, .int .i64 0, .int .i64 0, .int .i64 0, .int .i64 0, .int .i64 0, .int .i64 0] 255).keep hk7 (hm6.blkNe (Blk.new w6 #[.int .i64 x, .int .i64 0, .int .i64 0, .int .i64 0, .int .i64 0, .int .i64 0, .int .i64 0, .int .i64 0] 255))
                     have e0 := hb14.cell 0; have e1 := hb14.cell 1; have e2 := hb14.cell 2; have e3 := hb14.cell 3; have e4 := hb14.cell 4; have e5 := hb14.cell 5; have e6 := hb14.cell 6; have e7 := hb14.cell 7
                     simp at e0 e1 e2 e3 e4 e5 e6 e7
                     have ho7 := ownsRow_keep (ownsRow_keep HO.out hk6' (fun _ _ h => h)) hk7 (fun b hb e => hm6.rowNe (ownsRow_keep HO.out hk6' (fun _ _ h => h)) (by rw [hb, e]))
                     have hk17 : Keep (fun i => i = b7 + 1) wr w7 := (hk6'.mono (T := fun i => i = b7 + 1) (fun _ _ h => h.elim)).trans hk7 (fun _ _ h => h)
                     have HO7 := Lib.hid ho7; have HM7 := Lib.hid hm7; have HK17 := Lib.hid hk17; have HMN := Lib.hid HM.out
                     clear hk6 hk6' hm6 hm7 hk7 hs7 hb14 ho7 hk17
                     change _ = _ at hlook
                     simp only [vv] at hlook hrun))
                  | (at_builtin; refine wpList_app (w := w7.alloc (.cells #[.int .i64 x, .int .i64 0, .int .i64 0, .int .i64 0, .int .i64 0, .int .i64 0, .int .i64 0, .int .i64 0] 255)) rfl (.tmp 59) (.tmp 61) 168 168 rfl 255 (.agg (zc 0)) 8 64 Tryz.underlying168 info255 rfl (HO7.out.alloc _) rfl (Src.new (P := Tryz.prog) Tryz.underlying168 w7 1 [.int .i64 x, .int .i64 0, .int .i64 0, .int .i64 0, .int .i64 0, .int .i64 0, .int .i64 0, .int .i64 0] 255 rfl (by simp [Value.oneCell'])) rfl (by unfold maxLen; omega) (by omega) (by have := World.block_lt_of_cell? _ _ e0; have := HG11.out; have := HBB.out.lt; have := HK17.out.size; simp; omega) ?_
                     intro v9 w9 happ
                     have HA := Lib.hid happ; clear happ))
                go_roundw
                case rel =>
                  have k78 := HK17.out.alloc (.cells #[.int .i64 x, .int .i64 0, .int .i64 0, .int .i64 0, .int .i64 0, .int .i64 0, .int .i64 0, .int .i64 0] 255)
                  have k9 := HA.out.keep
                  have hrow := (HO7.out.alloc (.cells #[.int .i64 x, .int .i64 0, .int .i64 0, .int .i64 0, .int .i64 0, .int .i64 0, .int .i64 0, .int .i64 0] 255))
                  have hge9 : ∀ i, (Value.slice a9 xl c9).ownBlock = some i → b11 + 1 ≤ i := fun i e => (HO7.out.lt i e).1
                  have hmx : mts t0 t1 (G.take (k + 1)) = xs ++ [x] := by rw [HML.out, HFIT.out]; simp
                  have hne7 : b7 ≠ b7 + 1 := by omega
                  have hne11 : b11 ≠ b7 + 1 := HMN.out.blkNe HBB.out
                  have b7' := (HB7.out.keep k78 hne7).keep k9 (fun e => by have := hge9 _ e; have := HG7.out; omega)
                  have b11' := (HBB.out.keep k78 hne11).keep k9 (fun e => by have := hge9 _ e; omega)
                  refine ⟨k + 1, nn + 1, by have := HN.out; omega, by omega, by go_num, ?_, ?_, HGE.out, (HKE.out.trans k78 (fun i hi e => by have := HGE.out; omega)).trans k9 (fun i hi e => by have := hge9 _ e; have := HG11.out; omega), b7', b11', HG7.out, HG11.out⟩
                  · rw [hmx, vcells_append, List.length_append, HXL.out]
                    exact HA.out.own
                  · rw [hmx]
                    have hm9 := ((HM7.out.keep ((Keep.refl (fun _ => False) w7).alloc (.cells #[.int .i64 x, .int .i64 0, .int .i64 0, .int .i64 0, .int .i64 0, .int .i64 0, .int .i64 0, .int .i64 0] 255)) (fun h => h)).keepRow hrow k9)
                    have hfe : (fun l => decide (l ∈ xs ++ [x])) = (fun y => decide (y = x) || decide (y ∈ xs)) := by
                      funext y
                      by_cases e : y = x
                      · simp [e]
                      · by_cases e2 : y ∈ xs <;> simp [e, e2]
                    rw [hfe]
                    exact hm9
                case measure => simp [intOf]; omega
            · have hke : k = n := by have := HN.out; omega
              subst hke
              have hji : ((k : Int) < (k : Int)) = False := by simp
              have htk : G.take k = G := List.take_of_length_le (by rw [HN.out]; exact Nat.le_refl _)
              rw [htk] at HO
              rw [htk]
              have HR9 := Lib.hid (ownsRow_rd HO.out (vcells_one _))
              clear htk
              go_wp2_with fail
              go_roundw
              case rel => exact .inr ⟨rfl, HKE.out, HR9.out⟩
              case measure => simp [intOf]
        · have HR9 := Lib.hid hr; have HK9 := Lib.hid hk
          clear hr hk
          go_wp2_with fail
          go_roundw
          case rel => exact .inr ⟨rfl, HK9.out, HR9.out⟩
          case measure => simp [intOf]
    · have HR9 := Lib.hid hr; have HK9 := Lib.hid hk
      clear hr hk
      go_wp2_with fail
      go_ret2
      exact ⟨_, G, rfl, HGP.out, HR9.out, HK2.out.trans HK9.out (fun _ _ h => h)⟩
end Go.Proofs.YtkkjonkcjlnohaaGreatDoor

/- match.asked and match.Count at one atom and facts that are all different. -/
namespace Go.Proofs.YtkkjonkcjlnohaaGreatDoor
set_option linter.unusedSimpArgs false
set_option linter.unusedVariables false
set_option linter.unnecessarySimpa false
open Go.RowKit

def AskedPost (w : World) (t0 t1 : Int) (F : List Fct) (e : Ending) (w' : World) : Prop :=
  ∃ (v : Value) (G : List Fct), e = .returned (.tuple #[v, .int .i64 0]) ∧ G.Perm F ∧ Rd w' 8 v (mts t0 t1 G).length (vcells (mts t0 t1 G)) ∧ Keep (fun _ => False) w w'
theorem query_cells {w : World} {hv bv : Value} {W : World} (k : Keep (fun _ => False) (w.alloc (.cells #[hv, bv] 49)) W) : W.cell? ⟨w.heap.size, 0, none⟩ = some hv ∧ W.cell? ⟨w.heap.size, 1, none⟩ = some bv := by
  have hb := (Blk.new w #[hv, bv] 49).keep k (fun h => h)
  exact ⟨hb.cell 0, hb.cell 1⟩
theorem QAt.shapes {w : World} {hv bv av : Value} {t0 t1 : Int} {hd : List Int} (q : QAt w hv bv av t0 t1 hd) : ∃ ho hc b o cap, hv = .slice ho hd.length hc ∧ bv = .slice (some ⟨b, o, none⟩) 1 cap := by
  obtain ⟨ho, hc, hhe, _⟩ := q.h.shape
  obtain ⟨b, o, cap, hbe, _, _⟩ := rd_fc q.b (k := 0) (by omega)
  exact ⟨ho, hc, b, o, cap, hhe, hbe⟩
set_option maxHeartbeats 1000000 in
set_option maxRecDepth 100000 in
theorem asked_any {w : World} {hv bv av fv : Value} {t0 t1 : Int} {hd : List Int} {vs : List Value} {F : List Fct} (q : QAt w hv bv av t0 t1 hd) (hf : FRd w fv vs F) (hg : Good12 F) :
    Calls Tryz.prog 89 #[.agg #[hv, bv], fv] w (AskedPost w t0 t1 F) := by
  obtain ⟨ho, hc, b, o, cap, rfl, rfl⟩ := q.shapes
  have HV : Hid (∀ W, Keep (fun _ => False) w W → Calls Tryz.prog 132 #[.agg #[.slice ho hd.length hc, .slice (some ⟨b, o, none⟩) 1 cap]] W (IdxPost W (.bool true))) := Lib.hid (fun W k => qvalid_any (q.keep k))
  have HI : Hid (∀ W, Keep (fun _ => False) w W → Calls Tryz.prog 133 #[fv] W (IdxPost W (.bool true))) := Lib.hid (fun W k => isFacts_any (hf.keep k) hg)
  have HM : Hid (∀ W, Keep (fun _ => False) w W → Calls Tryz.prog 134 #[.agg #[.slice ho hd.length hc, .slice (some ⟨b, o, none⟩) 1 cap], fv] W (MatchPost W t0 t1 F)) := Lib.hid (fun W k => matches_any (q.keep k) (hf.keep k) hg)
  obtain ⟨nh, hnh⟩ : ∃ n, hd.length = n := ⟨_, rfl⟩
  rw [hnh] at HV HM ⊢
  clear q hf hg hnh
  go_enter Tryz.func89, Tryz.ntmps89
  go_wp2_with (first
    | (go_at_call 132; refine (HV.out _ ((Keep.refl _ w).alloc _)).mono ?_; rintro e w1 ⟨rfl, hk⟩; have HK1 := Lib.hid hk; clear hk)
    | (go_at_call 133; refine (HI.out _ (((Keep.refl _ w).alloc _).trans HK1.out (fun _ _ h => h))).mono ?_; rintro e w2 ⟨rfl, hk⟩; have hk2 := HK1.out.trans hk (fun _ _ h => h); obtain ⟨c0, c1⟩ := query_cells hk2; have HK2 := Lib.hid (((Keep.refl (fun _ => False) w).alloc _).trans hk2 (fun _ _ h => h)); clear hk hk2)
    | (go_at_call 134; refine (HM.out _ HK2.out).mono ?_; rintro e w3 ⟨v3, G, rfl, hp, hr, hk⟩; have HP := Lib.hid hp; have HR := Lib.hid hr; have HK3 := Lib.hid (HK2.out.trans hk (fun _ _ h => h)); clear hp hr hk))
  go_ret2
  exact ⟨v3, G, rfl, HP.out, HR.out, HK3.out⟩
/-- How many facts agree. -/
def cnt (t0 t1 : Int) (F : List Fct) : Nat := (F.filter (fit t0 t1)).length
set_option maxHeartbeats 1000000 in
set_option maxRecDepth 100000 in
theorem count_any {w : World} {hv bv av fv : Value} {t0 t1 : Int} {hd : List Int} {vs : List Value} {F : List Fct} (q : QAt w hv bv av t0 t1 hd) (hf : FRd w fv vs F) (hg : Good12 F) :
    Calls Tryz.prog 56 #[.agg #[hv, bv], fv] w (IdxPost w (.tuple #[.int .i64 (cnt t0 t1 F), .int .i64 0])) := by
  obtain ⟨ho, hc, b, o, cap, rfl, rfl⟩ := q.shapes
  have HA : Hid (∀ W, Keep (fun _ => False) w W → Calls Tryz.prog 89 #[.agg #[.slice ho hd.length hc, .slice (some ⟨b, o, none⟩) 1 cap], fv] W (AskedPost W t0 t1 F)) := Lib.hid (fun W k => asked_any (q.keep k) (hf.keep k) hg)
  obtain ⟨nh, hnh⟩ : ∃ n, hd.length = n := ⟨_, rfl⟩
  rw [hnh] at HA ⊢
  clear q hf hg hnh
  go_enter Tryz.func56, Tryz.ntmps56
  go_wp2_with (go_at_call 89; refine (HA.out _ ((Keep.refl _ w).alloc _)).mono ?_; rintro e w1 ⟨v1, G, rfl, hp, hr, hk⟩; obtain ⟨ao, ac, rfl, _⟩ := hr.shape; have HP := Lib.hid hp; have HK := Lib.hid (((Keep.refl (fun _ => False) w).alloc _).trans hk (fun _ _ h => h)); clear hp hr hk)
  go_ret2
  refine ⟨?_, HK.out⟩
  have e : (mts t0 t1 G).length = cnt t0 t1 F := by
    unfold mts cnt
    rw [List.length_map]
    exact (HP.out.filter _).length_eq
  rw [← e]
  rfl
end Go.Proofs.YtkkjonkcjlnohaaGreatDoor
