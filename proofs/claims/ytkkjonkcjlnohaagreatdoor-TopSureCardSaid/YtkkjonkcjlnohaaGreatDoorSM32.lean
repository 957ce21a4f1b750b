/- Facts that a call makes one after the other; house.atom; plain: the reply's text. -/
import Derived.Test.YtkkjonkcjlnohaaGreatDoorSM31
import Derived.Test.YtkkjonkcjlnohaaGreatDoorSM23
import Derived.Test.YtkkjonkcjlnohaaGreatDoorSM14
import Derived.Test.YtkkjonkcjlnohaaGreatDoorSM22
import Derived.Test.YtkkjonkcjlnohaaGreatDoorSM12
import Derived.Deep.LoopGhost

/- Facts that a call makes one after the other; house.atom; plain: the reply's text. -/
namespace Go.Proofs.YtkkjonkcjlnohaaGreatDoor
set_option linter.unusedSimpArgs false
set_option linter.unusedVariables false
set_option linter.unnecessarySimpa false
open Go.RowKit

structure FactsAt (base : Nat) (w : World) (v : Value) (vs : List Value) (F : List Fct) : Prop where
  own : w.ownsRow base 38 2 v F.length (fcells vs)
  ar : ArgsOf w vs F
  sep : ∀ j, j < F.length → ∀ g, (vat vs j).ownBlock = some g → v.ownBlock ≠ some g
theorem FactsAt.keep {base : Nat} {w w' : World} {v : Value} {vs : List Value} {F : List Fct} (h : FactsAt base w v vs F) (k : Keep (fun _ => False) w w') : FactsAt base w' v vs F :=
  ⟨ownsRow_keep h.own k (fun _ _ h => h), h.ar.keep k, h.sep⟩
theorem FactsAt.nil (base : Nat) (w : World) : FactsAt base w (.slice none 0 0) [] [] := ⟨World.ownsRow_nil _ _ _ _, ArgsOf.nil w, fun j hj => absurd hj (Nat.not_lt_zero _)⟩
theorem FactsAt.frd {base : Nat} {w : World} {v : Value} {vs : List Value} {F : List Fct} (h : FactsAt base w v vs F) : FRd w v vs F :=
  ⟨ownsRow_rd h.own (fcells_one h.ar.one), h.ar⟩
theorem FactsAt.snoc {base : Nat} {w w' : World} {v v' u : Value} {vs : List Value} {F : List Fct} {f : Fct} (h : FactsAt base w v vs F) (ha : App w base 38 2 v F.length (fcells vs) 1 [.int .i64 0, u] v' w') (hu : Rd w 1 u 2 (icells (fl f))) (hs : ∀ g, u.ownBlock = some g → v.ownBlock ≠ some g) : FactsAt base w' v' (vs ++ [u]) (F ++ [f]) := by
  have hl := h.ar.1
  have blk : ∀ {t : Value} {y : Fct}, Rd w 1 t 2 (icells (fl y)) → ∀ g, t.ownBlock = some g → g < w.heap.size := fun {t y} hr g hg => by
    rcases hr.2.2 with ⟨_, h0⟩ | ⟨b, o, cap, rfl, _, _, hx⟩
    · omega
    · cases hg
      exact World.block_lt_of_cell? _ _ (hx 0 _ rfl)
  have hu' : Rd w' 1 u 2 (icells (fl f)) := hu.keep ha.keep (fun g hg e2 => hs g hg e2)
  have har : ArgsOf w' vs F := ⟨hl, fun j hj => (h.ar.2 j hj).keep ha.keep (fun g hg e2 => h.sep j hj g hg e2)⟩
  refine ⟨?_, har.snoc hu', fun j hj g hg => ?_⟩
  · rw [List.length_append, fcells_append]
    exact ha.own
  · rw [List.length_append, List.length_singleton] at hj
    have hrd : g < w.heap.size ∧ v.ownBlock ≠ some g := by
      by_cases e : j = F.length
      · subst e
        rw [← hl, vat_append_end] at hg
        exact ⟨blk hu g hg, hs g hg⟩
      · rw [vat_append_lt (by omega)] at hg
        exact ⟨blk (h.ar.2 j (by omega)) g hg, h.sep j (by omega) g hg⟩
    rcases ha.fresh with e | ⟨g2, e, hge⟩
    · rw [e]; exact hrd.2
    · rw [e]
      intro e2
      have : g2 = g := Option.some.inj e2
      omega
def AtomPost (w : World) (a b : Int) (v : Value) (e : Ending) (w' : World) : Prop := e = .returned (.agg #[.int .i64 0, v]) ∧ Keep (fun _ => False) w w'
theorem size46 (a b : Value) : (Tryz.prog.info? 46).map (·.size) = some (#[a, b] : Array Value).size := by
  show _ = some 2
  kernel_rfl
set_option maxHeartbeats 1000000 in
set_option maxRecDepth 100000 in
theorem atom_any {w : World} {ao : Option Addr} {n cap : Nat} : Calls Tryz.prog 75 #[.int .i64 0, .slice ao n cap] w (AtomPost w 0 0 (.slice ao n cap)) := by
  go_enter Tryz.func75, Tryz.ntmps75
  go_wp2_with fail
  (try simp only [Exit.inBlock, Exit.then])
  refine bodyPost_ret (results_cell_row rfl _ _ (w.heap.size) 46 #[.int .i64 0, .slice ao n cap] (0, 0) _ rfl ?_ Tryz.underlying46 rfl (size46 _ _)) rfl ?_
  · exact Blk.new _ _ _
  · exact ⟨rfl, (Keep.refl _ _).alloc _⟩

/- plain -/
def sureB : ByteArray := bs [115, 117, 114, 101]
def sureN (l : List Int) : Nat → ByteArray
  | 0 => sureB
  | k + 1 => sureN l k ++ (bs [32] ++ itoaB (l.getD k 0))
theorem sureN_size {l : List Int} (h : ∀ x ∈ l, 1 ≤ x ∧ x ≤ 20) : ∀ k, k ≤ l.length → (sureN l k).size ≤ 4 + 22 * k := by
  intro k
  induction k with
  | zero => intro _; simp [sureN, sureB, bs, ByteArray.size]
  | succ k ih =>
    intro hk
    have h1 := ih (by omega)
    have e : l.getD k 0 = l[k] := by simp [List.getD, show k < l.length by omega]
    have hm := h l[k] (List.getElem_mem _)
    have h2 := itoaB_size (l.getD k 0) (by rw [e]; omega) (by rw [e]; omega)
    show (sureN l k ++ (bs [32] ++ itoaB (l.getD k 0))).size ≤ _
    rw [ByteArray.size_append, ByteArray.size_append]
    have h3 : (bs [32]).size = 1 := rfl
    omega
/-- A test as a fact of the house: bad is 1, good 2. -/
def hfF (x : Int × Int) : Fct := (x.1, 1 + x.2)
def TestsOk (T : List (Int × Int)) : Prop := ∀ x ∈ T, (1 ≤ x.1 ∧ x.1 ≤ 20) ∧ (x.2 = 0 ∨ x.2 = 1)
def hFacts (T : List (Int × Int)) : List Fct := (onceL T).map hfF
theorem hfF_inj {x y : Int × Int} (h : hfF x = hfF y) : x = y := by
  have h1 := congrArg Prod.fst h
  have h2 := congrArg Prod.snd h
  simp only [hfF] at h1 h2
  exact Prod.ext h1 (by omega)
theorem hFacts_len (T : List (Int × Int)) : (hFacts T).length = (onceL T).length := List.length_map ..
theorem hFacts_good {T : List (Int × Int)} (h : TestsOk T) (hl : (onceL T).length ≤ 12) : Good12 (hFacts T) := by
  refine ⟨by rw [hFacts_len]; exact hl, ?_, fun f hf => ?_⟩
  · unfold hFacts
    rw [List.Nodup, List.pairwise_map]
    exact (onceL_nodup T).imp (fun hne e => hne (hfF_inj e))
  · obtain ⟨x, hx, rfl⟩ := List.mem_map.1 hf
    have := h x (mem_onceL.1 hx)
    show (1 ≤ x.1 ∧ x.1 ≤ 99) ∧ 1 ≤ 1 + x.2 ∧ 1 + x.2 ≤ 99
    rcases this with ⟨h1, h2⟩
    omega
/-- What the house says to 'sure'. -/
def SureT (T : List (Int × Int)) (s : ByteArray) (e : Int) : Prop :=
  (12 < (onceL T).length ∧ s = bs [] ∧ e = 3) ∨ ((onceL T).length ≤ 12 ∧ e = 0 ∧ ∃ (R : List Nat) (rows : List Int), RepsOf (hFacts T) R ∧ rows.length ≤ 12 ∧ (∀ x ∈ rows, 1 ≤ x ∧ x ≤ 20) ∧ (∀ x, x ∈ rows ↔ ∀ r ∈ R, (x, 2) ∈ pick (hFacts T) r) ∧ s = sureN rows rows.length)
theorem rows_range {T : List (Int × Int)} {R : List Nat} {rows : List Int} (h : TestsOk T) (hl : (onceL T).length ≤ 12) (hR : RepsOf (hFacts T) R) (hm : ∀ x, x ∈ rows ↔ ∀ r ∈ R, (x, 2) ∈ pick (hFacts T) r) : ∀ x ∈ rows, 1 ≤ x ∧ x ≤ 20 := by
  intro x hx
  have hne := hR.ne (by rw [hFacts_len]; exact hl)
  obtain ⟨r, hr⟩ := List.exists_mem_of_ne_nil R hne
  have h1 := (hm x).1 hx r hr
  obtain ⟨j, hj, _, e⟩ := (mem_pick (by rw [hFacts_len]; exact hl) (hR.lt hr)).1 h1
  have h2 := fat_mem hj
  rw [e] at h2
  obtain ⟨y, hy, e2⟩ := List.mem_map.1 h2
  have h3 := (h y (mem_onceL.1 hy)).1
  have h4 : y.1 = x := congrArg Prod.fst e2
  omega
end Go.Proofs.YtkkjonkcjlnohaaGreatDoor

/- house.state.sure. -/
namespace Go.Proofs.YtkkjonkcjlnohaaGreatDoor
set_option linter.unusedSimpArgs false
set_option linter.unusedVariables false
set_option linter.unnecessarySimpa false
open Go.RowKit

def FLRel (w1 : World) (L : List (Int × Int)) (v i : Value) (wr : World) : Prop :=
  ∃ (k : Nat) (vs : List Value), k ≤ L.length ∧ i = .int .i64 k ∧ FactsAt w1.heap.size wr v vs ((L.take k).map hfF) ∧ Keep (fun _ => False) w1 wr
def SLRel (w : World) (l : List Int) (v i : Value) (wr : World) : Prop :=
  ∃ k : Nat, k ≤ l.length ∧ v = .string (sureN l k) ∧ i = .int .i64 k ∧ Keep (fun _ => False) w wr
def SureSPost (w : World) (T : List (Int × Int)) (e : Ending) (w' : World) : Prop :=
  ∃ (s : ByteArray) (er : Int), e = .returned (.tuple #[.string s, .int .i64 er]) ∧ SureT T s er ∧ Keep (fun _ => False) w w'
theorem sure_query {wr w5 : World} (hk : Keep (fun _ => False) (((wr.alloc (.cells #[.int .i64 1, .int .i64 0, .int .i64 0, .int .i64 0, .int .i64 0, .int .i64 0] 3)).alloc (.cells #[.int .i64 0] 3)).alloc (.cells #[.int .i64 0, .int .i64 (-2)] 3)) w5) :
    Rd (w5.alloc (.cells #[.int .i64 0, .slice (some ⟨wr.heap.size + 1 + 1, 0, none⟩) 2 2] 46)) 1 (.slice (some ⟨wr.heap.size, 0, none⟩) 6 6) 6 (icells (sch 0)) ∧
    QAt (w5.alloc (.cells #[.int .i64 0, .slice (some ⟨wr.heap.size + 1 + 1, 0, none⟩) 2 2] 46)) (.slice (some ⟨wr.heap.size + 1, 0, none⟩) 1 1) (.slice (some ⟨w5.heap.size, 0, none⟩) 1 1) (.slice (some ⟨wr.heap.size + 1 + 1, 0, none⟩) 2 2) 0 (-2) [0] ∧
    Keep (fun _ => False) wr (w5.alloc (.cells #[.int .i64 0, .slice (some ⟨wr.heap.size + 1 + 1, 0, none⟩) 2 2] 46)) := by
  have h1 := Rd.new wr 1 6 [.int .i64 1, .int .i64 0, .int .i64 0, .int .i64 0, .int .i64 0, .int .i64 0] 3 rfl (by simp [Value.oneCell']) (by unfold maxLen; omega)
  have h2 := Rd.new (wr.alloc (.cells #[.int .i64 1, .int .i64 0, .int .i64 0, .int .i64 0, .int .i64 0, .int .i64 0] 3)) 1 1 [.int .i64 0] 3 rfl (by simp [Value.oneCell']) (by unfold maxLen; omega)
  have h3 := Rd.new ((wr.alloc (.cells #[.int .i64 1, .int .i64 0, .int .i64 0, .int .i64 0, .int .i64 0, .int .i64 0] 3)).alloc (.cells #[.int .i64 0] 3)) 1 2 [.int .i64 0, .int .i64 (-2)] 3 rfl (by simp [Value.oneCell']) (by unfold maxLen; omega)
  have h4 := Rd.new w5 2 1 [.int .i64 0, .slice (some ⟨wr.heap.size + 1 + 1, 0, none⟩) 2 2] 46 rfl (by simp [Value.oneCell']) (by unfold maxLen; omega)
  rw [World.size_alloc] at h2
  rw [World.size_alloc, World.size_alloc] at h3
  have ka : Keep (fun _ => False) (((wr.alloc (.cells #[.int .i64 1, .int .i64 0, .int .i64 0, .int .i64 0, .int .i64 0, .int .i64 0] 3)).alloc (.cells #[.int .i64 0] 3)).alloc (.cells #[.int .i64 0, .int .i64 (-2)] 3)) (w5.alloc (.cells #[.int .i64 0, .slice (some ⟨wr.heap.size + 1 + 1, 0, none⟩) 2 2] 46)) := hk.alloc _
  have kb : Keep (fun _ => False) ((wr.alloc (.cells #[.int .i64 1, .int .i64 0, .int .i64 0, .int .i64 0, .int .i64 0, .int .i64 0] 3)).alloc (.cells #[.int .i64 0] 3)) _ := ((Keep.refl (fun _ => False) _).alloc (.cells #[.int .i64 0, .int .i64 (-2)] 3)).trans ka (fun _ _ h => h)
  have kc : Keep (fun _ => False) (wr.alloc (.cells #[.int .i64 1, .int .i64 0, .int .i64 0, .int .i64 0, .int .i64 0, .int .i64 0] 3)) _ := ((Keep.refl (fun _ => False) _).alloc (.cells #[.int .i64 0] 3)).trans kb (fun _ _ h => h)
  exact ⟨h1.keep kc (fun _ _ h => h), ⟨h2.keep kb (fun _ _ h => h), h4, h3.keep ka (fun _ _ h => h), ⟨.inl rfl, by omega, .inr ⟨rfl, rfl⟩⟩⟩, ((Keep.refl (fun _ => False) _).alloc _).trans kc (fun _ _ h => h)⟩
set_option maxHeartbeats 8000000 in
set_option maxRecDepth 100000 in
theorem sureS_any {w : World} {V : StV} {S : St} (hG : Glob w) (h : StAt w V S) (hT : TestsOk S.tests) (hl : S.tests.length ≤ 1000000000) :
    Calls Tryz.prog 48 #[.pointer (some ⟨V.b, 0, none⟩)] w (SureSPost w S.tests) := by
  have c3 := h.blk.cell 3
  simp [StV.cells] at c3
  obtain ⟨T, hTe⟩ : ∃ T, S.tests = T := ⟨_, rfl⟩
  have hrt := h.rt
  rw [hTe] at hrt hT hl ⊢
  obtain ⟨ta, tc, hve, _⟩ := hrt.shape
  rw [hve] at c3 hrt
  have HON : Hid (∀ W, w = W → Calls Tryz.prog 72 #[.slice ta T.length tc] W (OnceP2 W T)) := Lib.hid (fun W e => by subst e; exact onceP_any hrt hl)
  have HG := Lib.hid hG; have HT := Lib.hid hT
  have hlo := onceL_len T
  clear h hrt hve hTe hG hT
  go_enter Tryz.func48, Tryz.ntmps48
  go_wp2_with (go_at_call 72; refine (HON.out _ rfl).mono ?_; rintro e w1 ⟨v1, rfl, hr1, hk1⟩; obtain ⟨lo, lc, rfl, _⟩ := hr1.shape; have HR1 := Lib.hid hr1; have HK1 := Lib.hid hk1; clear hr1 hk1)
  obtain ⟨L, hL⟩ : ∃ L, onceL T = L := ⟨_, rfl⟩
  have HL := Lib.hid hL
  have HTL : Hid (∀ x ∈ L, (1 ≤ x.1 ∧ x.1 ≤ 20) ∧ (x.2 = 0 ∨ x.2 = 1)) := Lib.hid (fun x hx => HT.out x (mem_onceL.1 (by rw [hL]; exact hx)))
  rw [hL] at HR1 hlo ⊢
  clear hL
  obtain ⟨n, hn⟩ : ∃ n, L.length = n := ⟨_, rfl⟩
  have HN := Lib.hid hn
  rw [hn] at HR1 hlo ⊢
  have hn9 : n ≤ 1000000000 := by omega
  clear hn hlo c3
  go_loopw [4, 18] (fun v i wr => FLRel w1 L v i wr) (fun _ i _ => n - (intOf i).toNat)
  case atStart => exact ⟨0, [], Nat.zero_le _, rfl, FactsAt.nil _ _, Keep.refl _ _⟩
  case round =>
    obtain ⟨k, vs, hk, rfl, hfa, hk8⟩ := hrel
    obtain ⟨a4, c4, hve, _⟩ := ownsRow_shape hfa.own
    have htl : ((L.take k).map hfF).length = k := by rw [List.length_map, List.length_take]; have := HN.out; omega
    rw [htl] at hve
    subst hve
    have HFA := Lib.hid hfa; have HK8 := Lib.hid hk8; have HTK := Lib.hid htl
    clear hfa hk8 htl
    by_cases hlt : k < n
    · have hlti : ((k : Int) < (n : Int)) = True := eq_true (by omega)
      obtain ⟨rb, ro, hao, c0, c1⟩ := rd_pc (HR1.out.keep HK8.out (fun _ _ h => h)) hlt
      subst hao
      have hxm := HTL.out (pat L k) (by rw [pat_get (by have := HN.out; omega)]; exact List.getElem_mem _)
      have htk2 : (L.take (k + 1)).map hfF = (L.take k).map hfF ++ [hfF (pat L k)] := take_map_snoc L (0, 0) hfF (k := k) (by have := HN.out; omega)
      obtain ⟨a, ha⟩ : ∃ c, (pat L k).1 = c := ⟨_, rfl⟩
      obtain ⟨b, hb⟩ : ∃ d, (pat L k).2 = d := ⟨_, rfl⟩
      rw [ha] at c0 hxm
      rw [hb] at c1 hxm
      rw [show hfF (pat L k) = (a, 1 + b) by rw [← ha, ← hb]; rfl] at htk2
      have HTS := Lib.hid htk2
      have hb0 : 0 ≤ b := by rcases hxm.2 with h | h <;> omega
      have hb1 : b ≤ 1 := by rcases hxm.2 with h | h <;> omega
      have hwb := IntWalk.i64_in (1 + b) ⟨by omega, by omega⟩
      clear ha hb htk2 hxm
      have HOW : Hid (wr.ownsRow w1.heap.size 38 2 (.slice a4 k c4) k (fcells vs)) := Lib.hid (by have := HFA.out.own; rw [HTK.out] at this; exact this)
      have HSRC : Hid (Src Tryz.prog 2 33 (.slice (some ⟨wr.heap.size + 1 + 1, 0, none⟩) 1 1) 1 [.int .i64 0, .slice (some ⟨wr.heap.size + 1, 0, none⟩) 2 2] (((wr.alloc (.cells #[.int .i64 a, .int .i64 b] 127)).alloc (.cells #[.int .i64 a, .int .i64 (1 + b)] 3)).alloc (.cells #[.int .i64 0, .slice (some ⟨wr.heap.size + 1, 0, none⟩) 2 2] 38))) := Lib.hid (by
        have h := Src.new (P := Tryz.prog) (size := 2) Tryz.underlying33 ((wr.alloc (.cells #[.int .i64 a, .int .i64 b] 127)).alloc (.cells #[.int .i64 a, .int .i64 (1 + b)] 3)) 1 [.int .i64 0, .slice (some ⟨wr.heap.size + 1, 0, none⟩) 2 2] 38 rfl (by simp [Value.oneCell'])
        rw [World.size_alloc, World.size_alloc] at h
        exact h)
      go_wp2_with (at_builtin; go_loud (refine wpList_app (w := ((wr.alloc (.cells #[.int .i64 a, .int .i64 b] 127)).alloc (.cells #[.int .i64 a, .int .i64 (1 + b)] 3)).alloc (.cells #[.int .i64 0, .slice (some ⟨wr.heap.size + 1, 0, none⟩) 2 2] 38)) rfl (.tmp 22) (.tmp 30) 33 33 rfl 38 zFact 2 32 Tryz.underlying33 info38 rfl (((HOW.out.alloc _).alloc _).alloc _) rfl HSRC.out rfl (by unfold maxLen; omega) (by omega) (by have := HK8.out.size; simp; omega) ?_; intro v9 w9 happ; have HA := Lib.hid happ; clear happ))
      go_roundw
      case rel =>
        have kk : Keep (fun _ => False) wr (((wr.alloc (.cells #[.int .i64 a, .int .i64 b] 127)).alloc (.cells #[.int .i64 a, .int .i64 (1 + b)] 3)).alloc (.cells #[.int .i64 0, .slice (some ⟨wr.heap.size + 1, 0, none⟩) 2 2] 38)) := (((Keep.refl _ _).alloc _).alloc _).alloc _
        refine ⟨k + 1, vs ++ [.slice (some ⟨wr.heap.size + 1, 0, none⟩) 2 2], by have := HN.out; omega, by go_num, ?_, (HK8.out.trans kk (fun _ _ h => h)).trans HA.out.keep (fun i hi e => by have := (HOW.out.lt i e).1; omega)⟩
        rw [HTS.out]
        refine FactsAt.snoc (v := .slice a4 k c4) (HFA.out.keep kk) (by rw [HTK.out]; exact HA.out) ?_ (fun g e e2 => ?_)
        · have h1 := Rd.new (wr.alloc (.cells #[.int .i64 a, .int .i64 b] 127)) 1 2 [.int .i64 a, .int .i64 (1 + b)] 3 rfl (by simp [Value.oneCell']) (by unfold maxLen; omega)
          rw [World.size_alloc] at h1
          exact h1.keep ((Keep.refl (fun _ => False) _).alloc _) (fun _ _ h => h)
        · have h1 := (HOW.out.lt g e2).2
          have h2 : wr.heap.size + 1 = g := Option.some.inj e
          omega
      case measure => simp [intOf]; omega
    · have hke : k = n := by have := HN.out; omega
      subst hke
      have hji : ((k : Int) < (k : Int)) = False := by simp
      have htk : L.take k = L := List.take_of_length_le (by rw [HN.out]; exact Nat.le_refl _)
      have hfa := HFA.out
      rw [htk] at hfa
      have HFA2 := Lib.hid hfa
      clear htk hfa
      by_cases h12 : 12 < k
      · have h12i : ((12 : Int) < (k : Int)) = True := eq_true (by omega)
        go_wp2_with fail
        go_ret2
        exact ⟨_, _, rfl, .inl ⟨by rw [HL.out, HN.out]; exact h12, rfl, rfl⟩, HK1.out.trans HK8.out (fun _ _ h => h)⟩
      · have h12i : ((12 : Int) < (k : Int)) = False := eq_false (by omega)
        have hl12 : (onceL T).length ≤ 12 := by rw [HL.out, HN.out]; omega
        have hgd := hFacts_good HT.out hl12
        have hfe : hFacts T = L.map hfF := by unfold hFacts; rw [HL.out]
        have HGD : Hid (Good12 (L.map hfF)) := Lib.hid (by rw [← hfe]; exact hgd)
        have hfl : (L.map hfF).length = k := by rw [List.length_map, HN.out]
        have HFL := Lib.hid hfl
        have HFE := Lib.hid hfe
        have HL12 := Lib.hid hl12
        have HKW := Lib.hid (HK1.out.trans HK8.out (fun _ _ h => h))
        clear hgd hfl hfe hl12
        go_wp2_with (first
          | (go_at_call 75; go_loud (
             refine atom_any.mono ?_
             rintro e w5 ⟨rfl, hk5⟩
             have HK5 := Lib.hid hk5
             clear hk5))
          | (go_at_call 74; go_loud (
             obtain ⟨q1, q2, q3⟩ := sure_query HK5.out
             have kk := HKW.out.trans q3 (fun _ _ h => h)
             have hgl := HG.out.keep kk
             refine (sureR_any (s := 0) (t1 := -2) q1 (.inl rfl) (HFA2.out.frd.keep q3) HGD.out q2 hgl.tab (by have := hgl.size; omega)).mono ?_
             rintro e w6 ⟨v6, us, rows, R, rfl, hro, hrl12, hre, hrm, hk6⟩
             obtain ⟨a6, c6, hve6, _⟩ := ownsRow_shape hro.own
             obtain ⟨nr, hnr⟩ : ∃ n, rows.length = n := ⟨_, rfl⟩
             rw [hnr] at hve6 hrl12
             subst hve6
             have HRO := Lib.hid hro; have HRE := Lib.hid hre; have HRM := Lib.hid hrm
             have HK6 := Lib.hid (kk.trans hk6 (fun _ _ h => h))
             have HNR := Lib.hid hnr
             clear q1 q2 q3 kk hgl hro hre hrm hk6 hnr)))
        have hrg := rows_range (rows := rows) (R := R) HT.out HL12.out (by rw [HFE.out]; exact HRE.out) (by rw [HFE.out]; exact HRM.out)
        have HRG := Lib.hid hrg
        have HSZ := Lib.hid (sureN_size hrg)
        clear hrg
        go_loopw [9, 52] (fun v i wr => SLRel w6 rows v i wr) (fun _ i _ => nr - (intOf i).toNat)
        case atStart => exact ⟨0, Nat.zero_le _, rfl, rfl, Keep.refl _ _⟩
        case round =>
          obtain ⟨j, hj, rfl, rfl, hkw⟩ := hrel
          have HKJ := Lib.hid hkw; clear hkw
          by_cases hlt2 : j < nr
          · have hjl : ((j : Int) < (nr : Int)) = True := eq_true (by omega)
            have hjr : j < rows.length := by have := HNR.out; omega
            have hro := HRO.out.keep HKJ.out
            obtain ⟨eb, eo, ec, hev, _, _, hec⟩ := hro.shape hjr
            obtain ⟨gb, go, hao, hgc⟩ : ∃ b o, a6 = some ⟨b, o, none⟩ ∧ wr.cell? ⟨b, o + j, none⟩ = some (vat us j) := by
              rcases (ownsRow_rd hro.own hro.one).2.2 with ⟨h, h'⟩ | ⟨b, o, c, h, _, _, hc⟩
              · omega
              · cases h
                exact ⟨b, o, rfl, hc j _ (vat_get (by rw [hro.len]; exact hjr))⟩
            subst hao
            rw [hev] at hgc
            have hxr := HRG.out (rat rows j) (by rw [show rat rows j = rows[j] by simp [rat, List.getD, hjr]]; exact List.getElem_mem _)
            have hz := HSZ.out j (by omega)
            have hnx : sureN rows (j + 1) = sureN rows j ++ (bs [32] ++ itoaB (rat rows j)) := rfl
            obtain ⟨x, hx⟩ : ∃ x, rat rows j = x := ⟨_, rfl⟩
            rw [hx] at hec hxr hnx
            have hiz := itoaB_size x (by omega) (by omega)
            obtain ⟨acc, hacc⟩ : ∃ acc, sureN rows j = acc := ⟨_, rfl⟩
            rw [hacc] at hz hnx ⊢
            have HIT := Lib.hid (itoa_any (w := wr) (n := x) (HG.out.keep (HK6.out.trans HKJ.out (fun _ _ h => h))) (by omega) (by omega))
            obtain ⟨it, hit⟩ : ∃ it, itoaB x = it := ⟨_, rfl⟩
            unfold ItoaPost at HIT
            rw [hit] at hiz hnx HIT
            have HNX := Lib.hid hnx
            have hs1 : (9223372036854775807 < 1 + it.size) = False := eq_false (by omega)
            have hs2 : (9223372036854775807 < acc.size + (1 + it.size)) = False := eq_false (by omega)
            clear hro hev hx hxr hacc hit hnx
            go_wp2_with (go_at_call 64; refine HIT.out.mono ?_; rintro e w4 ⟨rfl, hk4⟩; have HK4 := Lib.hid hk4; clear hk4)
            go_roundw
            case rel => exact ⟨j + 1, by have := HNR.out; omega, by rw [HNX.out]; rfl, by go_num, HKJ.out.trans HK4.out (fun _ _ h => h)⟩
            case measure => simp [intOf]; omega
          · have hke2 : j = nr := by have := HNR.out; omega
            subst hke2
            have hji2 : ((j : Int) < (j : Int)) = False := by simp
            go_wp2_with fail
            go_ret2
            exact ⟨_, _, rfl, .inr ⟨HL12.out, rfl, R, rows, by rw [HFE.out]; exact HRE.out, by rw [HNR.out]; exact hrl12, HRG.out, by rw [HFE.out]; exact HRM.out, by rw [HNR.out]⟩, HK6.out.trans HKJ.out (fun _ _ h => h)⟩
end Go.Proofs.YtkkjonkcjlnohaaGreatDoor

/- House.Ask at 'sure'. -/
namespace Go.Proofs.YtkkjonkcjlnohaaGreatDoor
set_option linter.unusedSimpArgs false
set_option linter.unusedVariables false
set_option linter.unnecessarySimpa false
open Go.RowKit

theorem sureB_line : isLineB sureB = true := by kernel_rfl
theorem sureB_is : (sureB.toList == [115, 117, 114, 101]) = true := by kernel_rfl
theorem sureB_not1 : (sureB.toList == [108, 111, 116, 115]) = false := by kernel_rfl
theorem sureB_not2 : (sureB.toList == [116, 114, 97, 99, 101, 100]) = false := by kernel_rfl
set_option maxHeartbeats 1000000 in
set_option maxRecDepth 100000 in
theorem reply_sure {w : World} {V : StV} {S : St} (hG : Glob w) (h : StAt w V S) (hT : TestsOk S.tests) (hn : S.tests.length ≤ 1000000000) : Calls Tryz.prog 27 #[.pointer (some ⟨V.b, 0, none⟩), .string sureB] w (SureSPost w S.tests) := by
  obtain ⟨s, hs⟩ : ∃ s, sureB = s := ⟨_, rfl⟩
  have hl := sureB_line
  have hi := sureB_is
  have hi1 := sureB_not1
  have hi2 := sureB_not2
  have hz : s.size = 4 := by rw [← hs]; rfl
  rw [hs] at hl hi hi1 hi2 ⊢
  clear hs
  have HL := Lib.hid hl; have HZ := Lib.hid hz; have HG := Lib.hid hG; have H := Lib.hid h; have HT := Lib.hid hT
  clear hl hz hG h hT
  go_enter Tryz.func27, Tryz.ntmps27
  go_wp2_with (first
    | (go_at_call 44; refine (isLine_any HG.out (by rw [HZ.out]; omega)).mono ?_; rintro e w1 ⟨he, hk1⟩; rw [HL.out] at he; subst he; have HK1 := Lib.hid hk1; clear hk1)
    | (go_at_call 45; obtain ⟨mx, hm⟩ := (HG.out.keep HK1.out).maxlen; refine (Tryz.strings_Cut s ⟨#[32]⟩ mx w1 (by rw [HZ.out]; omega) hm).mono ?_; clear hm; rintro e w2 ⟨rfl, n2, h2⟩; have HK2 := Lib.hid (HK1.out.trans (h2 ▸ (Keep.refl _ w1).drewN n2) (fun _ _ h => h)); clear h2)
    | (go_at_call 48; refine (sureS_any (HG.out.keep HK2.out) (H.out.keep HK2.out (fun _ _ h => h)) HT.out hn).mono ?_; rintro e w3 ⟨s3, er3, rfl, hs3, hk3⟩; have HS3 := Lib.hid hs3; have HK3 := Lib.hid (HK2.out.trans hk3 (fun _ _ h => h)); clear hk3 hs3))
  go_ret2
  exact ⟨s3, er3, rfl, HS3.out, HK3.out⟩
set_option maxHeartbeats 1000000 in
set_option maxRecDepth 100000 in
theorem ask_sure {base : Nat} {w : World} {H : HV} {D : Dsk} {S : St} {ls : List ByteArray} {lost : Bool} (hG : Glob w) (h : HouseAt base w H D S ls lost) (hT : TestsOk S.tests) (hn : S.tests.length ≤ 1000000000) :
    Calls Tryz.prog 12 #[.pointer (some ⟨H.h, 0, none⟩), .string sureB] w (SureSPost w S.tests) := by
  have c1 := h.blk.cell 1
  simp at c1
  have HN := Lib.hid (hnone_any h)
  have HR := Lib.hid (reply_sure hG h.st hT hn)
  clear hG h hT hn
  go_enter Tryz.func12, Tryz.ntmps12
  go_wp2_with (first
    | (go_at_call 21; refine HN.out.mono ?_; rintro e w' ⟨rfl, rfl⟩)
    | (go_at_call 27; refine HR.out.mono ?_; rintro e w3 ⟨s3, er3, rfl, hs3, hk3⟩; have HS3 := Lib.hid hs3; have HK3 := Lib.hid hk3; clear hk3 hs3))
  go_ret2
  exact ⟨s3, er3, rfl, HS3.out, HK3.out⟩
end Go.Proofs.YtkkjonkcjlnohaaGreatDoor

/- The law's small functions: number, count, the closure that compares facts; strings.Split. -/
namespace Go.Proofs.YtkkjonkcjlnohaaGreatDoor
set_option linter.unusedSimpArgs false
set_option linter.unusedVariables false
set_option linter.unnecessarySimpa false
open Go.RowKit

theorem splitC_any {w : World} {s : ByteArray} (c : UInt8) (hG : Glob w) (hs : s.size ≤ 1000000) : Calls Tryz.prog 13 #[.string s, .string ⟨#[c]⟩] w fun e w' => e = .returned (.slice (some ⟨w.heap.size, 0, none⟩) (splC c s).length (splC c s).length) ∧ w' = w.alloc (.cells ((splC c s).map Value.string).toArray 9) := by
  obtain ⟨m, hm⟩ := hG.maxlen
  have hl : (splC c s).length = Lib.countB s ⟨#[c]⟩ + 1 := Lib.splitB_all ⟨#[c]⟩ (Nat.le_refl 1) 0 _ s rfl
  refine (Tryz.strings_Split s ⟨#[c]⟩ m w (by omega) hm (Nat.le_refl 1)).mono ?_
  rintro e w' ⟨rfl, rfl⟩
  exact ⟨by rw [hl], rfl⟩
theorem numV_small : ∀ (l : List UInt8) , l.all digB = true → l.length ≤ 3 → numV 0 l ≤ 999 := by
  intro l hd hl
  match l, hl with
  | [], _ => decide
  | [a], _ =>
    simp only [List.all_cons, List.all_nil, Bool.and_true] at hd
    have := digB_iff.1 hd
    show 0 * 10 + (a.toNat - 48) ≤ 999
    omega
  | [a, b], _ =>
    simp only [List.all_cons, List.all_nil, Bool.and_true, Bool.and_eq_true] at hd
    have h1 := digB_iff.1 hd.1; have h2 := digB_iff.1 hd.2
    show (0 * 10 + (a.toNat - 48)) * 10 + (b.toNat - 48) ≤ 999
    omega
  | [a, b, c], _ =>
    simp only [List.all_cons, List.all_nil, Bool.and_true, Bool.and_eq_true] at hd
    have h1 := digB_iff.1 hd.1; have h2 := digB_iff.1 hd.2.1; have h3 := digB_iff.1 hd.2.2
    show ((0 * 10 + (a.toNat - 48)) * 10 + (b.toNat - 48)) * 10 + (c.toNat - 48) ≤ 999
    omega
set_option maxHeartbeats 1000000 in
set_option maxRecDepth 100000 in
theorem number8_any {w : World} {s : ByteArray} (hs : s.size ≤ 3) (hd : s.data.toList.all digB = true) : Calls Tryz.prog 8 #[.string s] w (fun e w' => e = .returned (.int .i64 (numV 0 s.data.toList)) ∧ w = w') := by
  have hz : s.data.toList.length = s.size := by simp
  have HZ := Lib.hid hz; clear hz
  have HDG := Lib.hid hd; clear hd
  go_enter Tryz.func8, Tryz.ntmps8
  go_wp2
  go_loopw [3, 7] (fun v i wr => ∃ k : Nat, k ≤ s.size ∧ i = .int .i64 k ∧ v = .int .i64 (numV 0 (s.data.toList.take k)) ∧ w = wr) (fun _ i _ => s.size - (intOf i).toNat)
  case atStart => exact ⟨0, Nat.zero_le _, rfl, rfl, rfl⟩
  case round =>
    obtain ⟨k, hk, rfl, rfl, rfl⟩ := hrel
    by_cases hlt : k < s.size
    · have hkl : k < s.data.toList.length := by rw [HZ.out]; exact hlt
      obtain ⟨c, hc⟩ : ∃ c : UInt8, s.data.toList[k] = c := ⟨_, rfl⟩
      have htk : numV 0 (s.data.toList.take (k + 1)) = numV 0 (s.data.toList.take k) * 10 + (c.toNat - 48) := by rw [List.take_succ_eq_append_getElem hkl, hc, numV_snoc]
      have hdc : digB c = true := by rw [← hc]; exact List.all_eq_true.1 HDG.out _ (List.getElem_mem _)
      have hns : numV 0 (s.data.toList.take k) ≤ 999 := numV_small _ (List.all_eq_true.2 (fun x hx => List.all_eq_true.1 HDG.out x (List.mem_of_mem_take hx))) (by rw [List.length_take]; omega)
      have hcb : s[k]'hlt = c := by rw [← hc]; rfl
      have hidx : ∀ W, (Instr.index 9 (.string s) (.int .i64 k)).run Tryz.prog W = .ok (.int .u8 c.toNat) W := fun W => by
        rw [run_index_string W 9 s .i64 k Tryz.underlying9, dif_pos (by omega)]
        simp only [Int.toNat_natCast, hcb]
      have h2 := digB_iff.1 hdc
      obtain ⟨m, hm⟩ : ∃ m, numV 0 (s.data.toList.take k) = m := ⟨_, rfl⟩
      rw [hm] at htk hns ⊢
      have HTK := Lib.hid htk
      have hlti : ((k : Int) < (s.size : Int)) = True := eq_true (by omega)
      have q1 : ((c.toNat : Int) < 48) = False := eq_false (by omega)
      have q2 : ((57 : Int) < (c.toNat : Int)) = False := eq_false (by omega)
      have q1' : ((48 : Int) ≤ (c.toNat : Int)) = True := eq_true (by omega)
      have q2' : ((c.toNat : Int) ≤ 57) = True := eq_true (by omega)
      have q3 : ((m : Int) < 1099511627776) = True := eq_true (by omega)
      have s1 := IntWalk.i64_in (10 * (m : Int)) ⟨by omega, by omega⟩
      have s2 : IntKind.u8.wrap ((c.toNat : Int) - 48) = (c.toNat : Int) - 48 := by
        unfold IntKind.wrap; simp [IntKind.bits, IntKind.signed]; omega
      have s4 : IntKind.i64.wrap ((c.toNat : Int) - 48) = (c.toNat : Int) - 48 := IntWalk.i64_in _ ⟨by omega, by omega⟩
      have s3 := IntWalk.i64_in (10 * (m : Int) + ((c.toNat : Int) - 48)) ⟨by omega, by omega⟩
      have HC := Lib.hid h2
      clear hc htk hdc hcb hm h2
      go_wp2
      go_roundw
      case rel =>
        refine ⟨k + 1, by omega, by go_num, ?_, by first | rfl | trivial⟩
        have h2 := HC.out
        rw [HTK.out]
        congr 1
        omega
      case measure => simp [intOf]; omega
    · have hke : k = s.size := by omega
      subst hke
      have hji : ((s.size : Int) < (s.size : Int)) = False := by simp
      go_wp2
      go_ret
      refine ⟨?_, by first | rfl | trivial⟩
      rw [List.take_of_length_le (by rw [HZ.out]; exact Nat.le_refl _)]
      rfl
theorem number_itoa {w : World} {i : Int} (h : 1 ≤ i ∧ i ≤ 20) : Calls Tryz.prog 8 #[.string (itoaB i)] w (fun e w' => e = .returned (.int .i64 i) ∧ w = w') := by
  obtain ⟨u, rfl⟩ : ∃ u : Nat, i = u := ⟨i.toNat, by omega⟩
  have e : (itoaB (u : Int)).data.toList = Lib.decDigits u := by simp [itoaB, Lib.itoa_nonneg]
  obtain ⟨h2, h3⟩ := numV_dec u
  have hl : (itoaB (u : Int)).size ≤ 3 := by
    have hz : (itoaB (u : Int)).data.toList.length = (itoaB (u : Int)).size := by simp
    rw [← hz, e]
    rw [Lib.decDigits_length]
    by_cases h9 : u < 10
    · rw [Lib.nDigits_small h9]; omega
    · rw [Lib.nDigits_big h9, Lib.nDigits_small (by omega)]; omega
  have hh := number8_any (w := w) hl (by rw [e]; exact h2)
  rw [e, h3] at hh
  exact hh
theorem fcl_any {w : World} {u v : Value} {f g : Fct} {b : Nat} (hu : Rd w 1 u 2 (icells (fl f))) (hv : Rd w 1 v 2 (icells (fl g))) (hb : w.cell? ⟨b, 0 + 1, none⟩ = some u) :
    Calls Tryz.prog 10 #[.agg #[.int .i64 0, v], .pointer (some ⟨b, 0, none⟩)] w fun e w' => e = .returned (.bool (decide (f = g))) ∧ Keep (fun _ => False) w w' := by
  have HC : Hid (∀ W, Keep (fun _ => False) w W → Calls Tryz.prog 11 #[u, v] W (DrawPost W (.bool (eqJ (fl f) (fl g))))) := Lib.hid (fun W k => eqI_any (l := fl f) (m := fl g) (hu.keep k (fun _ _ h => h)) (hv.keep k (fun _ _ h => h)) (by simp [fl]))
  obtain ⟨ua, uc, hue, _⟩ := hu.shape
  obtain ⟨va, vc, hve, _⟩ := hv.shape
  subst hue hve
  have he : eqJ (fl f) (fl g) = decide (f = g) := by
    unfold eqJ fl
    rw [Bool.eq_iff_iff]
    simp [Prod.ext_iff]
  rw [he] at HC
  obtain ⟨r, hr⟩ : ∃ r, decide (f = g) = r := ⟨_, rfl⟩
  rw [hr] at HC ⊢
  clear hu hv hr he
  have hb2 : ∀ o, (w.alloc o).cell? ⟨b, 0 + 1, none⟩ = some (.slice ua 2 uc) := fun o => Go.Lib.cell?_alloc_some o hb
  have hb3 := hb2 (.cells #[.int .i64 0, .slice va 2 vc] 38)
  have hb4 : (w.alloc (.cells #[.int .i64 0, .slice va 2 vc] 38)).cell? ⟨b, 1, none⟩ = some (.slice ua 2 uc) := hb3
  clear hb2
  go_enter Tryz.func10, Tryz.ntmps10
  go_wp2_with (go_at_call 11; refine (HC.out _ ((Keep.refl _ w).alloc _)).mono ?_; rintro e w' ⟨rfl, q, rfl⟩)
  go_ret
  exact ⟨rfl, ((Keep.refl _ _).alloc _).drewN _⟩
set_option maxHeartbeats 1000000 in
set_option maxRecDepth 100000 in
theorem countT_any {base : Nat} {w : World} {H : HV} {D : Dsk} {S : St} {ls : List ByteArray} {lost : Bool} {m : Nat} (hG : Glob w) (h : HouseAt base w H D S ls lost) (hI : Inv m S) :
    Calls Tryz.prog 14 #[.pointer (some ⟨H.h, 0, none⟩)] w (IdxPost w (.int .i64 (Lib.countByte (listF S.lots).data.toList 32))) := by
  have HASK := Lib.hid (ask_lots hG h hI)
  obtain ⟨s, hs⟩ : ∃ s, listF S.lots = s := ⟨_, rfl⟩
  rw [hs] at HASK ⊢
  have HCT := Lib.hid (fun W => Tryz.strings_Count_one s 32 W)
  obtain ⟨r, hr⟩ : ∃ r, Lib.countByte s.data.toList 32 = r := ⟨_, rfl⟩
  rw [hr] at HCT ⊢
  clear hs hG h hI hr
  go_enter Tryz.func14, Tryz.ntmps14
  go_wp2_with (first
    | (go_at_call 12; refine HASK.out.mono ?_; rintro e w1 ⟨rfl, hk1⟩; have HK1 := Lib.hid hk1; clear hk1)
    | (go_at_call 29; refine (HCT.out _).mono ?_; rintro e w2 ⟨rfl, rfl⟩))
  go_ret
  exact ⟨rfl, HK1.out⟩
end Go.Proofs.YtkkjonkcjlnohaaGreatDoor

/- The law's reader of notes: said. -/
namespace Go.Proofs.YtkkjonkcjlnohaaGreatDoor
set_option linter.unusedSimpArgs false
set_option linter.unusedVariables false
set_option linter.unnecessarySimpa false
open Go.RowKit

/-- A slice of slices of words. -/
structure LinesAt (base : Nat) (w : World) (v : Value) (us : List Value) (ws : List (List ByteArray)) : Prop where
  own : w.ownsRow base 24 1 v ws.length us
  rd : ∀ j, j < ws.length → Rd w 1 (vat us j) (ws.getD j []).length (strCells (ws.getD j []))
  sep : ∀ j, j < ws.length → ∀ g, (vat us j).ownBlock = some g → v.ownBlock ≠ some g
  one : ∀ u ∈ us, u.oneCell' = true
  lt : ∀ j, j < ws.length → ∀ g, (vat us j).ownBlock = some g → g < w.heap.size
theorem LinesAt.len {base : Nat} {w : World} {v : Value} {us : List Value} {ws : List (List ByteArray)} (h : LinesAt base w v us ws) : us.length = ws.length := by have := h.own.1; omega
theorem LinesAt.keep {base : Nat} {w w' : World} {v : Value} {us : List Value} {ws : List (List ByteArray)} (h : LinesAt base w v us ws) (k : Keep (fun _ => False) w w') : LinesAt base w' v us ws :=
  ⟨ownsRow_keep h.own k (fun _ _ h => h), fun j hj => (h.rd j hj).keep k (fun _ _ h => h), h.sep, h.one, fun j hj g e => Nat.lt_of_lt_of_le (h.lt j hj g e) k.size⟩
theorem LinesAt.nil (base : Nat) (w : World) : LinesAt base w (.slice none 0 0) [] [] :=
  ⟨World.ownsRow_nil _ _ _ _, fun j hj => absurd hj (Nat.not_lt_zero _), fun j hj => absurd hj (Nat.not_lt_zero _), fun u hu => absurd hu List.not_mem_nil, fun j hj => absurd hj (Nat.not_lt_zero _)⟩
theorem LinesAt.snoc {base : Nat} {w w' : World} {v v' u : Value} {us : List Value} {ws : List (List ByteArray)} {x : List ByteArray} (h : LinesAt base w v us ws) (ha : App w base 24 1 v ws.length us 1 [u] v' w') (hu : Rd w 1 u x.length (strCells x)) (hs : ∀ g, u.ownBlock = some g → v.ownBlock ≠ some g) (hlt : ∀ g, u.ownBlock = some g → g < w.heap.size) (h1 : u.oneCell' = true) : LinesAt base w' v' (us ++ [u]) (ws ++ [x]) := by
  have hl := h.len
  have gl : ∀ j, j < ws.length → (ws ++ [x]).getD j [] = ws.getD j [] := fun j hj => by simp [List.getD, List.getElem?_append_left hj]
  have ge : (ws ++ [x]).getD ws.length [] = x := by simp [List.getD]
  have hall : ∀ j, j < (ws ++ [x]).length → ∀ g, (vat (us ++ [u]) j).ownBlock = some g → g < w.heap.size ∧ v.ownBlock ≠ some g := fun j hj g hg => by
    rw [List.length_append, List.length_singleton] at hj
    by_cases e : j = ws.length
    · subst e
      rw [← hl, vat_append_end] at hg
      exact ⟨hlt g hg, hs g hg⟩
    · rw [vat_append_lt (by omega)] at hg
      exact ⟨h.lt j (by omega) g hg, h.sep j (by omega) g hg⟩
  refine ⟨by rw [List.length_append]; exact ha.own, fun j hj => ?_, fun j hj g hg => ?_, fun y hy => ?_, fun j hj g hg => Nat.lt_of_lt_of_le (hall j hj g hg).1 ha.keep.size⟩
  · rw [List.length_append, List.length_singleton] at hj
    by_cases e : j = ws.length
    · subst e
      rw [ge, ← hl, vat_append_end]
      exact hu.keep ha.keep (fun g hg e2 => hs g hg e2)
    · rw [gl j (by omega), vat_append_lt (by omega)]
      exact (h.rd j (by omega)).keep ha.keep (fun g hg e2 => h.sep j (by omega) g hg e2)
  · obtain ⟨h2, h3⟩ := hall j hj g hg
    rcases ha.fresh with e | ⟨g2, e, hge⟩
    · rw [e]; exact h3
    · rw [e]
      intro e2
      have : g2 = g := Option.some.inj e2
      omega
  · rcases List.mem_append.1 hy with hy | hy
    · exact h.one y hy
    · rw [List.mem_singleton.1 hy]; exact h1
theorem info24 : (Tryz.prog.info? 24).map (fun i => (i.zero, i.size, i.bytes)) = some (some (.slice none 0 0), 1, 24) := by kernel_rfl
theorem line_size {S : St} {ns : List Nt} {m : Nat} (hI : Inv m S) (hK : ∀ x ∈ S.lots, LotK x) (h : NI S ns) : ∀ y ∈ splC 10 (textF S), y.size ≤ 4096 := by
  intro y hy
  rw [text_lines hK h] at hy
  rcases List.mem_cons.1 hy with rfl | hy
  · have := listF_size hI; omega
  · rcases List.mem_append.1 hy with hy | hy
    · rw [← h.2.1] at hy
      have := hI.no y hy; omega
    · rw [List.mem_singleton.1 hy]; decide
def noteWs (T : List (Int × Int)) : List (List ByteArray) := T.map fun x => [testW, itoaB x.1, goodW x.2]
theorem said_words {S : St} {ns : List Nt} (hK : ∀ x ∈ S.lots, LotK x) (h : NI S ns) : ((splC 10 (textF S)).filter isT).map words = noteWs S.tests := by
  rw [test_lines hK h, List.map_map]
  refine List.map_congr_left (fun x hx => ?_)
  have hr := h.tests x hx
  exact testNote_words (i := x.1) (g := x.2) hr
def SaidPost (w : World) (T : List (Int × Int)) (e : Ending) (w' : World) : Prop :=
  ∃ (v : Value) (us : List Value), e = .returned v ∧ LinesAt w.heap.size w' v us (noteWs T) ∧ Keep (fun _ => False) w w'
def SdRel (w2 : World) (L : List ByteArray) (v i : Value) (wr : World) : Prop :=
  ∃ (k : Nat) (us : List Value), k ≤ L.length ∧ i = .int .i64 k ∧ LinesAt w2.heap.size wr v us (((L.take k).filter isT).map words) ∧ Keep (fun _ => False) w2 wr
theorem filter_take_snoc {L : List ByteArray} {k : Nat} (h : k < L.length) : ((L.take (k + 1)).filter isT).map words = ((L.take k).filter isT).map words ++ if isT (L.getD k ByteArray.empty) then [words (L.getD k ByteArray.empty)] else [] := by
  have e : L.getD k ByteArray.empty = L[k] := by simp [List.getD, h]
  rw [e, List.take_succ_eq_append_getElem h, List.filter_append, List.map_append]
  congr 1
  cases ht : isT L[k]
  · rw [List.filter_cons_of_neg (by rw [ht]; decide)]; rfl
  · rw [List.filter_cons_of_pos ht]; rfl
theorem toList_beq {a : ByteArray} {l : List UInt8} : (a.toList == l) = decide (a = bs l) := by
  rw [Bool.eq_iff_iff, beq_iff_eq, decide_eq_true_iff, ByteArray.toList_eq]
  constructor
  · intro h
    apply ByteArray.ext; apply Array.toList_inj.1
    rw [h]; simp [bs]
  · intro h
    rw [h]; simp [bs]
set_option maxHeartbeats 4000000 in
set_option maxRecDepth 100000 in
theorem said_any {base : Nat} {w : World} {H : HV} {D : Dsk} {S : St} {ls : List ByteArray} {lost : Bool} {m : Nat} {ns : List Nt} (hG : Glob w) (h : HouseAt base w H D S ls lost) (hI : Inv m S) (hm : m ≤ 1000) (hK : ∀ x ∈ S.lots, LotK x) (hN : NI S ns) :
    Calls Tryz.prog 7 #[.pointer (some ⟨H.h, 0, none⟩), .string testW] w (SaidPost w S.tests) := by
  have HST := Lib.hid (state_any hG h hI (by omega))
  have hts : (textF S).size ≤ 1000000 := by
    have h1 := textF_size hI (by omega)
    have h2 := hI.n
    unfold textF
    rw [ByteArray.size_append]
    have h3 : (bs [10]).size = 1 := rfl
    have h4 : S.notes.length * 101 ≤ 2000 * 101 := Nat.mul_le_mul_right _ (by omega)
    omega
  have hls := line_size hI hK hN
  have hsw := said_words hK hN
  have hLl : (splC 10 (textF S)).length ≤ 10000 := by
    rw [text_lines hK hN, List.length_cons, List.length_append, ← hN.2.1]
    have := hI.n
    show S.notes.length + 1 + 1 ≤ 10000
    omega
  obtain ⟨tx, htx⟩ : ∃ tx, textF S = tx := ⟨_, rfl⟩
  rw [htx] at HST hts hls hsw hLl
  obtain ⟨L, hL⟩ : ∃ L, splC 10 tx = L := ⟨_, rfl⟩
  have HSP : Hid (∀ W, Glob W → Calls Tryz.prog 13 #[.string tx, .string ⟨#[10]⟩] W fun e w' => e = .returned (.slice (some ⟨W.heap.size, 0, none⟩) L.length L.length) ∧ w' = W.alloc (.cells (L.map Value.string).toArray 9)) := Lib.hid (fun W hW => by rw [← hL]; exact splitC_any 10 hW hts)
  rw [hL] at hls hsw hLl
  have HG := Lib.hid hG; have HLS := Lib.hid hls; have HSW := Lib.hid hsw
  obtain ⟨tw, htw⟩ : ∃ t, testW = t := ⟨_, rfl⟩
  have HTW := Lib.hid htw
  rw [htw]
  obtain ⟨n, hn⟩ : ∃ n, L.length = n := ⟨_, rfl⟩
  have HN := Lib.hid hn
  rw [hn] at HSP hLl
  clear hG h hI hK hN htx hL hls hsw hts htw hn
  go_enter Tryz.func7, Tryz.ntmps7
  go_wp2_with (first
    | (go_at_call 25; refine HST.out.mono ?_; rintro e w1 ⟨rfl, hk1⟩; have HK1 := Lib.hid hk1; clear hk1)
    | (go_at_call 13; refine (HSP.out _ (HG.out.keep HK1.out)).mono ?_; rintro e w2 ⟨rfl, hw2⟩; have HR2 : Hid (Rd w2 1 (.slice (some ⟨w1.heap.size, 0, none⟩) n n) n (strCells L)) := Lib.hid (by have h := Rd.new w1 1 L.length (strCells L) 9 (by simp [strCells]) (strCells_one L) (by have := HN.out; unfold maxLen; omega); rw [HN.out] at h; rw [hw2]; exact h)
       have HK2 := Lib.hid (show Keep (fun _ => False) w w2 by rw [hw2]; exact HK1.out.alloc _); clear hw2))
  obtain ⟨lb, hlb⟩ : ∃ b, w1.heap.size = b := ⟨_, rfl⟩
  rw [hlb] at HR2 ⊢
  clear hlb
  go_loopw [5, 13] (fun v i wr => SdRel w2 L v i wr) (fun _ i _ => n - (intOf i).toNat)
  case atStart => exact ⟨0, [], Nat.zero_le _, rfl, LinesAt.nil _ _, Keep.refl _ _⟩
  case round =>
    obtain ⟨k, us, hk, rfl, hla, hk8⟩ := hrel
    obtain ⟨a5, c5, hve, _⟩ := ownsRow_shape hla.own
    obtain ⟨q, hq⟩ : ∃ q, (((L.take k).filter isT).map words).length = q := ⟨_, rfl⟩
    have hqk : q ≤ k := by
      rw [← hq, List.length_map]
      have := List.length_filter_le isT (L.take k)
      rw [List.length_take] at this
      omega
    rw [hq] at hve
    subst hve
    have HLA := Lib.hid hla; have HK8 := Lib.hid hk8; have HQ := Lib.hid hq
    clear hla hk8 hq
    by_cases hlt : k < n
    · have hlti : ((k : Int) < (n : Int)) = True := eq_true (by omega)
      obtain ⟨rb, ro, hao, hcl⟩ : ∃ b o, some (⟨lb, 0, none⟩ : Addr) = some ⟨b, o, none⟩ ∧ wr.cell? ⟨b, o + k, none⟩ = some (.string (L.getD k ByteArray.empty)) := by
        rcases (HR2.out.keep HK8.out (fun _ _ h => h)).2.2 with ⟨h, h'⟩ | ⟨b, o, c, h, _, _, hx⟩
        · omega
        · injection h with h1 h2 h3
          exact ⟨b, o, h1, hx _ _ (strCells_get L k (by have := HN.out; omega))⟩
      cases hao
      rw [Nat.zero_add] at hcl
      have hkl : k < L.length := by have := HN.out; omega
      have hts := filter_take_snoc hkl
      have hsz := HLS.out (L.getD k ByteArray.empty) (by rw [show L.getD k ByteArray.empty = L[k] by simp [List.getD, hkl]]; exact List.getElem_mem _)
      obtain ⟨s, hs⟩ : ∃ s, L.getD k ByteArray.empty = s := ⟨_, rfl⟩
      rw [hs] at hcl hts hsz
      have HSPL : Hid (∀ W, Keep (fun _ => False) wr W → Calls Tryz.prog 13 #[.string s, .string ⟨#[32]⟩] W (SplitPost W s)) := Lib.hid (fun W kW => split_any (HG.out.keep ((HK2.out.trans HK8.out (fun _ _ h => h)).trans kW (fun _ _ h => h))) hsz)
      have HTS := Lib.hid hts
      have hpos : 1 ≤ (words s).length := by rw [words_length]; omega
      have hcap : (words s).length ≤ maxLen := by
        rw [words_length]
        have := Lib.countB_le ⟨#[32]⟩ (Nat.le_refl 1) s.size s (Nat.le_refl _)
        unfold maxLen; omega
      clear hs hts hkl
      obtain ⟨nw, hnw⟩ : ∃ nw, (words s).length = nw := ⟨_, rfl⟩
      have HNW := Lib.hid hnw
      have HRD : Hid (∀ W : World, Rd (W.alloc (.cells ((words s).map Value.string).toArray 9)) 1 (.slice (some ⟨W.heap.size, 0, none⟩) nw nw) nw (strCells (words s))) := Lib.hid (fun W => by
        have h := Rd.new W 1 (words s).length (strCells (words s)) 9 (by simp [strCells]) (strCells_one _) hcap
        rw [HNW.out] at h
        exact h)
      have HIT : Hid (isT s = (decide (nw = 3) && decide ((words s).getD 0 ByteArray.empty = tw))) := Lib.hid (by unfold isT; rw [hnw, HTW.out])
      have HC0 : Hid (∀ W : World, (W.alloc (.cells ((words s).map Value.string).toArray 9)).cell? ⟨W.heap.size, 0, none⟩ = some (.string ((words s).getD 0 ByteArray.empty))) := Lib.hid (fun W => words_cell W s 0 (by omega))
      obtain ⟨w0, hw0⟩ : ∃ w0, (words s).getD 0 ByteArray.empty = w0 := ⟨_, rfl⟩
      unfold SplitPost at HSPL
      rw [hw0] at HIT HC0
      rw [hnw] at HSPL hpos hcap
      clear hnw hw0
      by_cases h3 : nw = 3
      · subst h3
        have hc3 : (w0.toList == tw.toList) = decide (w0 = tw) := by
          rw [toList_beq]
          have : bs tw.toList = tw := by
            apply ByteArray.ext; apply Array.toList_inj.1
            rw [ByteArray.toList_eq]; simp [bs]
          rw [this]
        by_cases hw : w0 = tw
        · rw [decide_eq_true hw] at hc3
          have HT : Hid (isT s = true) := Lib.hid (by rw [HIT.out, decide_eq_true hw]; rfl)
          clear hw
          go_wp2_with (first
            | (go_at_call 13; refine (HSPL.out _ (Keep.refl _ _)).mono ?_; rintro e w4 ⟨rfl, hw4⟩
               have hr4 := HRD.out wr; have c0 := HC0.out wr; have k4 : Keep (fun _ => False) wr w4 := by rw [hw4]; exact (Keep.refl _ _).alloc _
               rw [← hw4] at hr4 c0; have hs4 : wr.heap.size < w4.heap.size := (by rw [hw4, World.size_alloc]; omega); have HR4 := Lib.hid hr4; have HK4 := Lib.hid k4; have HS4 := Lib.hid hs4; clear hr4 k4 hw4 hs4)
            | (at_builtin; go_loud (refine wpList_app (w := w4.alloc (.cells #[.slice (some ⟨wr.heap.size, 0, none⟩) 3 3] 24)) rfl (.tmp 29) (.tmp 31) 34 34 rfl 24 (.slice none 0 0) 1 24 Tryz.underlying34 info24 rfl ((show w4.ownsRow w2.heap.size 24 1 (.slice a5 q c5) q us from by have h := (HLA.out.keep HK4.out).own; rw [HQ.out] at h; exact h).alloc _) rfl (Src.new (P := Tryz.prog) Tryz.underlying34 w4 1 [.slice (some ⟨wr.heap.size, 0, none⟩) 3 3] 24 rfl (by simp [Value.oneCell'])) rfl (by unfold maxLen; omega) (by omega) (by have := HK8.out.size; have := HK4.out.size; simp; omega) ?_; intro v9 w9 happ; have HA := Lib.hid happ; clear happ)))
          go_roundw
          case rel =>
            refine ⟨k + 1, us ++ [.slice (some ⟨wr.heap.size, 0, none⟩) 3 3], by have := HN.out; omega, by go_num, ?_, (HK8.out.trans (HK4.out.alloc _) (fun _ _ h => h)).trans HA.out.keep (fun i hi e => by have := (HLA.out.own.lt i e).1; omega)⟩
            rw [HTS.out, HT.out, if_pos rfl]
            refine LinesAt.snoc (v := .slice a5 q c5) ((by have := HLA.out; rw [HQ.out] at *; exact this : LinesAt w2.heap.size wr (.slice a5 q c5) us _).keep (HK4.out.alloc (.cells #[.slice (some ⟨wr.heap.size, 0, none⟩) 3 3] 24))) (by rw [HQ.out]; exact HA.out) (by rw [HNW.out]; exact HR4.out.keep ((Keep.refl (fun _ => False) w4).alloc _) (fun _ _ h => h)) (fun g e e2 => ?_) (fun g e => ?_) rfl
            · have h1 := (HLA.out.own.lt g e2).2
              have h2 : wr.heap.size = g := Option.some.inj e
              omega
            · have h2 : wr.heap.size = g := Option.some.inj e
              have := HS4.out
              rw [World.size_alloc]; omega
          case measure => simp [intOf]; omega
        · rw [decide_eq_false hw] at hc3
          have HT : Hid (isT s = false) := Lib.hid (by rw [HIT.out, decide_eq_false hw]; rfl)
          clear hw
          go_wp2_with (go_at_call 13; refine (HSPL.out _ (Keep.refl _ _)).mono ?_; rintro e w4 ⟨rfl, hw4⟩
                       have c0 := HC0.out wr; have k4 : Keep (fun _ => False) wr w4 := by rw [hw4]; exact (Keep.refl _ _).alloc _
                       rw [← hw4] at c0; have HK4 := Lib.hid k4; clear k4 hw4)
          go_roundw
          case rel =>
            refine ⟨k + 1, us, by have := HN.out; omega, by go_num, ?_, HK8.out.trans HK4.out (fun _ _ h => h)⟩
            rw [HTS.out, HT.out, if_neg (by decide), List.append_nil]
            exact HLA.out.keep HK4.out
          case measure => simp [intOf]; omega
      · have hc3 : ((nw : Int) == 3) = false := by rw [beq_eq_false_iff_ne]; omega
        have HT : Hid (isT s = false) := Lib.hid (by rw [HIT.out, decide_eq_false h3]; rfl)
        clear h3
        go_wp2_with (go_at_call 13; refine (HSPL.out _ (Keep.refl _ _)).mono ?_; rintro e w4 ⟨rfl, hw4⟩
                     have k4 : Keep (fun _ => False) wr w4 := by rw [hw4]; exact (Keep.refl _ _).alloc _
                     have HK4 := Lib.hid k4; clear k4 hw4)
        go_roundw
        case rel =>
          refine ⟨k + 1, us, by have := HN.out; omega, by go_num, ?_, HK8.out.trans HK4.out (fun _ _ h => h)⟩
          rw [HTS.out, HT.out, if_neg (by decide), List.append_nil]
          exact HLA.out.keep HK4.out
        case measure => simp [intOf]; omega
    · have hke : k = n := by have := HN.out; omega
      subst hke
      have hji : ((k : Int) < (k : Int)) = False := by simp
      have htk : L.take k = L := List.take_of_length_le (by rw [HN.out]; exact Nat.le_refl _)
      have hla := HLA.out
      rw [htk, HSW.out] at hla
      have HLA2 := Lib.hid hla
      clear htk hla
      go_wp2_with fail
      go_ret
      exact ⟨_, us, rfl, ⟨ownsRow_base HLA2.out.own HK2.out.size, HLA2.out.rd, HLA2.out.sep, HLA2.out.one, HLA2.out.lt⟩, HK2.out.trans HK8.out (fun _ _ h => h)⟩
end Go.Proofs.YtkkjonkcjlnohaaGreatDoor

/- The law's facts and the house's; what the reply says: plain Lean. -/
namespace Go.Proofs.YtkkjonkcjlnohaaGreatDoor
set_option linter.unusedSimpArgs false
set_option linter.unusedVariables false
set_option linter.unnecessarySimpa false
open Go.RowKit

/-- A test as a fact of the law: good is 1, bad 2. -/
def lfF (x : Int × Int) : Fct := (x.1, 2 - x.2)
def lFacts (T : List (Int × Int)) : List Fct := onceL (T.map lfF)
theorem lfF_inj {x y : Int × Int} (h : lfF x = lfF y) : x = y := by
  have h1 := congrArg Prod.fst h
  have h2 := congrArg Prod.snd h
  simp only [lfF] at h1 h2
  exact Prod.ext h1 (by omega)
theorem lFacts_flip (T : List (Int × Int)) : lFacts T = flip (hFacts T) := by
  unfold lFacts hFacts flip
  rw [onceL_map lfF T (fun x _ y _ h => lfF_inj h), List.map_map]
  refine List.map_congr_left (fun x _ => ?_)
  show (x.1, 2 - x.2) = (x.1, 3 - (1 + x.2))
  rw [show 3 - (1 + x.2) = 2 - x.2 by omega]
theorem lFacts_len (T : List (Int × Int)) : (lFacts T).length = (onceL T).length := by
  rw [lFacts_flip]
  unfold flip
  rw [List.length_map, hFacts_len]
theorem lFacts_good {T : List (Int × Int)} (h : TestsOk T) (hl : (onceL T).length ≤ 12) : Good12 (lFacts T) := by
  refine ⟨by rw [lFacts_len]; exact hl, onceL_nodup _, fun f hf => ?_⟩
  obtain ⟨x, hx, rfl⟩ := List.mem_map.1 (mem_onceL.1 hf)
  have := h x hx
  show (1 ≤ x.1 ∧ x.1 ≤ 99) ∧ 1 ≤ 2 - x.2 ∧ 2 - x.2 ≤ 99
  rcases this with ⟨h1, h2⟩
  omega
theorem cnt_zero {i : Int} (hi : 1 ≤ i) (G : List Fct) : (cnt (-i) (-1) G : Int) = 0 ↔ (i, 1) ∉ G := by
  unfold cnt
  rw [Int.natCast_eq_zero, List.length_eq_zero_iff, List.filter_eq_nil_iff]
  constructor
  · intro h hm
    refine h _ hm ?_
    unfold fit
    simp
  · intro h f hf hfit
    refine h ?_
    unfold fit at hfit
    simp at hfit
    have e : f = (i, 1) := Prod.ext (by rcases hfit.1 with h | h <;> omega) hfit.2
    rw [← e]; exact hf
/-- The law's answer and the house's are one. -/
theorem sure_match {T : List (Int × Int)} {R Q : List Nat} {rows : List Int} {i : Int} (hl : (onceL T).length ≤ 12) (hR : RepsOf (hFacts T) R) (hm : ∀ x, x ∈ rows ↔ ∀ r ∈ R, (x, 2) ∈ pick (hFacts T) r) (hQ : RepsOf (lFacts T) Q) (hi : 1 ≤ i) :
    (!(Q.map (cntI (-i) (-1) (lFacts T))).contains 0) = decide (i ∈ rows) := by
  rw [Bool.eq_iff_iff, decide_eq_true_iff, hm, sure_law (by rw [hFacts_len]; exact hl) hR (by rw [← lFacts_flip]; exact hQ) i, ← lFacts_flip]
  rw [Bool.not_eq_true', ← Bool.not_eq_true, List.contains_iff_mem, List.mem_map]
  constructor
  · intro h r hr
    refine Classical.byContradiction (fun hn => h ⟨r, hr, (cnt_zero hi _).2 hn⟩)
  · rintro h ⟨r, hr, e⟩
    exact (cnt_zero hi _).1 e (h r hr)

theorem itoa_inj {a b : Int} (ha : 0 ≤ a) (hb : 0 ≤ b) (h : itoaB a = itoaB b) : a = b := by
  obtain ⟨u, rfl⟩ : ∃ u : Nat, a = u := ⟨a.toNat, by omega⟩
  obtain ⟨v, rfl⟩ : ∃ v : Nat, b = v := ⟨b.toNat, by omega⟩
  have eu : (itoaB (u : Int)).data.toList = Lib.decDigits u := by simp [itoaB, Lib.itoa_nonneg]
  have ev : (itoaB (v : Int)).data.toList = Lib.decDigits v := by simp [itoaB, Lib.itoa_nonneg]
  have h1 := (numV_dec u).2
  have h2 := (numV_dec v).2
  rw [← eu, h, ev, h2] at h1
  rw [h1]
theorem sureN_join (l : List Int) : ∀ k, k ≤ l.length → sureN l k = jbs (sureB :: (l.take k).map itoaB) (bs [32])
  | 0, _ => by
    apply ByteArray.ext; apply Array.toList_inj.1
    simp [sureN, jbs, Lib.join_cons, Lib.joinTail]
  | k + 1, h => by
    have e : l.getD k 0 = l[k] := by simp [List.getD, show k < l.length by omega]
    rw [List.take_succ_eq_append_getElem (by omega), List.map_append, List.map_cons, List.map_nil, jbs_snoc, ← sureN_join l k (by omega), ← e]
    rfl
theorem sureN_words {rows : List Int} (h : ∀ x ∈ rows, 1 ≤ x ∧ x ≤ 20) : words (sureN rows rows.length) = sureB :: rows.map itoaB := by
  rw [sureN_join rows rows.length (Nat.le_refl _), List.take_length]
  refine splC_join 32 _ _ (fun y hy hc => ?_)
  rcases List.mem_cons.1 hy with rfl | hy
  · exact absurd hc (by decide)
  · obtain ⟨x, hx, rfl⟩ := List.mem_map.1 hy
    have := (itoa_no (by have := h x hx; omega) 32 hc).1
    exact absurd this (by decide)
theorem sure_contains {rows : List Int} {i : Int} (h : ∀ x ∈ rows, 1 ≤ x ∧ x ≤ 20) (hi : 0 ≤ i) : Lib.containsS (rows.map itoaB) (itoaB i) = decide (i ∈ rows) := by
  rw [Bool.eq_iff_iff, decide_eq_true_iff, Lib.containsS_iff, List.mem_map]
  constructor
  · rintro ⟨x, hx, e⟩
    rw [← itoa_inj (by have := h x hx; omega) hi e]
    exact hx
  · intro hm
    exact ⟨i, hm, rfl⟩
end Go.Proofs.YtkkjonkcjlnohaaGreatDoor

/- The law TopSure, walked: it returns true, whatever the bays and the lines. -/
namespace Go.Proofs.YtkkjonkcjlnohaaGreatDoor
set_option linter.unusedSimpArgs false
set_option linter.unusedVariables false
set_option linter.unnecessarySimpa false
open Go.RowKit

def L1Rel (w : World) (g : List Int) (b1 d1 m : Nat) (gh : Nat) (s42 : Value) (wx : World) : Prop :=
  ∃ (j : Nat) (H : HV) (S : St) (ls : List ByteArray), gh = m - j ∧ j ≤ m ∧ s42 = .int .i64 j ∧ H.h = b1 ∧ H.d = d1 ∧ One w H S ls wx ∧ Rep runF (S0 g) ls S ∧ ls.length ≤ j ∧ KI ls.length S ∧ ∃ ns, NI S ns
def LFRel (w1 : World) (T : List (Int × Int)) (v i : Value) (wr : World) : Prop :=
  ∃ (k : Nat) (vs : List Value), k ≤ T.length ∧ i = .int .i64 k ∧ FactsAt w1.heap.size wr v vs (onceL ((T.take k).map lfF)) ∧ Keep (fun _ => False) w1 wr
/-- Whether the new fact stands among those that are. -/
theorem fact_in {base : Nat} {wr : World} {v : Value} {vs : List Value} {F : List Fct} {a c : Int} (h : FactsAt base wr v vs F) (hl : F.length ≤ 1000) :
    Calls Tryz.prog 9 #[v, .func (.func 10) #[] #[.pointer (some ⟨wr.heap.size + 1, 0, none⟩)]] ((wr.alloc (.cells #[.int .i64 a, .int .i64 c] 3)).alloc (.cells #[.int .i64 0, .slice (some ⟨wr.heap.size, 0, none⟩) 2 2] 38))
      (IdxPost ((wr.alloc (.cells #[.int .i64 a, .int .i64 c] 3)).alloc (.cells #[.int .i64 0, .slice (some ⟨wr.heap.size, 0, none⟩) 2 2] 38)) (.bool (decide ((a, c) ∈ F)))) := by
  have hk : Keep (fun _ => False) wr ((wr.alloc (.cells #[.int .i64 a, .int .i64 c] 3)).alloc (.cells #[.int .i64 0, .slice (some ⟨wr.heap.size, 0, none⟩) 2 2] 38)) := ((Keep.refl _ _).alloc _).alloc _
  have hu := (Rd.new wr 1 2 [.int .i64 a, .int .i64 c] 3 rfl (by simp [Value.oneCell']) (by unfold maxLen; omega)).keep ((Keep.refl (fun _ => False) _).alloc (.cells #[.int .i64 0, .slice (some ⟨wr.heap.size, 0, none⟩) 2 2] 38)) (fun _ _ h => h)
  have hb := Blk.new (wr.alloc (.cells #[.int .i64 a, .int .i64 c] 3)) #[.int .i64 0, .slice (some ⟨wr.heap.size, 0, none⟩) 2 2] 38
  rw [World.size_alloc] at hb
  have h2 := (h.keep hk).frd
  have hq : anyQ (fun k => decide ((a, c) = fat F k)) vs.length = decide ((a, c) ∈ F) := by
    rw [Bool.eq_iff_iff, anyQ_iff, decide_eq_true_iff, h.ar.1]
    constructor
    · rintro ⟨k, hk, h⟩
      rw [decide_eq_true_iff] at h
      rw [h]
      exact fat_mem hk
    · intro h
      obtain ⟨k, hk, e⟩ := List.getElem_of_mem h
      exact ⟨k, hk, by rw [decide_eq_true_iff, fat_get hk, e]⟩
  rw [← hq]
  refine contF_any (q := fun k => decide ((a, c) = fat F k)) (by rw [h.ar.1]; exact h2.rd) (enters_of Tryz.func10 (by kernel_rfl) rfl) (fun W k j hj => ?_) (by rw [h.ar.1]; omega)
  exact fcl_any (f := (a, c)) (g := fat F j) (hu.keep k (fun _ _ h => h)) ((h2.keep k).ar.2 j (by rw [← h.ar.1]; exact hj)) ((hb.keep k (fun h => h)).cell 1)
theorem fact_cells {wr w4 : World} {a c : Int} (k : Keep (fun _ => False) ((wr.alloc (.cells #[.int .i64 a, .int .i64 c] 3)).alloc (.cells #[.int .i64 0, .slice (some ⟨wr.heap.size, 0, none⟩) 2 2] 38)) w4) :
    w4.cell? ⟨wr.heap.size + 1, 0, none⟩ = some (.int .i64 0) ∧ w4.cell? ⟨wr.heap.size + 1, 1, none⟩ = some (.slice (some ⟨wr.heap.size, 0, none⟩) 2 2) := by
  have hb := Blk.new (wr.alloc (.cells #[.int .i64 a, .int .i64 c] 3)) #[.int .i64 0, .slice (some ⟨wr.heap.size, 0, none⟩) 2 2] 38
  rw [World.size_alloc] at hb
  exact ⟨(hb.keep k (fun h => h)).cell 0, (hb.keep k (fun h => h)).cell 1⟩
theorem fact_add {base : Nat} {wr w4 w9 : World} {v v9 : Value} {vs : List Value} {F : List Fct} {a c : Int} (h : FactsAt base wr v vs F) (k : Keep (fun _ => False) ((wr.alloc (.cells #[.int .i64 a, .int .i64 c] 3)).alloc (.cells #[.int .i64 0, .slice (some ⟨wr.heap.size, 0, none⟩) 2 2] 38)) w4)
    (ha : App (w4.alloc (.cells #[.int .i64 0, .slice (some ⟨wr.heap.size, 0, none⟩) 2 2] 38)) base 38 2 v F.length (fcells vs) 1 [.int .i64 0, .slice (some ⟨wr.heap.size, 0, none⟩) 2 2] v9 w9) : FactsAt base w9 v9 (vs ++ [.slice (some ⟨wr.heap.size, 0, none⟩) 2 2]) (F ++ [(a, c)]) := by
  have hk : Keep (fun _ => False) wr ((wr.alloc (.cells #[.int .i64 a, .int .i64 c] 3)).alloc (.cells #[.int .i64 0, .slice (some ⟨wr.heap.size, 0, none⟩) 2 2] 38)) := ((Keep.refl _ _).alloc _).alloc _
  have hu := (Rd.new wr 1 2 [.int .i64 a, .int .i64 c] 3 rfl (by simp [Value.oneCell']) (by unfold maxLen; omega)).keep ((Keep.refl (fun _ => False) _).alloc (.cells #[.int .i64 0, .slice (some ⟨wr.heap.size, 0, none⟩) 2 2] 38)) (fun _ _ h => h)
  have kk := k.alloc (.cells #[.int .i64 0, .slice (some ⟨wr.heap.size, 0, none⟩) 2 2] 38)
  refine FactsAt.snoc (h.keep (hk.trans kk (fun _ _ h => h))) ha (hu.keep kk (fun _ _ h => h)) (fun g e e2 => ?_)
  have h1 := (h.own.lt g e2).2
  have h2 : wr.heap.size = g := Option.some.inj e
  omega
theorem contains_words {w : World} {ao : Option Addr} {lb nw : Nat} {ws : List ByteArray} {x : ByteArray} (hc : ∀ j, j < nw → w.cell? ⟨lb, j, none⟩ = some (.string (ws.getD j ByteArray.empty))) (hw : ws.length = nw) (hn : 1 ≤ nw) (hl : nw ≤ 1000) (ha : nw = 1 ∨ ao = some ⟨lb, 1, none⟩) :
    Calls Tryz.prog 16 #[.slice ao (nw - 1) (nw - 1), .string x] w fun e w' => e = .returned (.bool (Lib.containsS (ws.drop 1) x)) ∧ w = w' := by
  by_cases h : nw = 1
  · subst h
    have e : ws.drop 1 = [] := List.drop_of_length_le (by omega)
    rw [e]
    refine (Tryz.slices_Contains_string_empty ao 0 x w).mono ?_
    rintro e w' ⟨rfl, rfl⟩
    refine ⟨?_, rfl⟩
    have : Lib.containsS [] x = false := by
      cases hc : Lib.containsS [] x
      · rfl
      · exact absurd ((Lib.containsS_iff _ _).1 hc) List.not_mem_nil
    rw [this]
  · obtain rfl := ha.resolve_left h
    have hh := Tryz.slices_Contains_string lb 1 (nw - 1) (nw - 1) (ws.drop 1) x w (by simp; omega) (by omega) (fun j hj => by
      have hj' : 1 + j < nw := by simp at hj; omega
      rw [hc (1 + j) hj']
      simp [List.getD, show 1 + j < ws.length by omega, Nat.add_comm])
    rw [List.take_of_length_le (by simp; omega)] at hh
    exact hh.mono (fun e w' h => ⟨h.1, h.2.symm⟩)
theorem law_query {wr : World} {i : Nat} :
    Rd (((wr.alloc (.cells #[.int .i64 1, .int .i64 1, .int .i64 1, .int .i64 1, .int .i64 1, .int .i64 1] 3)).alloc (.cells #[.int .i64 (-(i : Int)), .int .i64 (-1)] 3)).alloc (.cells #[.int .i64 0, .slice (some ⟨wr.heap.size + 1, 0, none⟩) 2 2] 46)) 1 (.slice (some ⟨wr.heap.size, 0, none⟩) 6 6) 6 (icells (sch 1)) ∧
    (1 ≤ i → i ≤ 9 → QAt (((wr.alloc (.cells #[.int .i64 1, .int .i64 1, .int .i64 1, .int .i64 1, .int .i64 1, .int .i64 1] 3)).alloc (.cells #[.int .i64 (-(i : Int)), .int .i64 (-1)] 3)).alloc (.cells #[.int .i64 0, .slice (some ⟨wr.heap.size + 1, 0, none⟩) 2 2] 46)) (.slice none 0 0) (.slice (some ⟨wr.heap.size + 1 + 1, 0, none⟩) 1 1) (.slice (some ⟨wr.heap.size + 1, 0, none⟩) 2 2) (-(i : Int)) (-1) []) ∧
    Keep (fun _ => False) wr (((wr.alloc (.cells #[.int .i64 1, .int .i64 1, .int .i64 1, .int .i64 1, .int .i64 1, .int .i64 1] 3)).alloc (.cells #[.int .i64 (-(i : Int)), .int .i64 (-1)] 3)).alloc (.cells #[.int .i64 0, .slice (some ⟨wr.heap.size + 1, 0, none⟩) 2 2] 46)) := by
  have h1 := Rd.new wr 1 6 [.int .i64 1, .int .i64 1, .int .i64 1, .int .i64 1, .int .i64 1, .int .i64 1] 3 rfl (by simp [Value.oneCell']) (by unfold maxLen; omega)
  have h2 := Rd.new (wr.alloc (.cells #[.int .i64 1, .int .i64 1, .int .i64 1, .int .i64 1, .int .i64 1, .int .i64 1] 3)) 1 2 [.int .i64 (-(i : Int)), .int .i64 (-1)] 3 rfl (by simp [Value.oneCell']) (by unfold maxLen; omega)
  have h3 := Rd.new ((wr.alloc (.cells #[.int .i64 1, .int .i64 1, .int .i64 1, .int .i64 1, .int .i64 1, .int .i64 1] 3)).alloc (.cells #[.int .i64 (-(i : Int)), .int .i64 (-1)] 3)) 2 1 [.int .i64 0, .slice (some ⟨wr.heap.size + 1, 0, none⟩) 2 2] 46 rfl (by simp [Value.oneCell']) (by unfold maxLen; omega)
  rw [World.size_alloc] at h2
  rw [World.size_alloc, World.size_alloc] at h3
  have kb : Keep (fun _ => False) ((wr.alloc (.cells #[.int .i64 1, .int .i64 1, .int .i64 1, .int .i64 1, .int .i64 1, .int .i64 1] 3)).alloc (.cells #[.int .i64 (-(i : Int)), .int .i64 (-1)] 3)) _ := (Keep.refl (fun _ => False) _).alloc (.cells #[.int .i64 0, .slice (some ⟨wr.heap.size + 1, 0, none⟩) 2 2] 46)
  have kc : Keep (fun _ => False) (wr.alloc (.cells #[.int .i64 1, .int .i64 1, .int .i64 1, .int .i64 1, .int .i64 1, .int .i64 1] 3)) _ := ((Keep.refl (fun _ => False) _).alloc (.cells #[.int .i64 (-(i : Int)), .int .i64 (-1)] 3)).trans kb (fun _ _ h => h)
  exact ⟨h1.keep kc (fun _ _ h => h), fun hi hi9 => ⟨⟨rfl, fun u hu => absurd hu List.not_mem_nil, .inl ⟨rfl, rfl⟩⟩, h3, h2.keep kb (fun _ _ h => h), ⟨.inr ⟨by omega, by omega⟩, by omega, .inl rfl⟩⟩, ((Keep.refl (fun _ => False) _).alloc _).trans kc (fun _ _ h => h)⟩
set_option maxHeartbeats 16000000 in
set_option maxRecDepth 100000 in
theorem topSure_any {w : World} {gv lv : Value} {g : List Int} {l : List ByteArray} (hG : Glob w) (hg : Rd w 1 gv g.length (icells g)) (hgl : g.length < 9223372036854775807) (hv : Rd w 1 lv l.length (strCells l))
    (hl : ∀ s ∈ l, s.size ≤ 140737488355328) (hln : l.length ≤ 9223372036854775807) :
    Calls Tryz.prog 3 #[gv, lv] w (IdxPost w (.bool true)) := by
  obtain ⟨lo, lc, hve, hlc, _⟩ := hv.shape
  subst hve
  obtain ⟨go_, gc, hge, hgc, _⟩ := hg.shape
  subst hge
  have H4 := Lib.hid (opened3_any hG hg (Nat.le_of_lt hgl))
  have HG := Lib.hid hG; clear hG
  have HGR := Lib.hid hg; clear hg
  have HV := Lib.hid hv; clear hv
  have HL := Lib.hid hl; clear hl
  cases hb : baysB (g.take 10) with
  | false =>
    have HB := Lib.hid hb; clear hb
    go_enter Tryz.func3, Tryz.ntmps3
    go_wp2_with (first
      | (go_at_call 4; refine H4.out.mono ?_; rintro e w1 ⟨hk1, _, hbad⟩; obtain ⟨d1, rfl⟩ := hbad HB.out; have HK1 := Lib.hid hk1; clear hk1 hbad)
      | (go_at_call 5; refine Calls.mono (takes_any (HG.out.keep HK1.out)) ?_; rintro e w4 ⟨rfl, hk4⟩; have HK4 := Lib.hid hk4; clear hk4))
    go_ret
    exact ⟨rfl, HK1.out.trans HK4.out (fun _ _ h => h)⟩
  | true =>
    have HB := Lib.hid hb; clear hb
    obtain ⟨m, hm⟩ : ∃ m, (min (l.length : Int) 50).toNat = m := ⟨_, rfl⟩
    have hml : m ≤ l.length := by omega
    have hm60 : m ≤ 50 := by omega
    have hm0 : (0 : Int) ≤ min (l.length : Int) 50 := by omega
    have hm1 : min (l.length : Int) 50 ≤ (lc : Int) := by omega
    go_enter Tryz.func3, Tryz.ntmps3
    go_wp2_with (first
      | (go_at_call 4; refine H4.out.mono ?_; rintro e w1 ⟨hk1, hok, _⟩; obtain ⟨H1, rfl, hh1, hf1⟩ := hok HB.out; have HONE := Lib.hid (show One w H1 (S0 (g.take 10)) [] w1 from ⟨hh1, hf1, hk1⟩); clear hk1 hok hh1 hf1))
    obtain ⟨b1, hb1⟩ : ∃ x, H1.h = x := ⟨_, rfl⟩
    obtain ⟨d1, hd1⟩ : ∃ x, H1.d = x := ⟨_, rfl⟩
    rw [hb1, hd1]
    have HE := Lib.hid (And.intro hb1 hd1); clear hb1 hd1
    go_loopg [35] m (fun gh s42 wx => L1Rel w (g.take 10) b1 d1 m gh s42 wx)
    case atStart => exact ⟨0, H1, _, _, rfl, Nat.zero_le _, rfl, HE.out.1, HE.out.2, HONE.out, .nil _, Nat.le_refl _, KI.start _, [], NI.start _⟩
    case round =>
      obtain ⟨j, ⟨x1, y1, v1, V1, vl1⟩, S, ls, rfl, hj, rfl, e1, e2, hone, hrep, hlsj, hki, ns, hni⟩ := hrel
      simp only at e1 e2
      subst e1 e2
      have hcat := cat_length_le hrep
      have HTW := Lib.hid hone
      have HREP := Lib.hid hrep
      have HKI := Lib.hid hki
      have HNI := Lib.hid hni
      clear hone hrep hki hni HONE HE
      have HIN := Lib.hid (rep_inv (baysB_8 HB.out) HREP.out)
      by_cases hlt : j < m
      · have hjl : ((j : Int) < (m : Int)) = True := by simp; omega
        have hjn : j < l.length := by omega
        have hrd := HV.out.keep HTW.out.keep (fun _ _ h => h)
        obtain ⟨b, o, hao, hcell⟩ : ∃ b o, lo = some ⟨b, o, none⟩ ∧ wr.cell? ⟨b, o + j, none⟩ = some (.string (l.getD j ByteArray.empty)) := by
          rcases hrd.2.2 with ⟨h, h'⟩ | ⟨b, o, c, h, _, _, hx⟩
          · omega
          · injection h with h1 h2 h3
            exact ⟨b, o, h1, hx _ _ (strCells_get l j hjn)⟩
        subst hao
        have hsz := HL.out (l.getD j ByteArray.empty) (by simp [List.getD, List.getElem?_eq_getElem hjn])
        obtain ⟨s, hs⟩ : ∃ s, l.getD j ByteArray.empty = s := ⟨_, rfl⟩
        rw [hs] at hcell hsz
        clear hs hrd
        have hstep := calm_step (S := S) (ls := ls) (by omega) s
        by_cases he : (doF runF S s).err = 0
        · rw [if_pos he] at hstep
          have HST := Lib.hid hstep; clear hstep
          have hlaw := step_law HKI.out (by omega) he
          have HK2 := Lib.hid hlaw.1
          have HN2 := Lib.hid (HNI.out.step he)
          have HREP2 := Lib.hid (HREP.out.snoc he)
          clear hlaw
          go_wp2_with (go_at_call 6; have hh := hdo_any (F := runF) (HG.out.keep HTW.out.keep) HTW.out.keep.size HTW.out.h (HIN.out.small (by omega)) (by omega) (by omega) (run_ok HIN.out (by omega) s); rw [HST.out] at hh; refine Calls.mono hh ?_; clear hh; rintro e w5 ⟨⟨x3, y3, v3, V3, vl3⟩, rfl, h3, hc3⟩; obtain rfl : x1 = x3 := hc3.h.symm; obtain rfl : y1 = y3 := hc3.d.symm; have HTW1 := Lib.hid (HTW.out.step h3 hc3); clear h3 hc3)
          go_roundg (m - (j + 1))
          case measure => omega
          case rel => exact ⟨j + 1, ⟨x1, y1, v3, V3, vl3⟩, _, ls ++ [s], rfl, by omega, by go_num, rfl, rfl, HTW1.out, HREP2.out, by simp; omega, by rw [List.length_append]; exact HK2.out, HN2.out⟩
        · rw [if_neg he] at hstep
          have HST := Lib.hid hstep; clear hstep
          go_wp2_with (go_at_call 6; have hh := hdo_any (F := runF) (HG.out.keep HTW.out.keep) HTW.out.keep.size HTW.out.h (HIN.out.small (by omega)) (by omega) (by omega) (run_ok HIN.out (by omega) s); rw [HST.out] at hh; refine Calls.mono hh ?_; clear hh; rintro e w5 ⟨⟨x3, y3, v3, V3, vl3⟩, rfl, h3, hc3⟩; obtain rfl : x1 = x3 := hc3.h.symm; obtain rfl : y1 = y3 := hc3.d.symm; have HTW1 := Lib.hid (HTW.out.step h3 hc3); clear h3 hc3)
          go_roundg (m - (j + 1))
          case measure => omega
          case rel => exact ⟨j + 1, ⟨x1, y1, v3, V3, vl3⟩, S, ls, rfl, by omega, by go_num, rfl, rfl, HTW1.out, HREP.out, by omega, HKI.out, ns, HNI.out⟩
      · have hje : j = m := by omega
        subst hje
        have hjl : ((j : Int) < (j : Int)) = False := by simp
        have hin := HIN.out
        have hK := HKI.out.l
        have hT : TestsOk S.tests := HNI.out.tests
        have hTl := hin.t
        have HSAID := Lib.hid (said_any (HG.out.keep HTW.out.keep) HTW.out.h hin (by omega) hK HNI.out)
        have HASK := Lib.hid (fun W (kW : Keep (fun _ => False) wr W) => ask_sure (HG.out.keep (HTW.out.keep.trans kW (fun _ _ h => h))) (HTW.out.h.idle kW) hT (by omega))
        have HCNT := Lib.hid (fun W (kW : Keep (fun _ => False) wr W) => countT_any (HG.out.keep (HTW.out.keep.trans kW (fun _ _ h => h))) (HTW.out.h.idle kW) hin)
        have HGW := Lib.hid (fun W (kW : Keep (fun _ => False) wr W) => HG.out.keep (HTW.out.keep.trans kW (fun _ _ h => h)))
        have HKW := Lib.hid HTW.out.keep
        obtain ⟨cn, hcn⟩ : ∃ c, Lib.countByte (listF S.lots).data.toList 32 = c := ⟨_, rfl⟩
        rw [hcn] at HCNT
        obtain ⟨T, hTe⟩ : ∃ T, S.tests = T := ⟨_, rfl⟩
        rw [hTe] at HSAID HASK hT hTl
        have HT := Lib.hid hT
        have hTl2 : T.length ≤ 50 := by omega
        clear hin hK hT hTl hcn hTe HTW HREP HKI HNI HIN HL HV HGR H4
        go_wp2_with (go_at_call 7; go_loud (
          refine HSAID.out.mono ?_
          rintro e w2 ⟨v2, us, rfl, hla, hk2⟩
          obtain ⟨lo2, lc2, hve2, _⟩ := ownsRow_shape hla.own
          have hnl : (noteWs T).length = T.length := List.length_map ..
          rw [hnl] at hve2
          subst hve2
          have HLA := Lib.hid hla; have HK2 := Lib.hid hk2
          clear hla hk2 hnl))
        obtain ⟨n, hn⟩ : ∃ n, T.length = n := ⟨_, rfl⟩
        have HN := Lib.hid hn
        rw [hn] at HLA hTl2 ⊢
        clear hn
        go_loopw [10, 46] (fun v i wx => LFRel w2 T v i wx) (fun _ i _ => n - (intOf i).toNat)
        case atStart => exact ⟨0, [], Nat.zero_le _, rfl, FactsAt.nil _ _, Keep.refl _ _⟩
        case round =>
          obtain ⟨k, vs, hk, rfl, hfa, hk8⟩ := hrel
          obtain ⟨a10, c10, hve, _⟩ := ownsRow_shape hfa.own
          obtain ⟨F, hF⟩ : ∃ F, onceL ((T.take k).map lfF) = F := ⟨_, rfl⟩
          rw [hF] at hve hfa
          have hFk : F.length ≤ k := by
            rw [← hF]
            have h1 := onceL_len ((T.take k).map lfF)
            rw [List.length_map, List.length_take] at h1
            omega
          obtain ⟨q, hq⟩ : ∃ q, F.length = q := ⟨_, rfl⟩
          rw [hq] at hve hFk
          subst hve
          have HFA := Lib.hid hfa; have HK8 := Lib.hid hk8; have HF := Lib.hid hF; have HQ := Lib.hid hq
          clear hfa hk8 hF hq
          by_cases hlt2 : k < n
          · have hlti : ((k : Int) < (n : Int)) = True := eq_true (by omega)
            have hkT : k < T.length := by have := HN.out; omega
            have hla := HLA.out.keep HK8.out
            have hnw : (noteWs T).getD k [] = [testW, itoaB (pat T k).1, goodW (pat T k).2] := by
              unfold noteWs
              rw [pat_get hkT]
              simp [List.getD, hkT]
            have hkw : k < (noteWs T).length := by unfold noteWs; rw [List.length_map]; exact hkT
            obtain ⟨rb, ro, hao, hcl⟩ : ∃ b o, lo2 = some ⟨b, o, none⟩ ∧ wr.cell? ⟨b, o + k, none⟩ = some (vat us k) := by
              rcases (ownsRow_rd hla.own hla.one).2.2 with ⟨h, h'⟩ | ⟨b, o, c, h, _, _, hx⟩
              · rw [show (noteWs T).length = T.length from List.length_map ..] at h'; omega
              · injection h with h1 h2 h3
                exact ⟨b, o, h1, hx _ _ (vat_get (by rw [hla.len]; exact hkw))⟩
            have hrd := hla.rd k hkw
            rw [hnw] at hrd
            have hxm := HT.out (pat T k) (by rw [pat_get hkT]; exact List.getElem_mem _)
            have htk : (T.take (k + 1)).map lfF = (T.take k).map lfF ++ [lfF (pat T k)] := take_map_snoc T (0, 0) lfF hkT
            have hon : onceL ((T.take (k + 1)).map lfF) = onceA F (lfF (pat T k)) := by
              rw [htk, ← HF.out]
              unfold onceL
              rw [List.foldl_append]
              rfl
            obtain ⟨a, ha⟩ : ∃ c, (pat T k).1 = c := ⟨_, rfl⟩
            obtain ⟨b, hb⟩ : ∃ d, (pat T k).2 = d := ⟨_, rfl⟩
            rw [ha] at hxm hrd
            rw [hb] at hxm hrd
            rw [show lfF (pat T k) = (a, 2 - b) by rw [← ha, ← hb]; rfl] at hon
            have HON := Lib.hid hon
            rcases hrd.2.2 with ⟨_, h0⟩ | ⟨eb, eo, ec, hev, hec1, hec2, hex⟩
            · exact absurd h0 (by simp)
            have d1 := hex 1 _ (by rfl)
            have d2 := hex 2 _ (by rfl)
            rw [hev] at hcl
            have HNUM := Lib.hid (fun W => number_itoa (w := W) (i := a) hxm.1)
            obtain ⟨ia, hia⟩ : ∃ s, itoaB a = s := ⟨_, rfl⟩
            rw [hia] at HNUM d1
            have hb01 := hxm.2
            subst hao
            clear hla hnw hkw hrd hxm htk hon ha hb hev hex hia
            rcases hb01 with hb0 | hb1
            · subst hb0
              have hgw : ((goodW 0).toList == [103, 111, 111, 100]) = false := by kernel_rfl
              obtain ⟨gw, hgwe⟩ : ∃ s, goodW 0 = s := ⟨_, rfl⟩
              rw [hgwe] at hgw d2
              clear hgwe
              have d3 : ((wr.alloc (.cells #[.int .i64 a, .int .i64 2] 3)).alloc (.cells #[.int .i64 0, .slice (some ⟨wr.heap.size, 0, none⟩) 2 2] 38)).cell? ⟨eb, eo + 2, none⟩ = some (.string gw) := Go.Lib.cell?_alloc_some _ (Go.Lib.cell?_alloc_some _ d2)
              have HIN9 := Lib.hid (fact_in (a := a) (c := 2) HFA.out (by rw [HQ.out]; omega))
              by_cases hmem : (a, (2 : Int)) ∈ F
              · rw [decide_eq_true hmem] at HIN9
                have HM := Lib.hid hmem
                clear hmem
                go_wp2_with (first
                  | (go_at_call 8; refine (HNUM.out _).mono ?_; rintro e w3 ⟨rfl, rfl⟩)
                  | (go_at_call 9; go_loud (refine HIN9.out.mono ?_; rintro e w4 ⟨rfl, hk4⟩; have HK4 := Lib.hid hk4; clear hk4)))
                go_roundw
                case rel =>
                  have kk : Keep (fun _ => False) wr w4 := (((Keep.refl (fun _ => False) wr).alloc _).alloc _).trans HK4.out (fun _ _ h => h)
                  refine ⟨k + 1, vs, by have := HN.out; omega, by go_num, ?_, HK8.out.trans kk (fun _ _ h => h)⟩
                  rw [HON.out]
                  unfold onceA
                  rw [show ((2 : Int) - 0) = 2 by decide, if_pos HM.out]
                  exact HFA.out.keep kk
                case measure => simp [intOf]; omega
              · rw [decide_eq_false hmem] at HIN9
                have HM := Lib.hid hmem
                clear hmem
                go_wp2_with (first
                  | (go_at_call 8; refine (HNUM.out _).mono ?_; rintro e w3 ⟨rfl, rfl⟩)
                  | (go_at_call 9; go_loud (refine HIN9.out.mono ?_; rintro e w4 ⟨rfl, hk4⟩; obtain ⟨f0, f1⟩ := fact_cells hk4; have HK4 := Lib.hid hk4; clear hk4))
                  | (at_builtin; go_loud (refine wpList_app (w := w4.alloc (.cells #[.int .i64 0, .slice (some ⟨wr.heap.size, 0, none⟩) 2 2] 38)) rfl (.tmp 67) (.tmp 69) 33 33 rfl 38 zFact 2 32 Tryz.underlying33 info38 rfl ((show w4.ownsRow w2.heap.size 38 2 (.slice a10 q c10) q (fcells vs) from by have h := (HFA.out.keep ((((Keep.refl (fun _ => False) wr).alloc _).alloc _).trans HK4.out (fun _ _ h => h))).own; rw [HQ.out] at h; exact h).alloc _) rfl (Src.new (P := Tryz.prog) Tryz.underlying33 w4 1 [.int .i64 0, .slice (some ⟨wr.heap.size, 0, none⟩) 2 2] 38 rfl (by simp [Value.oneCell'])) rfl (by unfold maxLen; omega) (by omega) (by have := HK8.out.size; have h4 := HK4.out.size; simp at h4; simp; omega) ?_; intro v9 w9 happ; have HA := Lib.hid happ; clear happ)))
                go_roundw
                case rel =>
                  have kk : Keep (fun _ => False) wr w4 := (((Keep.refl (fun _ => False) wr).alloc _).alloc _).trans HK4.out (fun _ _ h => h)
                  refine ⟨k + 1, vs ++ [.slice (some ⟨wr.heap.size, 0, none⟩) 2 2], by have := HN.out; omega, by go_num, ?_, (HK8.out.trans (kk.alloc _) (fun _ _ h => h)).trans HA.out.keep (fun i hi e => by have := (HFA.out.own.lt i e).1; omega)⟩
                  rw [HON.out]
                  unfold onceA
                  rw [show ((2 : Int) - 0) = 2 by decide, if_neg HM.out]
                  exact fact_add HFA.out HK4.out (by rw [HQ.out]; exact HA.out)
                case measure => simp [intOf]; omega
            · subst hb1
              have hgw : ((goodW 1).toList == [103, 111, 111, 100]) = true := by kernel_rfl
              obtain ⟨gw, hgwe⟩ : ∃ s, goodW 1 = s := ⟨_, rfl⟩
              rw [hgwe] at hgw d2
              clear hgwe
              have d3 : ((wr.alloc (.cells #[.int .i64 a, .int .i64 2] 3)).alloc (.cells #[.int .i64 0, .slice (some ⟨wr.heap.size, 0, none⟩) 2 2] 38)).cell? ⟨eb, eo + 2, none⟩ = some (.string gw) := Go.Lib.cell?_alloc_some _ (Go.Lib.cell?_alloc_some _ d2)
              have HIN9 := Lib.hid (fact_in (a := a) (c := 1) HFA.out (by rw [HQ.out]; omega))
              by_cases hmem : (a, (1 : Int)) ∈ F
              · rw [decide_eq_true hmem] at HIN9
                have HM := Lib.hid hmem
                clear hmem
                go_wp2_with (first
                  | (go_at_call 8; refine (HNUM.out _).mono ?_; rintro e w3 ⟨rfl, rfl⟩)
                  | (go_at_call 9; go_loud (refine HIN9.out.mono ?_; rintro e w4 ⟨rfl, hk4⟩; have HK4 := Lib.hid hk4; clear hk4)))
                go_roundw
                case rel =>
                  have kk : Keep (fun _ => False) wr w4 := (((Keep.refl (fun _ => False) wr).alloc _).alloc _).trans HK4.out (fun _ _ h => h)
                  refine ⟨k + 1, vs, by have := HN.out; omega, by go_num, ?_, HK8.out.trans kk (fun _ _ h => h)⟩
                  rw [HON.out]
                  unfold onceA
                  rw [show ((2 : Int) - 1) = 1 by decide, if_pos HM.out]
                  exact HFA.out.keep kk
                case measure => simp [intOf]; omega
              · rw [decide_eq_false hmem] at HIN9
                have HM := Lib.hid hmem
                clear hmem
                go_wp2_with (first
                  | (go_at_call 8; refine (HNUM.out _).mono ?_; rintro e w3 ⟨rfl, rfl⟩)
                  | (go_at_call 9; go_loud (refine HIN9.out.mono ?_; rintro e w4 ⟨rfl, hk4⟩; obtain ⟨f0, f1⟩ := fact_cells hk4; have HK4 := Lib.hid hk4; clear hk4))
                  | (at_builtin; go_loud (refine wpList_app (w := w4.alloc (.cells #[.int .i64 0, .slice (some ⟨wr.heap.size, 0, none⟩) 2 2] 38)) rfl (.tmp 67) (.tmp 69) 33 33 rfl 38 zFact 2 32 Tryz.underlying33 info38 rfl ((show w4.ownsRow w2.heap.size 38 2 (.slice a10 q c10) q (fcells vs) from by have h := (HFA.out.keep ((((Keep.refl (fun _ => False) wr).alloc _).alloc _).trans HK4.out (fun _ _ h => h))).own; rw [HQ.out] at h; exact h).alloc _) rfl (Src.new (P := Tryz.prog) Tryz.underlying33 w4 1 [.int .i64 0, .slice (some ⟨wr.heap.size, 0, none⟩) 2 2] 38 rfl (by simp [Value.oneCell'])) rfl (by unfold maxLen; omega) (by omega) (by have := HK8.out.size; have h4 := HK4.out.size; simp at h4; simp; omega) ?_; intro v9 w9 happ; have HA := Lib.hid happ; clear happ)))
                go_roundw
                case rel =>
                  have kk : Keep (fun _ => False) wr w4 := (((Keep.refl (fun _ => False) wr).alloc _).alloc _).trans HK4.out (fun _ _ h => h)
                  refine ⟨k + 1, vs ++ [.slice (some ⟨wr.heap.size, 0, none⟩) 2 2], by have := HN.out; omega, by go_num, ?_, (HK8.out.trans (kk.alloc _) (fun _ _ h => h)).trans HA.out.keep (fun i hi e => by have := (HFA.out.own.lt i e).1; omega)⟩
                  rw [HON.out]
                  unfold onceA
                  rw [show ((2 : Int) - 1) = 1 by decide, if_neg HM.out]
                  exact fact_add HFA.out HK4.out (by rw [HQ.out]; exact HA.out)
                case measure => simp [intOf]; omega
          · have hke : k = n := by have := HN.out; omega
            subst hke
            have hji : ((k : Int) < (k : Int)) = False := by simp
            have htk : T.take k = T := List.take_of_length_le (by rw [HN.out]; exact Nat.le_refl _)
            have hlf := HF.out
            rw [htk] at hlf
            have HLF : Hid (lFacts T = F) := Lib.hid hlf
            have hqo : q = (onceL T).length := by rw [← HQ.out, ← HLF.out, lFacts_len]
            have HQO := Lib.hid hqo
            clear htk hlf hqo
            by_cases h12 : 12 < q
            · have h12i : ((12 : Int) < (q : Int)) = True := eq_true (by omega)
              go_wp2_with (first
                | (go_at_call 12; go_loud (
                   refine (HASK.out _ (HK2.out.trans HK8.out (fun _ _ h => h))).mono ?_
                   rintro e w4 ⟨s4, er4, rfl, hst, hk4⟩
                   obtain ⟨rfl, rfl⟩ : s4 = bs [] ∧ er4 = 3 := by
                     rcases hst with ⟨_, h1, h2⟩ | ⟨h0, _⟩
                     · exact ⟨h1, h2⟩
                     · have := HQO.out; omega
                   have HK4 := Lib.hid ((HK2.out.trans HK8.out (fun _ _ h => h)).trans hk4 (fun _ _ h => h))
                   clear hst hk4))
                | (go_at_call 5; refine Calls.mono (takes_any (HGW.out _ HK4.out)) ?_; rintro e w5 ⟨rfl, hk5⟩; have HK5 := Lib.hid (HK4.out.trans hk5 (fun _ _ h => h)); clear hk5))
              go_ret
              exact ⟨rfl, HKW.out.trans HK5.out (fun _ _ h => h)⟩
            · have h12i : ((12 : Int) < (q : Int)) = False := eq_false (by omega)
              go_wp2_with (first
                | (go_at_call 12; go_loud (
                   refine (HASK.out _ (HK2.out.trans HK8.out (fun _ _ h => h))).mono ?_
                   rintro e w4 ⟨s4, er4, rfl, hst, hk4⟩
                   obtain ⟨rfl, R, rows, hre, hrl, hrg, hrm, hsn⟩ : er4 = 0 ∧ ∃ (R : List Nat) (rows : List Int), RepsOf (hFacts T) R ∧ rows.length ≤ 12 ∧ (∀ x ∈ rows, 1 ≤ x ∧ x ≤ 20) ∧ (∀ x, x ∈ rows ↔ ∀ r ∈ R, (x, 2) ∈ pick (hFacts T) r) ∧ s4 = sureN rows rows.length := by
                     rcases hst with ⟨h0, _⟩ | ⟨_, h1, h2⟩
                     · have := HQO.out; omega
                     · exact ⟨h1, h2⟩
                   have HK4 := Lib.hid ((HK2.out.trans HK8.out (fun _ _ h => h)).trans hk4 (fun _ _ h => h))
                   have HK24 := Lib.hid (HK8.out.trans hk4 (fun _ _ h => h))
                   have HK84 := Lib.hid hk4
                   have hws := sureN_words hrg
                   have hwz := sureN_size hrg rows.length (Nat.le_refl _)
                   rw [← hsn] at hws hwz
                   have HWS := Lib.hid hws
                   have HRE := Lib.hid hre; have HRG := Lib.hid hrg; have HRM := Lib.hid hrm
                   clear hst hk4 hsn hws hre hrg hrm))
                | (go_at_call 13; go_loud (
                   refine (split_any (HGW.out _ HK4.out) (s := s4) (by omega)).mono ?_
                   rintro e w5 ⟨rfl, hw5⟩
                   obtain ⟨nw, hnw⟩ : ∃ n, (words s4).length = n := ⟨_, rfl⟩
                   have hcell : ∀ j, j < nw → w5.cell? ⟨w4.heap.size, j, none⟩ = some (.string ((words s4).getD j ByteArray.empty)) := fun j hj => by
                     have h := words_cell w4 s4 j (by rw [hnw]; exact hj)
                     rw [Nat.zero_add] at h
                     rw [hw5]; exact h
                   have hnr : nw = rows.length + 1 := by rw [← hnw, HWS.out]; simp
                   rw [hnw]
                   have HCELL := Lib.hid hcell
                   have HNW := Lib.hid hnw
                   have HLB := Lib.hid (show w4.heap.size < w5.heap.size by rw [hw5]; simp)
                   have hk5 : Keep (fun _ => False) w4 w5 := by rw [hw5]; exact (Keep.refl _ _).alloc _
                   have HK5 := Lib.hid (HK4.out.trans hk5 (fun _ _ h => h))
                   have HK85 := Lib.hid (HK84.out.trans hk5 (fun _ _ h => h))
                   have hnw1 : 1 ≤ nw := by omega
                   have hnw13 : nw ≤ 13 := by omega
                   clear hw5 hcell hnw hk5 hnr)))
              obtain ⟨lb, hlb⟩ : ∃ b, w4.heap.size = b := ⟨_, rfl⟩
              rw [hlb] at HCELL HLB ⊢
              clear hlb
              have HFA5 := Lib.hid (HFA.out.keep HK85.out)
              have HGD : Hid (Good12 F) := Lib.hid (by rw [← HLF.out]; exact lFacts_good HT.out (by have := HQO.out; omega))
              have HL12 : Hid ((onceL T).length ≤ 12) := Lib.hid (by have := HQO.out; omega)
              go_loopw [17] (fun v wx => ∃ i : Nat, 1 ≤ i ∧ i ≤ 10 ∧ v = .int .i64 i ∧ Keep (fun _ => False) w5 wx) (fun v _ => 10 - (intOf v).toNat)
              case atStart => exact ⟨1, Nat.le_refl _, by omega, rfl, Keep.refl _ _⟩
              case round =>
                obtain ⟨i, hi1, hi10, rfl, hkx⟩ := hrel
                have HKX := Lib.hid hkx
                clear hkx
                have HKR := Lib.hid (HK5.out.trans HKX.out (fun _ _ h => h))
                have hwi1 := IntWalk.i64_in (-(i : Int)) ⟨by omega, by omega⟩
                by_cases hle : (i : Int) ≤ min 9 (cn : Int)
                · have hle' : ((i : Int) ≤ min 9 (cn : Int)) = True := eq_true hle
                  have hi9 : i ≤ 9 := by omega
                  have HMT := Lib.hid (fun Q (hQ : RepsOf (lFacts T) Q) => sure_match (i := (i : Int)) HL12.out HRE.out HRM.out hQ (by omega))
                  have hct := sure_contains (rows := rows) (i := (i : Int)) HRG.out (by omega)
                  obtain ⟨cb, hcb⟩ : ∃ c, decide ((i : Int) ∈ rows) = c := ⟨_, rfl⟩
                  rw [hcb] at HMT hct
                  have HCON : Hid (∀ (W : World) (ao : Option Addr) (x : Nat), Keep (fun _ => False) wr W → (nw = 1 ∨ ao = some ⟨lb, 1, none⟩) → x = nw - 1 → Calls Tryz.prog 16 #[.slice ao x x, .string (itoaB i)] W fun e w' => e = .returned (.bool cb) ∧ w' = W) := Lib.hid (fun W ao x kW hao hx => by
                    have h := contains_words (w := W) (ao := ao) (lb := lb) (nw := nw) (ws := words s4) (x := itoaB i) (fun j hj => ((HKX.out.trans kW (fun _ _ h => h)).cell (p := ⟨lb, j, none⟩) HLB.out (fun h => h)).trans (HCELL.out j hj)) HNW.out (by omega) (by omega) hao
                    rw [HWS.out, List.drop_one, List.tail_cons, hct] at h
                    rw [hx]
                    exact h.mono (fun e w' hh => ⟨hh.1, hh.2.symm⟩))
                  have HDEC := Lib.hid (fun W => (decimalT_any (w := W) (n := i) (by omega)).mono (R' := fun e w' => e = .returned (.string (itoaB i)) ∧ w' = W) (fun e w' hh => ⟨hh.1, hh.2.symm⟩))
                  obtain ⟨it, hit⟩ : ∃ s, itoaB (i : Int) = s := ⟨_, rfl⟩
                  rw [hit] at HCON HDEC
                  have hcc : (cb != cb) = false := by cases cb <;> rfl
                  clear hct hcb hit
                  go_wp2_with (first
                    | (go_at_call 14; go_loud (refine (HCNT.out _ HKR.out).mono ?_; rintro e w6 ⟨rfl, hk6⟩; have HK6 := Lib.hid hk6; clear hk6))
                    | (go_at_call 15; go_loud (
                       obtain ⟨q1, q2, q3⟩ := law_query (wr := w6) (i := i)
                       have hg := HGW.out _ (HKR.out.trans (HK6.out.trans q3 (fun _ _ h => h)) (fun _ _ h => h))
                       refine (certain_any (s := 1) (t0 := -(i : Int)) (t1 := -1) q1 (.inr rfl) (HFA5.out.frd.keep (HKX.out.trans (HK6.out.trans q3 (fun _ _ h => h)) (fun _ _ h => h))) HGD.out (q2 hi1 hi9) hg.tab (by have := hg.size; omega)).mono ?_
                       rintro e w7 ⟨Q, rfl, hQ, hk7⟩
                       rw [← HLF.out, HMT.out Q (by rw [HLF.out]; exact hQ)]
                       have HK7 := Lib.hid (HK6.out.trans (q3.trans hk7 (fun _ _ h => h)) (fun _ _ h => h))
                       clear hQ hk7 q1 q2 q3 hg)))
                  by_cases hn1 : nw = 1
                  · subst hn1
                    go_quiet (first
                      | (go_at_call 17; go_loud (refine Calls.quiet_of_same (HDEC.out _)))
                      | (go_at_call 16; go_loud (refine Calls.quiet_of_same (HCON.out _ _ _ (HK7.out.trans (by repeat (first | exact (Keep.refl _ _) | apply Keep.drewN | apply Keep.drew)) (fun _ _ h => h)) (.inl rfl) rfl))))
                    go_wp2_with fail
                    go_roundw
                    case rel => exact ⟨i + 1, by omega, by omega, by go_num, HKX.out.trans (HK7.out.drewN _) (fun _ _ h => h)⟩
                    case measure => simp [intOf]; omega
                  · have hn2 : (nw = 1) = False := eq_false hn1
                    have hn3 : (1 : Int) ≤ (nw : Int) := by omega
                    go_quiet (first
                      | (go_at_call 17; go_loud (refine Calls.quiet_of_same (HDEC.out _)))
                      | (go_at_call 16; go_loud (refine Calls.quiet_of_same (HCON.out _ _ _ (HK7.out.trans (by repeat (first | exact (Keep.refl _ _) | apply Keep.drewN | apply Keep.drew)) (fun _ _ h => h)) (.inr rfl) rfl))))
                    go_wp2_with fail
                    go_roundw
                    case rel => exact ⟨i + 1, by omega, by omega, by go_num, HKX.out.trans (HK7.out.drewN _) (fun _ _ h => h)⟩
                    case measure => simp [intOf]; omega
                · have hle' : ((i : Int) ≤ min 9 (cn : Int)) = False := eq_false hle
                  go_wp2_with (first
                    | (go_at_call 14; go_loud (refine (HCNT.out _ HKR.out).mono ?_; rintro e w6 ⟨rfl, hk6⟩; have HK6 := Lib.hid (HKR.out.trans hk6 (fun _ _ h => h)); clear hk6))
                    | (go_at_call 5; refine Calls.mono (takes_any (HGW.out _ HK6.out)) ?_; rintro e w7 ⟨rfl, hk7⟩; have HK7 := Lib.hid (HK6.out.trans hk7 (fun _ _ h => h)); clear hk7))
                  go_ret
                  exact ⟨rfl, HKW.out.trans HK7.out (fun _ _ h => h)⟩
end Go.Proofs.YtkkjonkcjlnohaaGreatDoor
