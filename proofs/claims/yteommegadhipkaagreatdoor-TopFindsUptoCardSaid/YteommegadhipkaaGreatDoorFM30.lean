/- index.grow: the tree of ranks. -/
import Derived.Test.YteommegadhipkaaGreatDoorFM28
import Derived.Test.YteommegadhipkaaGreatDoorFM5
import Derived.Test.YteommegadhipkaaGreatDoorFM10
import Derived.Test.YteommegadhipkaaGreatDoorFM29
import Derived.Deep.LoopGhost
import Derived.StillTailTactics

/- index.grow: the tree of ranks. -/
namespace Go.Proofs.YteommegadhipkaaGreatDoor
set_option linter.unusedSimpArgs false
set_option linter.unusedVariables false
set_option linter.unnecessarySimpa false
open Go.RowKit

/-- The tree in memory; A: the blocks in which it may lie. -/
def WTAt (A : Nat → Prop) (w : World) : WT → Nat → Prop
  | .leaf al, b => A b ∧ ∃ av ov, Blk w b #[av, ov, .pointer none, .pointer none] 166 ∧ Rd w 1 av al.length (bcells al) ∧ ∀ g, av.ownBlock = some g → A g
  | .node al ones lo hi, b => A b ∧ ∃ av ov b1 b2, Blk w b #[av, ov, .pointer (some ⟨b1, 0, none⟩), .pointer (some ⟨b2, 0, none⟩)] 166 ∧ Rd w 1 av al.length (bcells al) ∧
      Rd w 1 ov ones.length (icells (ones.map Int.ofNat)) ∧ (∀ g, av.ownBlock = some g → A g) ∧ (∀ g, ov.ownBlock = some g → A g) ∧ WTAt A w lo b1 ∧ WTAt A w hi b2
theorem wt_keep {A S : Nat → Prop} {w w' : World} (k : Keep S w w') (hS : ∀ i, A i → ¬ S i) : ∀ (T : WT) (b : Nat), WTAt A w T b → WTAt A w' T b
  | .leaf al, b, ⟨hb, av, ov, h1, h2, h3⟩ => ⟨hb, av, ov, h1.keep k (hS b hb), h2.keep k (fun g e => hS g (h3 g e)), h3⟩
  | .node al o lo hi, b, ⟨hb, av, ov, b1, b2, h1, h2, h3, h4, h5, h6, h7⟩ =>
    ⟨hb, av, ov, b1, b2, h1.keep k (hS b hb), h2.keep k (fun g e => hS g (h4 g e)), h3.keep k (fun g e => hS g (h5 g e)), h4, h5, wt_keep k hS lo b1 h6, wt_keep k hS hi b2 h7⟩
theorem wt_mono {A B : Nat → Prop} {w : World} (hAB : ∀ i, A i → B i) : ∀ (T : WT) (b : Nat), WTAt A w T b → WTAt B w T b
  | .leaf al, b, ⟨hb, av, ov, h1, h2, h3⟩ => ⟨hAB b hb, av, ov, h1, h2, fun g e => hAB g (h3 g e)⟩
  | .node al o lo hi, b, ⟨hb, av, ov, b1, b2, h1, h2, h3, h4, h5, h6, h7⟩ =>
    ⟨hAB b hb, av, ov, b1, b2, h1, h2, h3, fun g e => hAB g (h4 g e), fun g e => hAB g (h5 g e), wt_mono hAB lo b1 h6, wt_mono hAB hi b2 h7⟩

def lowF (p : UInt8) (s : List UInt8) : List UInt8 := s.filter fun c => !decide (p ≤ c)
def highF (p : UInt8) (s : List UInt8) : List UInt8 := s.filter fun c => decide (p ≤ c)
theorem lowF_snoc (p c : UInt8) (s : List UInt8) : lowF p (s ++ [c]) = if p ≤ c then lowF p s else lowF p s ++ [c] := by
  unfold lowF; rw [List.filter_append]; by_cases h : p ≤ c <;> simp [h]
theorem highF_snoc (p c : UInt8) (s : List UInt8) : highF p (s ++ [c]) = if p ≤ c then highF p s ++ [c] else highF p s := by
  unfold highF; rw [List.filter_append]; by_cases h : p ≤ c <;> simp [h]
def cntF (p : UInt8) (s : List UInt8) : Nat := s.countP fun c => decide (p ≤ c)
theorem onesP_snoc (p c : UInt8) (s : List UInt8) : onesP p (s ++ [c]) = onesP p s ++ [cntF p s + if p ≤ c then 1 else 0] := by
  unfold onesP
  rw [show (s ++ [c]).length + 1 = (s.length + 1) + 1 by simp, List.range_succ, List.map_append]
  congr 1
  · apply List.map_congr_left
    intro i hi
    have : i ≤ s.length := by have := List.mem_range.1 hi; omega
    rw [List.take_append_of_le_length this]
  · simp only [List.map_cons, List.map_nil]
    rw [List.take_of_length_le (by simp)]
    simp [cntF, List.countP_append, List.countP_cons]
theorem onesP_last (p : UInt8) (s : List UInt8) : (onesP p s).getD s.length 0 = cntF p s := by
  rw [onesP_get p s s.length (Nat.le_refl _), List.take_length]; rfl
theorem cntF_le (p : UInt8) (s : List UInt8) : cntF p s ≤ s.length := List.countP_le_length
theorem lowF_le (p : UInt8) (s : List UInt8) : (lowF p s).length ≤ s.length := List.length_filter_le _ _
theorem highF_le (p : UInt8) (s : List UInt8) : (highF p s).length ≤ s.length := List.length_filter_le _ _
/-- Rows of two types lie in two blocks. -/
theorem own_apart {w : World} {b1 b2 e1 e2 s1 s2 n1 n2 : Nat} {v1 v2 : Value} {x1 x2 : List Value} (h1 : w.ownsRow b1 e1 s1 v1 n1 x1) (h2 : w.ownsRow b2 e2 s2 v2 n2 x2) (hne : e1 ≠ e2) : ∀ g, v1.ownBlock = some g → v2.ownBlock ≠ some g := by
  intro g e e'
  rcases h1.2 with ⟨rfl, _⟩ | ⟨g1, c1, cur1, rfl, _, hg1, _⟩
  · cases e
  rcases h2.2 with ⟨rfl, _⟩ | ⟨g2, c2, cur2, rfl, _, hg2, _⟩
  · cases e'
  cases e
  cases e'
  rw [hg1] at hg2
  have := Option.some.inj hg2
  injection this with h1 h2 h3
  exact hne h2

theorem info3g : (Tryz.prog.info? 3).map (fun i => (i.zero, i.size, i.bytes)) = some (some (.int .i64 0), 1, 8) := by kernel_rfl
def GRel (w : World) (av : Value) (p : UInt8) (s : List UInt8) (v25 : Value) (wr : World) : Prop :=
  ∃ (k : Nat) (v0 v1 ov : Value), k ≤ s.length ∧ v25 = .int .i64 k ∧ Keep (fun _ => False) w wr ∧ w.heap.size + 3 ≤ wr.heap.size ∧
    Blk wr (w.heap.size + 1 + 1) #[v0, v1] 167 ∧ Blk wr (w.heap.size + 1) #[av, ov, .pointer none, .pointer none] 166 ∧
    wr.ownsRow (w.heap.size + 3) 5 1 v0 (lowF p (s.take k)).length (bcells (lowF p (s.take k))) ∧
    wr.ownsRow (w.heap.size + 3) 5 1 v1 (highF p (s.take k)).length (bcells (highF p (s.take k))) ∧
    wr.ownsRow w.heap.size 3 1 ov (k + 1) (icells ((onesP p (s.take k)).map Int.ofNat)) ∧
    (∀ g, v0.ownBlock = some g → v1.ownBlock ≠ some g) ∧ ov.ownBlock ≠ some (w.heap.size + 1) ∧ ov.ownBlock ≠ some (w.heap.size + 1 + 1)
theorem run_to28 (W : World) {g o n cap h : Nat} {x : Int} (hx : x = h) (h1 : 1 ≤ h) (h2 : h ≤ cap) :
    (Instr.slice 54 (.slice (some ⟨g, o, none⟩) n cap) none (some (.int .i64 x)) (some (.int .i64 x))).run Tryz.prog W = .ok (.slice (some ⟨g, o, none⟩) h h) W := by
  subst hx
  rw [run_slice_hm W 54 (some ⟨g, o, none⟩) n cap (by kernel_rfl) .i64 .i64 (h : Int) (h : Int) (by omega) (by omega) (by omega)]
  have h1 : (sizeOf (Tryz.prog.elem 54)).run Tryz.prog W = .ok 1 W := by kernel_rfl
  rw [h1]
  simp only [Result.andThen_ok, sliced, Int.toNat_natCast]
  rw [if_neg (by omega)]
  simp [add_lit]
theorem run_from28 (W : World) {g o n cap h : Nat} {x : Int} (hx : x = h) (h1 : h < cap) (h2 : h ≤ n) :
    (Instr.slice 54 (.slice (some ⟨g, o, none⟩) n cap) (some (.int .i64 x)) none none).run Tryz.prog W = .ok (.slice (some ⟨g, o + h, none⟩) (n - h) (cap - h)) W := by
  subst hx
  rw [run_slice_l W 54 (some ⟨g, o, none⟩) n cap (by kernel_rfl) .i64 (h : Int) (by omega) (by omega)]
  have h1 : (sizeOf (Tryz.prog.elem 54)).run Tryz.prog W = .ok 1 W := by kernel_rfl
  rw [h1]
  simp only [Result.andThen_ok, sliced, Int.toNat_natCast]
  rw [if_neg (by omega)]
  simp [add_lit]
theorem rd_to {w : World} {g o n cap h : Nat} {l : List UInt8} (hv : Rd w 1 (.slice (some ⟨g, o, none⟩) n cap) n (bcells l)) (hn : l.length = n) (hh : h ≤ n) : Rd w 1 (.slice (some ⟨g, o, none⟩) h h) (l.take h).length (bcells (l.take h)) := by
  rcases hv.2.2 with ⟨h0, _⟩ | ⟨b, o', c, h0, hc, hm, hx⟩
  · cases h0
  · cases h0
    have hl : (l.take h).length = h := by rw [List.length_take, Nat.min_eq_left (by omega)]
    refine ⟨by simp [bcells_length], bcells_one _, .inr ⟨g, o, h, by rw [hl], by rw [hl]; exact Nat.le_refl _, by omega, fun j u hu => hx j u ?_⟩⟩
    rw [bcells_take, List.getElem?_take] at hu
    split at hu
    · exact hu
    · cases hu
theorem rd_from {w : World} {g o n cap h : Nat} {l : List UInt8} (hv : Rd w 1 (.slice (some ⟨g, o, none⟩) n cap) n (bcells l)) (hn : l.length = n) (hh : h ≤ n) : Rd w 1 (.slice (some ⟨g, o + h, none⟩) (n - h) (cap - h)) (l.drop h).length (bcells (l.drop h)) := by
  rcases hv.2.2 with ⟨h0, _⟩ | ⟨b, o', c, h0, hc, hm, hx⟩
  · cases h0
  · cases h0
    have hl : (l.drop h).length = n - h := by rw [List.length_drop, hn]
    refine ⟨by simp [bcells_length], bcells_one _, .inr ⟨g, o + h, cap - h, by rw [hl], by rw [hl]; omega, by omega, fun j u hu => ?_⟩⟩
    have e : bcells (l.drop h) = (bcells l).drop h := by simp [bcells, List.map_drop]
    rw [e, List.getElem?_drop] at hu
    rw [Nat.add_assoc]
    exact hx _ u hu
def GrowPost (w : World) (av : Value) (T : WT) (e : Ending) (w' : World) : Prop :=
  ∃ b, e = .returned (.pointer (some ⟨b, 0, none⟩)) ∧ w.heap.size ≤ b ∧ WTAt (fun k => (w.heap.size ≤ k ∧ k < w'.heap.size) ∨ av.ownBlock = some k) w' T b ∧ Keep (fun _ => False) w w'

set_option maxHeartbeats 8000000 in
set_option maxRecDepth 100000 in
theorem grow_any : ∀ (n : Nat) {w : World} {sv av : Value} {s al : List UInt8}, al.length ≤ n → 1 ≤ al.length → s.length ≤ 201 → al.length ≤ 256 →
    Rd w 1 sv s.length (bcells s) → Rd w 1 av al.length (bcells al) → Calls Tryz.prog 54 #[sv, av] w (GrowPost w av (growF s al)) := by
  intro n
  induction n with
  | zero => intro w sv av s al h h1; omega
  | succ n ih =>
    intro w sv av s al hn h1 hs hal hsv hav
    have hcl : ∀ j (hj : j < al.length), (bcells al)[j]? = some (.int .u8 (al.getD j 0).toNat) := fun j hj => bcells_get al j hj
    obtain ⟨g, o, cap, rfl, hcap, hcm, hx⟩ : ∃ g o cap, av = .slice (some ⟨g, o, none⟩) al.length cap ∧ al.length ≤ cap ∧ cap ≤ maxLen ∧ ∀ j u, (bcells al)[j]? = some u → w.cell? ⟨g, o + j, none⟩ = some u := by
      rcases hav.2.2 with ⟨_, h⟩ | ⟨g, o, c, h, h2, h3, h4⟩
      · omega
      · exact ⟨g, o, c, h, h2, h3, h4⟩
    have hglt : g < w.heap.size := World.block_lt_of_cell? w ⟨g, o + 0, none⟩ (hx 0 _ (hcl 0 h1))
    obtain ⟨so, sc, hve, _⟩ := hsv.shape
    subst hve
    have HSV := Lib.hid hsv; have HAV := Lib.hid hav; have HGL := Lib.hid hglt
    by_cases h2 : al.length < 2
    · have q : ((al.length : Int) < 2) = True := by simp; omega
      have HT := Lib.hid (show growF s al = .leaf al by rw [growF, dif_pos h2])
      clear hsv hav hglt h2 hx hcl
      go_enter Tryz.func54, Tryz.ntmps54
      go_wp2
      go_ret
      rw [HT.out]
      have hk : Keep (fun _ => False) w ((w.alloc (.cells #[.int .i64 0] 3)).alloc (.cells #[.slice (some ⟨g, o, none⟩) al.length cap, .slice (some ⟨w.heap.size, 0, none⟩) 1 1, .pointer none, .pointer none] 166)) := ((Keep.refl _ _).alloc _).alloc _
      have hb := Blk.new (w.alloc (.cells #[.int .i64 0] 3)) #[.slice (some ⟨g, o, none⟩) al.length cap, .slice (some ⟨w.heap.size, 0, none⟩) 1 1, .pointer none, .pointer none] 166
      rw [World.size_alloc] at hb
      exact ⟨w.heap.size + 1, rfl, by omega, ⟨.inl ⟨by omega, by simp⟩, _, _, hb, HAV.out.keep hk (fun _ _ h => h), fun g' e => .inr e⟩, hk⟩
    · obtain ⟨h, hh⟩ : ∃ h, halfN al = h := ⟨_, rfl⟩
      have hh1 : 1 ≤ h := by rw [← hh]; unfold halfN; omega
      have hhl : h < al.length := by rw [← hh]; unfold halfN; omega
      have hh2 : h = (al.length + 1) / 2 := by rw [← hh]; rfl
      have q : ((al.length : Int) < 2) = False := by simp; omega
      have s1 := IntWalk.i64_in ((al.length : Int) + 1) ⟨by omega, by omega⟩
      obtain ⟨p, hp⟩ : ∃ p, al.getD h 0 = p := ⟨_, rfl⟩
      have hcp : ∀ W, Keep (fun _ => False) w W → W.cell? ⟨g, o + h, none⟩ = some (.int .u8 p.toNat) := fun W k => by
        rw [k.cell (p := ⟨g, o + h, none⟩) hglt (fun h => h), hx h _ (hcl h hhl), hp]
      have HCP := Lib.hid hcp
      have HT := Lib.hid (show growF s al = .node al (onesP p s) (growF (lowF p s) (al.take h)) (growF (highF p s) (al.drop h)) by rw [growF, dif_neg h2, hh, hp]; rfl)
      have HIH : Hid (∀ (w : World) (sv av : Value) (s al : List UInt8), al.length ≤ n → 1 ≤ al.length → s.length ≤ 201 → al.length ≤ 256 → Rd w 1 sv s.length (bcells s) → Rd w 1 av al.length (bcells al) → Calls Tryz.prog 54 #[sv, av] w (GrowPost w av (growF s al))) := Lib.hid (fun w sv av s al a b c d e f => ih a b c d e f)
      clear hsv hav hglt h2 hx hcl hh hp hcp ih
      have hs1 : ∀ W, (Instr.slice 54 (.slice (some ⟨g, o, none⟩) al.length cap) none (some (.int .i64 (((al.length : Int) + 1) / 2))) (some (.int .i64 (((al.length : Int) + 1) / 2)))).run Tryz.prog W = .ok (.slice (some ⟨g, o, none⟩) h h) W := fun W => run_to28 W (by omega) hh1 (by omega)
      have hs2 : ∀ W, (Instr.slice 54 (.slice (some ⟨g, o, none⟩) al.length cap) (some (.int .i64 (((al.length : Int) + 1) / 2))) none none).run Tryz.prog W = .ok (.slice (some ⟨g, o + h, none⟩) (al.length - h) (cap - h)) W := fun W => run_from28 W (by omega) (by omega) (by omega)
      have HHH := Lib.hid (And.intro hh1 (And.intro hhl hh2))
      subst hh2
      go_enter Tryz.func54, Tryz.ntmps54
      go_wp2
      go_loopw [25] (GRel w (.slice (some ⟨g, o, none⟩) al.length cap) p s) (fun v _ => s.length - (intOf v).toNat)
      case atStart =>
        refine ⟨0, .slice none 0 0, .slice none 0 0, .slice (some ⟨w.heap.size, 0, none⟩) 1 1, Nat.zero_le _, rfl, (((Keep.refl _ _).alloc _).alloc _).alloc _, by simp, ?_, ?_, World.ownsRow_nil _ _ _ _, World.ownsRow_nil _ _ _ _, ?_, (fun _ e => by cases e), (fun e => by have := Option.some.inj (show some w.heap.size = some (w.heap.size + 1) from e); omega), (fun e => by have := Option.some.inj (show some w.heap.size = some (w.heap.size + 1 + 1) from e); omega)⟩
        · have hb := Blk.new ((w.alloc (.cells #[.int .i64 0] 3)).alloc (.cells #[.slice (some ⟨g, o, none⟩) al.length cap, .slice (some ⟨w.heap.size, 0, none⟩) 1 1, .pointer none, .pointer none] 166)) #[.slice none 0 0, .slice none 0 0] 167
          rw [World.size_alloc, World.size_alloc] at hb
          exact hb
        · have hb := Blk.new (w.alloc (.cells #[.int .i64 0] 3)) #[.slice (some ⟨g, o, none⟩) al.length cap, .slice (some ⟨w.heap.size, 0, none⟩) 1 1, .pointer none, .pointer none] 166
          rw [World.size_alloc] at hb
          exact hb.alloc _
        · refine ⟨rfl, .inr ⟨w.heap.size, 1, #[.int .i64 0], rfl, Nat.le_refl _, ((Blk.new w _ _).alloc _).alloc _, Nat.le_refl _, by unfold maxLen; omega, rfl, rfl⟩⟩
      case round =>
        obtain ⟨k, v0, v1, ov, hk, rfl, hkeep, hwz, hb7, hb, h0, h1', hov, hne, hob1, hob2⟩ := hrel
        have HK := Lib.hid hkeep; have HB7 := Lib.hid hb7; have HB := Lib.hid hb; have H0 := Lib.hid h0; have H1 := Lib.hid h1'; have HOV := Lib.hid hov; have HNE := Lib.hid hne; have HOB := Lib.hid (And.intro hob1 hob2)
        have c70 := hb7.cell 0; have c71 := hb7.cell 1; have f70 := hb7.free 0; have f71 := hb7.free 1
        simp at c70 c71
        clear hkeep hb7 hb h0 h1' hov hne hob1 hob2
        by_cases hlt : k < s.length
        · obtain ⟨c, hc⟩ : ∃ c, s[k] = c := ⟨_, rfl⟩
          have hrd := HSV.out.keep HK.out (fun _ _ h => h)
          obtain ⟨sb, sO, hao, hcell⟩ : ∃ b o, so = some ⟨b, o, none⟩ ∧ wr.cell? ⟨b, o + k, none⟩ = some (.int .u8 c.toNat) := by
            rcases hrd.2.2 with ⟨h, h'⟩ | ⟨b, o, c', h, _, _, hx⟩
            · omega
            · cases h
              refine ⟨b, o, rfl, ?_⟩
              rw [hx k _ (bcells_get s k hlt)]
              simp [List.getD, hlt, hc]
          subst hao
          have cp := HCP.out wr HK.out
          have HTK := Lib.hid (show s.take (k + 1) = s.take k ++ [c] by rw [List.take_succ_eq_append_getElem hlt, hc])
          obtain ⟨q, hq⟩ : ∃ q, cntF p (s.take k) = q := ⟨_, rfl⟩
          have hq201 : q ≤ 201 := by rw [← hq]; have h1 := cntF_le p (s.take k); have h2 : (s.take k).length ≤ s.length := List.length_take_le' _ _; omega
          have HQ := Lib.hid hq
          have hc256 := c.toNat_lt; have hp256 := p.toNat_lt
          clear hrd hc hq
          by_cases hpc : p ≤ c
          · have hpcn : p.toNat ≤ c.toNat := UInt8.le_iff_toNat_le.1 hpc
            have q1 : ((p.toNat : Int) ≤ (c.toNat : Int)) = True := by simp; exact hpcn
            obtain ⟨ao, ac, hvs, _⟩ := ownsRow_shape H1.out
            have hF : highF p (s.take (k + 1)) = highF p (s.take k) ++ [c] := by rw [HTK.out, highF_snoc, if_pos hpc]
            have hG : lowF p (s.take (k + 1)) = lowF p (s.take k) := by rw [HTK.out, lowF_snoc, if_pos hpc]
            have hO : (onesP p (s.take (k + 1))).map Int.ofNat = (onesP p (s.take k)).map Int.ofNat ++ [((q + 1 : Nat) : Int)] := by rw [HTK.out, onesP_snoc, if_pos hpc, List.map_append, ← HQ.out]; rfl
            have HF := Lib.hid hF; have HGG := Lib.hid hG; have HOO := Lib.hid hO
            have hlF : (highF p (s.take k)).length ≤ 201 := by have h1 := highF_le p (s.take k); have h2 : (s.take k).length ≤ s.length := List.length_take_le' _ _; omega
            clear hpc hF hG hO
            subst hvs
            go_wp2_with (at_builtin; refine wpList_app (w := wr.alloc (.cells #[.int .u8 c.toNat] 5)) rfl (.tmp 38) (.tmp 40) 54 54 rfl 5 (.int .u8 0) 1 1 Tryz.underlying54 info5 rfl (H1.out.alloc _) rfl (Src.new (P := Tryz.prog) Tryz.underlying54 wr 1 [.int .u8 c.toNat] 5 rfl (by simp [Value.oneCell'])) rfl (by unfold maxLen; omega) (by omega) (by simp; omega) ?_)
            intro v2 w2 happ
            obtain ⟨ao2, ac2, hvs2, _⟩ := ownsRow_shape happ.own
            subst hvs2
            have kk : Keep (fun i => (Value.slice ao (highF p (s.take k)).length ac).ownBlock = some i) wr w2 := ((Keep.refl _ wr).alloc _).trans happ.keep (fun _ _ h => h)
            have hl3 : ∀ i, (Value.slice ao (highF p (s.take k)).length ac).ownBlock = some i → w.heap.size + 3 ≤ i ∧ i < wr.heap.size := fun i e => H1.out.lt i e
            have hb72 := HB7.out.keep kk (fun e => by have := hl3 _ e; omega)
            have hbb2 := HB.out.keep kk (fun e => by have := hl3 _ e; omega)
            have hoth2 := ownsRow_keep H0.out kk (fun g' e e' => HNE.out g' e e')
            have hov2 := ownsRow_keep HOV.out kk (fun g' e e' => own_apart H1.out HOV.out (by decide) g' e' e)
            have hfr2 : ∀ g', (Value.slice ao2 ((highF p (s.take k)).length + 1) ac2).ownBlock = some g' → v0.ownBlock ≠ some g' := fun g' e e' => by
              rcases happ.fresh with h | ⟨g2, h, hg2⟩
              · rw [h] at e
                exact HNE.out g' e' e
              · rw [h] at e
                cases e
                have := (H0.out.lt g' e').2
                simp at hg2; omega
            have c7 := hb72.cell 1; have f7 := hb72.free 1
            simp at c7
            have hw2 := kk.size
            have hown2 := happ.own
            have HK2 := Lib.hid (HK.out.trans kk (fun i hi e => by have := (hl3 i e).1; omega))
            have HB72 := Lib.hid hb72; have HBB2 := Lib.hid hbb2; have HOTH2 := Lib.hid hoth2; have HOV2 := Lib.hid hov2; have HFR2 := Lib.hid hfr2; have HOWN2 := Lib.hid hown2
            clear kk hl3 hb72 hbb2 hoth2 hov2 hfr2 hown2 happ
            go_wp2_with fail
            obtain ⟨w4, hw4⟩ : ∃ w4, w4 = w2.setCell ⟨w.heap.size + 1 + 1, 1, none⟩ (.slice ao2 ((highF p (s.take k)).length + 1) ac2) := ⟨_, rfl⟩
            rw [← hw4]
            have k4 : Keep (fun i => i = w.heap.size + 1 + 1) w2 w4 := by rw [hw4]; exact (Keep.refl _ _).setCell _ _ (fun _ => rfl)
            have hb74 : Blk w4 (w.heap.size + 1 + 1) #[v0, .slice ao2 ((highF p (s.take k)).length + 1) ac2] 167 := by
              have h := HB72.out.set 1 (.slice ao2 ((highF p (s.take k)).length + 1) ac2)
              rw [← hw4] at h
              simpa using h
            have hbb4 := HBB2.out.keep k4 (fun e => by omega)
            have hoth4 := ownsRow_keep HOTH2.out k4 (fun g' e e' => by have := (HOTH2.out.lt g' e).1; omega)
            have hown4 := ownsRow_keep HOWN2.out k4 (fun g' e e' => by have := (HOWN2.out.lt g' e).1; omega)
            have hov4 := ownsRow_keep HOV2.out k4 (fun g' e e' => by rw [e'] at e; exact HOB.out.2 e)
            have hz4 := k4.size
            have HK4 := Lib.hid (HK2.out.trans k4 (fun i hi e => by omega))
            obtain ⟨og, oc, hov, hoc⟩ : ∃ og oc, ov = .slice (some ⟨og, 0, none⟩) (k + 1) oc ∧ w4.cell? ⟨og, k, none⟩ = some (.int .i64 (q : Int)) := by
              have hl : (onesP p (s.take k)).length = k + 1 := by rw [onesP_length, List.length_take, Nat.min_eq_left (by omega)]
              have hq2 : (onesP p (s.take k)).getD k 0 = q := by
                have h := onesP_last p (s.take k)
                rw [List.length_take, Nat.min_eq_left (by omega)] at h
                rw [h, HQ.out]
              rcases (ownsRow_rd hov4 (icells_one _)).2.2 with ⟨_, h⟩ | ⟨g2, o2, c2, h, _, _, hx⟩
              · omega
              · rcases hov4.2 with ⟨h2, h3⟩ | ⟨g3, c3, cur, h3, _⟩
                · rw [h2] at h; cases h
                · rw [h3] at h
                  cases h
                  refine ⟨_, _, h3, ?_⟩
                  have := hx k _ (icells_get _ k (by rw [List.length_map, hl]; omega))
                  rw [Nat.zero_add] at this
                  rw [this]
                  have hkl : k < (onesP p (s.take k)).length := by omega
                  rw [← hq2]
                  simp [List.getD, hkl]
            subst hov
            have c41 := hbb4.cell 1
            have f41 := hbb4.free 1
            simp at c41
            have HS4 := Lib.hid (fun W (kW : Keep (fun _ => False) w4 W) => (show W.cell? ⟨w.heap.size + 1, 1, none⟩ = some (.slice (some ⟨og, 0, none⟩) (k + 1) oc) by rw [kW.cell (p := ⟨w.heap.size + 1, 1, none⟩) hbb4.lt (fun h => h)]; exact c41))
            have HB74 := Lib.hid hb74; have HBB4 := Lib.hid hbb4; have HOTH4 := Lib.hid hoth4; have HOWN4 := Lib.hid hown4; have HOV4 := Lib.hid hov4
            have hbl := hbb4.lt
            clear hb74 hbb4 hoth4 hown4 hov4 k4 hw4 c7 f7
            have s3 := IntWalk.i64_in (k : Int) ⟨by omega, by omega⟩
            have s5 : (k : Int) < (k : Int) + 1 := by omega
            have s6 : (0 : Int) ≤ (k : Int) := by omega
            have s4 := IntWalk.i64_in ((q : Int) + 1) ⟨by omega, by omega⟩
            refine wp_region_noPanic ?_
            refine wp_region_N 21 (fun W => W.cell? ⟨w.heap.size + 1, 1, none⟩ = some (.slice (some ⟨og, 0, none⟩) (k + 1) oc)) (by kernel_rfl) ?_
            have hSn : (fun W : World => W.cell? ⟨w.heap.size + 1, 1, none⟩ = some (.slice (some ⟨og, 0, none⟩) (k + 1) oc)) w4.drew := c41
            refine wpAnyN_take (i := 0) (oi := _) (v := ?_) rfl (by kernel_rfl) (by kernel_rfl) (by kernel_rfl) (by kernel_rfl) (fun _ _ _ h => h) (Or.inl ⟨by rfl, ?_⟩) (by assumption) ?_
            rotate_left
            · (intro w hSw; (try dsimp only at hSw); go_simp) <;> with_reducible rfl
            (try simp only [List.getElem_toArray, List.getElem_cons_zero, List.getElem_cons_succ, Act.put, List.setIfInBounds_toArray, List.set_cons_zero, List.set_cons_succ])
            refine wpAnyN_take (i := 1) (oi := _) (v := ?_) rfl (by kernel_rfl) (by kernel_rfl) (by kernel_rfl) (by kernel_rfl) (fun _ _ _ h => h) (Or.inl ⟨by rfl, ?_⟩) (by assumption) ?_
            rotate_left
            · (intro w hSw; (try dsimp only at hSw); go_simp) <;> with_reducible rfl
            (try simp only [List.getElem_toArray, List.getElem_cons_zero, List.getElem_cons_succ, Act.put, List.setIfInBounds_toArray, List.set_cons_zero, List.set_cons_succ])
            refine wpAnyN_take (i := 2) (oi := _) (v := ?_) rfl (by kernel_rfl) (by kernel_rfl) (by kernel_rfl) (by kernel_rfl) (fun _ _ _ h => h) (Or.inl ⟨by rfl, ?_⟩) (by assumption) ?_
            rotate_left
            · (intro w hSw; (try dsimp only at hSw); go_simp) <;> with_reducible rfl
            (try simp only [List.getElem_toArray, List.getElem_cons_zero, List.getElem_cons_succ, Act.put, List.setIfInBounds_toArray, List.set_cons_zero, List.set_cons_succ])
            refine wpAnyN_take (i := 3) (oi := _) (v := ?_) rfl (by kernel_rfl) (by kernel_rfl) (by kernel_rfl) (by kernel_rfl) (fun _ _ _ h => h) (Or.inl ⟨by rfl, ?_⟩) (by assumption) ?_
            rotate_left
            · (intro w hSw; (try dsimp only at hSw); go_simp) <;> with_reducible rfl
            (try simp only [List.getElem_toArray, List.getElem_cons_zero, List.getElem_cons_succ, Act.put, List.setIfInBounds_toArray, List.set_cons_zero, List.set_cons_succ])
            refine wpAnyN_take (i := 4) (oi := _) (v := ?_) rfl (by kernel_rfl) (by kernel_rfl) (by kernel_rfl) (by kernel_rfl) (fun _ _ _ h => h) (Or.inl ⟨by rfl, ?_⟩) (by assumption) ?_
            rotate_left
            · (intro w hSw; (try dsimp only at hSw); go_simp) <;> with_reducible rfl
            (try simp only [List.getElem_toArray, List.getElem_cons_zero, List.getElem_cons_succ, Act.put, List.setIfInBounds_toArray, List.set_cons_zero, List.set_cons_succ])
            refine wpAnyN_take (i := 5) (oi := _) (v := ?_) rfl (by kernel_rfl) (by kernel_rfl) (by kernel_rfl) (by kernel_rfl) (fun _ _ _ h => h) (Or.inl ⟨by rfl, ?_⟩) (by assumption) ?_
            rotate_left
            · (intro w hSw; (try dsimp only at hSw); go_simp) <;> with_reducible rfl
            (try simp only [List.getElem_toArray, List.getElem_cons_zero, List.getElem_cons_succ, Act.put, List.setIfInBounds_toArray, List.set_cons_zero, List.set_cons_succ])
            refine wpAnyN_take (i := 6) (oi := _) (v := ?_) rfl (by kernel_rfl) (by kernel_rfl) (by kernel_rfl) (by kernel_rfl) (fun _ _ _ h => h) (Or.inl ⟨by rfl, ?_⟩) (by assumption) ?_
            rotate_left
            · (intro w hSw; (try dsimp only at hSw); go_simp) <;> with_reducible rfl
            (try simp only [List.getElem_toArray, List.getElem_cons_zero, List.getElem_cons_succ, Act.put, List.setIfInBounds_toArray, List.set_cons_zero, List.set_cons_succ])
            refine wpAnyN_take (i := 7) (oi := _) (v := ?_) rfl (by kernel_rfl) (by kernel_rfl) (by kernel_rfl) (by kernel_rfl) (fun _ _ _ h => h) (Or.inl ⟨by rfl, ?_⟩) (by assumption) ?_
            rotate_left
            · (intro w hSw; (try dsimp only at hSw); go_simp) <;> with_reducible rfl
            (try simp only [List.getElem_toArray, List.getElem_cons_zero, List.getElem_cons_succ, Act.put, List.setIfInBounds_toArray, List.set_cons_zero, List.set_cons_succ])
            refine wpAnyN_take (i := 8) (oi := _) (v := ?_) rfl (by kernel_rfl) (by kernel_rfl) (by kernel_rfl) (by kernel_rfl) (fun _ _ _ h => h) (Or.inl ⟨by rfl, ?_⟩) (by assumption) ?_
            rotate_left
            · (intro w hSw; (try dsimp only at hSw); go_simp) <;> with_reducible rfl
            (try simp only [List.getElem_toArray, List.getElem_cons_zero, List.getElem_cons_succ, Act.put, List.setIfInBounds_toArray, List.set_cons_zero, List.set_cons_succ])
            refine wpAnyN_take (i := 9) (oi := _) (v := ?_) rfl (by kernel_rfl) (by kernel_rfl) (by kernel_rfl) (by kernel_rfl) (fun _ _ _ h => h) (Or.inl ⟨by rfl, ?_⟩) (by assumption) ?_
            rotate_left
            · (intro w hSw; (try dsimp only at hSw); go_simp) <;> with_reducible rfl
            (try simp only [List.getElem_toArray, List.getElem_cons_zero, List.getElem_cons_succ, Act.put, List.setIfInBounds_toArray, List.set_cons_zero, List.set_cons_succ])
            refine wpAnyN_take (i := 10) (oi := _) (v := ?_) rfl (by kernel_rfl) (by kernel_rfl) (by kernel_rfl) (by kernel_rfl) (fun _ _ _ h => h) (Or.inl ⟨by rfl, ?_⟩) (by assumption) ?_
            rotate_left
            · (intro w hSw; (try dsimp only at hSw); go_simp) <;> with_reducible rfl
            (try simp only [List.getElem_toArray, List.getElem_cons_zero, List.getElem_cons_succ, Act.put, List.setIfInBounds_toArray, List.set_cons_zero, List.set_cons_succ])
            refine wpAnyN_take (i := 11) (oi := _) (v := ?_) rfl (by kernel_rfl) (by kernel_rfl) (by kernel_rfl) (by kernel_rfl) (fun _ _ _ h => h) (Or.inl ⟨by rfl, ?_⟩) (by assumption) ?_
            rotate_left
            · (intro w hSw; (try dsimp only at hSw); go_simp) <;> with_reducible rfl
            (try simp only [List.getElem_toArray, List.getElem_cons_zero, List.getElem_cons_succ, Act.put, List.setIfInBounds_toArray, List.set_cons_zero, List.set_cons_succ])
            refine wpAnyN_take (i := 12) (oi := _) (v := ?_) rfl (by kernel_rfl) (by kernel_rfl) (by kernel_rfl) (by kernel_rfl) (fun _ _ _ h => h) (Or.inl ⟨by rfl, ?_⟩) (by assumption) ?_
            rotate_left
            · (intro w hSw; (try dsimp only at hSw); go_simp) <;> with_reducible rfl
            (try simp only [List.getElem_toArray, List.getElem_cons_zero, List.getElem_cons_succ, Act.put, List.setIfInBounds_toArray, List.set_cons_zero, List.set_cons_succ])
            refine wpAnyN_take (i := 13) (oi := _) (v := ?_) rfl (by kernel_rfl) (by kernel_rfl) (by kernel_rfl) (by kernel_rfl) (fun _ _ _ h => h) (Or.inl ⟨by rfl, ?_⟩) (by assumption) ?_
            rotate_left
            · (intro w hSw; (try dsimp only at hSw); go_simp) <;> with_reducible rfl
            (try simp only [List.getElem_toArray, List.getElem_cons_zero, List.getElem_cons_succ, Act.put, List.setIfInBounds_toArray, List.set_cons_zero, List.set_cons_succ])
            refine wpAnyN_take (i := 14) (oi := _) (v := ?_) rfl (by kernel_rfl) (by kernel_rfl) (by kernel_rfl) (by kernel_rfl) (fun _ _ _ h => h) (Or.inl ⟨by rfl, ?_⟩) (by assumption) ?_
            rotate_left
            · (intro w hSw; (try dsimp only at hSw); go_simp) <;> with_reducible rfl
            (try simp only [List.getElem_toArray, List.getElem_cons_zero, List.getElem_cons_succ, Act.put, List.setIfInBounds_toArray, List.set_cons_zero, List.set_cons_succ])
            refine wpAnyN_take (i := 15) (oi := _) (v := ?_) rfl (by kernel_rfl) (by kernel_rfl) (by kernel_rfl) (by kernel_rfl) (fun _ _ _ h => h) (Or.inl ⟨by rfl, ?_⟩) (by assumption) ?_
            rotate_left
            · (intro w hSw; (try dsimp only at hSw); go_simp) <;> with_reducible rfl
            (try simp only [List.getElem_toArray, List.getElem_cons_zero, List.getElem_cons_succ, Act.put, List.setIfInBounds_toArray, List.set_cons_zero, List.set_cons_succ])
            refine wpAnyN_take (i := 17) (oi := _) (v := ?_) rfl (by kernel_rfl) (by kernel_rfl) (by kernel_rfl) (by kernel_rfl) (fun _ _ _ h => h) (Or.inl ⟨by rfl, ?_⟩) (by assumption) ?_
            rotate_left
            · (intro w hSw; (try dsimp only at hSw); go_simp) <;> with_reducible rfl
            (try simp only [List.getElem_toArray, List.getElem_cons_zero, List.getElem_cons_succ, Act.put, List.setIfInBounds_toArray, List.set_cons_zero, List.set_cons_succ])
            refine wpAnyN_one (i := 16) (o := _) (by kernel_rfl) rfl (fun K hK => ?_)
            go_simp
            refine hK.out _ _ (fun _ => hSn) ?_
            clear hK K
            (try simp only [List.getElem_toArray, List.getElem_cons_zero, List.getElem_cons_succ, Act.put, List.setIfInBounds_toArray, List.set_cons_zero, List.set_cons_succ])
            refine wpAnyN_take (i := 18) (oi := _) (v := ?_) rfl (by kernel_rfl) (by kernel_rfl) (by kernel_rfl) (by kernel_rfl) (fun _ _ _ h => h) (Or.inl ⟨by rfl, ?_⟩) (by assumption) ?_
            rotate_left
            · (intro w hSw; (try dsimp only at hSw); go_simp) <;> with_reducible rfl
            (try simp only [List.getElem_toArray, List.getElem_cons_zero, List.getElem_cons_succ, Act.put, List.setIfInBounds_toArray, List.set_cons_zero, List.set_cons_succ])
            refine wpAnyN_one (i := 19) (o := _) (by kernel_rfl) rfl (fun K hK => ?_)
            go_simp
            refine hK.out _ _ (fun _ => ?_) ?_
            · exact HS4.out _ ((Keep.refl _ w4).drew.alloc _)
            clear hK K
            (try simp only [List.getElem_toArray, List.getElem_cons_zero, List.getElem_cons_succ, Act.put, List.setIfInBounds_toArray, List.set_cons_zero, List.set_cons_succ])
            refine wpAnyN_one (i := 20) (o := _) (by kernel_rfl) rfl (fun K hK => ?_)
            rw [if_pos (by rfl)]
            refine oper_app (w := w4.drew.alloc (.cells #[.int .i64 ((q : Int) + 1)] 3)) (.tmp 47) (.tmp 62) 22 22 rfl 3 (.int .i64 0) 1 8 Tryz.underlying22 info3g rfl (ownsRow_keep HOV4.out ((Keep.refl (fun _ => False) w4).drew.alloc _) (fun _ _ h => h)) rfl (Src.new (P := Tryz.prog) Tryz.underlying22 w4.drew 1 [.int .i64 ((q : Int) + 1)] 3 rfl (by simp [Value.oneCell'])) rfl (by unfold maxLen; omega) (by omega) (by simp; omega) (fun v7 w7 happ7 => ?_)
            obtain ⟨ao7, ac7, hvs7, _⟩ := ownsRow_shape happ7.own
            subst hvs7
            have k7 : Keep (fun i => (Value.slice (some ⟨og, 0, none⟩) (k + 1) oc).ownBlock = some i) w4 w7 := (((Keep.refl _ w4).drew.alloc (.cells #[.int .i64 ((q : Int) + 1)] 3))).trans happ7.keep (fun _ _ h => h)
            have c47 : w7.cell? ⟨w.heap.size + 1, 1, none⟩ = some (.slice (some ⟨og, 0, none⟩) (k + 1) oc) := (k7.cell (p := ⟨w.heap.size + 1, 1, none⟩) hbl (fun e => HOB.out.1 e)).trans c41
            have f47 : w7.frozen? ⟨w.heap.size + 1, 1, none⟩ = false := (k7.frozen (p := ⟨w.heap.size + 1, 1, none⟩) hbl (fun e => HOB.out.1 e)).trans f41
            have hown7 := happ7.own
            have hfr7 : (Value.slice ao7 (k + 1 + 1) ac7).ownBlock ≠ some (w.heap.size + 1) ∧ (Value.slice ao7 (k + 1 + 1) ac7).ownBlock ≠ some (w.heap.size + 1 + 1) := by
              rcases happ7.fresh with h | ⟨g2, h, hg2⟩
              · rw [h]; exact HOB.out
              · rw [h]
                simp at hg2
                have h7 := HB74.out.lt
                exact ⟨fun e => by have := Option.some.inj e; omega, fun e => by have := Option.some.inj e; omega⟩
            have HK7 := Lib.hid k7; have HOWN7 := Lib.hid hown7; have HFR7 := Lib.hid hfr7
            clear happ7 k7 hown7 hfr7
            refine hK.out _ _ (fun _ => c47) ?_
            clear hK K
            (try simp only [List.getElem_toArray, List.getElem_cons_zero, List.getElem_cons_succ, Act.put, List.setIfInBounds_toArray, List.set_cons_zero, List.set_cons_succ])
            refine wpAnyN_one (i := 21) (o := _) (by kernel_rfl) rfl (fun K hK => ?_)
            go_simp
            refine hK.out _ _ (fun h => absurd h (by decide)) ?_
            clear hK K
            (try simp only [List.getElem_toArray, List.getElem_cons_zero, List.getElem_cons_succ, Act.put, List.setIfInBounds_toArray, List.set_cons_zero, List.set_cons_succ])
            refine wpAnyN_one (i := 22) (o := _) (by kernel_rfl) rfl (fun K hK => ?_)
            go_simp
            refine hK.out _ _ (fun h => absurd h (by decide)) ?_
            clear hK K
            (try simp only [List.getElem_toArray, List.getElem_cons_zero, List.getElem_cons_succ, Act.put, List.setIfInBounds_toArray, List.set_cons_zero, List.set_cons_succ])
            refine wpAnyN_one (i := 23) (o := _) (by kernel_rfl) rfl (fun K hK => ?_)
            go_simp
            refine hK.out _ _ (fun h => absurd h (by decide)) ?_
            clear hK K
            (try simp only [List.getElem_toArray, List.getElem_cons_zero, List.getElem_cons_succ, Act.put, List.setIfInBounds_toArray, List.set_cons_zero, List.set_cons_succ])
            refine wpAnyN_done (by kernel_rfl) ?_ _
            refine NoPanic.normal ?_
            clear s3 s4 s5 s6 c47 f47 c41 f41 hSn hoc
            go_wp2_with fail
            go_roundw
            case measure => simp [intOf]; omega
            case rel =>
              have k8 : Keep (fun i => i = w.heap.size + 1) w7 (w7.setCell ⟨w.heap.size + 1, 1, none⟩ (.slice ao7 (k + 1 + 1) ac7)) := (Keep.refl _ _).setCell _ _ (fun _ => rfl)
              have hF := HF.out; have hG := HGG.out; have hO := HOO.out
              have hov8 := ownsRow_keep HOWN7.out k8 (fun g' e e' => HFR7.out.1 (by rw [e, e']))
              have hb78 := (HB74.out.keep HK7.out (fun e => HOB.out.2 e)).keep k8 (fun e => by omega)
              have hb8 := (HBB4.out.keep HK7.out (fun e => HOB.out.1 e)).set 1 (.slice ao7 (k + 1 + 1) ac7)
              have hown8 := ownsRow_keep (ownsRow_keep HOWN4.out HK7.out (fun g' e e' => own_apart HOWN4.out HOV4.out (by decide) g' e e')) k8 (fun g' e e' => by have := (HOWN4.out.lt g' e).1; omega)
              have hoth8 := ownsRow_keep (ownsRow_keep HOTH4.out HK7.out (fun g' e e' => own_apart HOTH4.out HOV4.out (by decide) g' e e')) k8 (fun g' e e' => by have := (HOTH4.out.lt g' e).1; omega)
              have hk8 : Keep (fun _ => False) w (w7.setCell ⟨w.heap.size + 1, 1, none⟩ (.slice ao7 (k + 1 + 1) ac7)) := (HK4.out.trans HK7.out (fun i hi e => by have := (HOV4.out.lt i e).1; omega)).setCell _ _ (fun h => by have h' : w.heap.size + 1 < w.heap.size := h; omega)
              have hz8 := HK7.out.size
              refine ⟨k + 1, v0, .slice ao2 ((highF p (s.take k)).length + 1) ac2, .slice ao7 (k + 1 + 1) ac7, by omega, by go_num, hk8, by simp; omega, hb78, by simpa using hb8, ?_, ?_, ?_, ?_, HFR7.out.1, HFR7.out.2⟩
              · rw [hG]; exact hoth8
              · rw [hF]; simpa [bcells] using hown8
              · rw [hO]; simpa [icells] using hov8
              · exact fun g' e e' => HFR2.out g' e' e
          · have hpcn : ¬ p.toNat ≤ c.toNat := fun h => hpc (UInt8.le_iff_toNat_le.2 h)
            have q1 : ((p.toNat : Int) ≤ (c.toNat : Int)) = False := by simp; omega
            obtain ⟨ao, ac, hvs, _⟩ := ownsRow_shape H0.out
            have hF : lowF p (s.take (k + 1)) = lowF p (s.take k) ++ [c] := by rw [HTK.out, lowF_snoc, if_neg hpc]
            have hG : highF p (s.take (k + 1)) = highF p (s.take k) := by rw [HTK.out, highF_snoc, if_neg hpc]
            have hO : (onesP p (s.take (k + 1))).map Int.ofNat = (onesP p (s.take k)).map Int.ofNat ++ [((q + 0 : Nat) : Int)] := by rw [HTK.out, onesP_snoc, if_neg hpc, List.map_append, ← HQ.out]; rfl
            have HF := Lib.hid hF; have HGG := Lib.hid hG; have HOO := Lib.hid hO
            have hlF : (lowF p (s.take k)).length ≤ 201 := by have h1 := lowF_le p (s.take k); have h2 : (s.take k).length ≤ s.length := List.length_take_le' _ _; omega
            clear hpc hF hG hO
            subst hvs
            go_wp2_with (at_builtin; refine wpList_app (w := wr.alloc (.cells #[.int .u8 c.toNat] 5)) rfl (.tmp 38) (.tmp 40) 54 54 rfl 5 (.int .u8 0) 1 1 Tryz.underlying54 info5 rfl (H0.out.alloc _) rfl (Src.new (P := Tryz.prog) Tryz.underlying54 wr 1 [.int .u8 c.toNat] 5 rfl (by simp [Value.oneCell'])) rfl (by unfold maxLen; omega) (by omega) (by simp; omega) ?_)
            intro v2 w2 happ
            obtain ⟨ao2, ac2, hvs2, _⟩ := ownsRow_shape happ.own
            subst hvs2
            have kk : Keep (fun i => (Value.slice ao (lowF p (s.take k)).length ac).ownBlock = some i) wr w2 := ((Keep.refl _ wr).alloc _).trans happ.keep (fun _ _ h => h)
            have hl3 : ∀ i, (Value.slice ao (lowF p (s.take k)).length ac).ownBlock = some i → w.heap.size + 3 ≤ i ∧ i < wr.heap.size := fun i e => H0.out.lt i e
            have hb72 := HB7.out.keep kk (fun e => by have := hl3 _ e; omega)
            have hbb2 := HB.out.keep kk (fun e => by have := hl3 _ e; omega)
            have hoth2 := ownsRow_keep H1.out kk (fun g' e e' => HNE.out g' e' e)
            have hov2 := ownsRow_keep HOV.out kk (fun g' e e' => own_apart H0.out HOV.out (by decide) g' e' e)
            have hfr2 : ∀ g', (Value.slice ao2 ((lowF p (s.take k)).length + 1) ac2).ownBlock = some g' → v1.ownBlock ≠ some g' := fun g' e e' => by
              rcases happ.fresh with h | ⟨g2, h, hg2⟩
              · rw [h] at e
                exact HNE.out g' e e'
              · rw [h] at e
                cases e
                have := (H1.out.lt g' e').2
                simp at hg2; omega
            have c7 := hb72.cell 0; have f7 := hb72.free 0
            simp at c7
            have hw2 := kk.size
            have hown2 := happ.own
            have HK2 := Lib.hid (HK.out.trans kk (fun i hi e => by have := (hl3 i e).1; omega))
            have HB72 := Lib.hid hb72; have HBB2 := Lib.hid hbb2; have HOTH2 := Lib.hid hoth2; have HOV2 := Lib.hid hov2; have HFR2 := Lib.hid hfr2; have HOWN2 := Lib.hid hown2
            clear kk hl3 hb72 hbb2 hoth2 hov2 hfr2 hown2 happ
            go_wp2_with fail
            obtain ⟨w4, hw4⟩ : ∃ w4, w4 = w2.setCell ⟨w.heap.size + 1 + 1, 0, none⟩ (.slice ao2 ((lowF p (s.take k)).length + 1) ac2) := ⟨_, rfl⟩
            rw [← hw4]
            have k4 : Keep (fun i => i = w.heap.size + 1 + 1) w2 w4 := by rw [hw4]; exact (Keep.refl _ _).setCell _ _ (fun _ => rfl)
            have hb74 : Blk w4 (w.heap.size + 1 + 1) #[.slice ao2 ((lowF p (s.take k)).length + 1) ac2, v1] 167 := by
              have h := HB72.out.set 0 (.slice ao2 ((lowF p (s.take k)).length + 1) ac2)
              rw [← hw4] at h
              simpa using h
            have hbb4 := HBB2.out.keep k4 (fun e => by omega)
            have hoth4 := ownsRow_keep HOTH2.out k4 (fun g' e e' => by have := (HOTH2.out.lt g' e).1; omega)
            have hown4 := ownsRow_keep HOWN2.out k4 (fun g' e e' => by have := (HOWN2.out.lt g' e).1; omega)
            have hov4 := ownsRow_keep HOV2.out k4 (fun g' e e' => by rw [e'] at e; exact HOB.out.2 e)
            have hz4 := k4.size
            have HK4 := Lib.hid (HK2.out.trans k4 (fun i hi e => by omega))
            obtain ⟨og, oc, hov, hoc⟩ : ∃ og oc, ov = .slice (some ⟨og, 0, none⟩) (k + 1) oc ∧ w4.cell? ⟨og, k, none⟩ = some (.int .i64 (q : Int)) := by
              have hl : (onesP p (s.take k)).length = k + 1 := by rw [onesP_length, List.length_take, Nat.min_eq_left (by omega)]
              have hq2 : (onesP p (s.take k)).getD k 0 = q := by
                have h := onesP_last p (s.take k)
                rw [List.length_take, Nat.min_eq_left (by omega)] at h
                rw [h, HQ.out]
              rcases (ownsRow_rd hov4 (icells_one _)).2.2 with ⟨_, h⟩ | ⟨g2, o2, c2, h, _, _, hx⟩
              · omega
              · rcases hov4.2 with ⟨h2, h3⟩ | ⟨g3, c3, cur, h3, _⟩
                · rw [h2] at h; cases h
                · rw [h3] at h
                  cases h
                  refine ⟨_, _, h3, ?_⟩
                  have := hx k _ (icells_get _ k (by rw [List.length_map, hl]; omega))
                  rw [Nat.zero_add] at this
                  rw [this]
                  have hkl : k < (onesP p (s.take k)).length := by omega
                  rw [← hq2]
                  simp [List.getD, hkl]
            subst hov
            have c41 := hbb4.cell 1
            have f41 := hbb4.free 1
            simp at c41
            have HS4 := Lib.hid (fun W (kW : Keep (fun _ => False) w4 W) => (show W.cell? ⟨w.heap.size + 1, 1, none⟩ = some (.slice (some ⟨og, 0, none⟩) (k + 1) oc) by rw [kW.cell (p := ⟨w.heap.size + 1, 1, none⟩) hbb4.lt (fun h => h)]; exact c41))
            have HB74 := Lib.hid hb74; have HBB4 := Lib.hid hbb4; have HOTH4 := Lib.hid hoth4; have HOWN4 := Lib.hid hown4; have HOV4 := Lib.hid hov4
            have hbl := hbb4.lt
            clear hb74 hbb4 hoth4 hown4 hov4 k4 hw4 c7 f7
            have s3 := IntWalk.i64_in (k : Int) ⟨by omega, by omega⟩
            have s5 : (k : Int) < (k : Int) + 1 := by omega
            have s6 : (0 : Int) ≤ (k : Int) := by omega
            have s4 := IntWalk.i64_in (q : Int) ⟨by omega, by omega⟩
            refine wp_region_noPanic ?_
            refine wp_region_N 21 (fun W => W.cell? ⟨w.heap.size + 1, 1, none⟩ = some (.slice (some ⟨og, 0, none⟩) (k + 1) oc)) (by kernel_rfl) ?_
            have hSn : (fun W : World => W.cell? ⟨w.heap.size + 1, 1, none⟩ = some (.slice (some ⟨og, 0, none⟩) (k + 1) oc)) w4.drew := c41
            refine wpAnyN_take (i := 0) (oi := _) (v := ?_) rfl (by kernel_rfl) (by kernel_rfl) (by kernel_rfl) (by kernel_rfl) (fun _ _ _ h => h) (Or.inl ⟨by rfl, ?_⟩) (by assumption) ?_
            rotate_left
            · (intro w hSw; (try dsimp only at hSw); go_simp) <;> with_reducible rfl
            (try simp only [List.getElem_toArray, List.getElem_cons_zero, List.getElem_cons_succ, Act.put, List.setIfInBounds_toArray, List.set_cons_zero, List.set_cons_succ])
            refine wpAnyN_take (i := 1) (oi := _) (v := ?_) rfl (by kernel_rfl) (by kernel_rfl) (by kernel_rfl) (by kernel_rfl) (fun _ _ _ h => h) (Or.inl ⟨by rfl, ?_⟩) (by assumption) ?_
            rotate_left
            · (intro w hSw; (try dsimp only at hSw); go_simp) <;> with_reducible rfl
            (try simp only [List.getElem_toArray, List.getElem_cons_zero, List.getElem_cons_succ, Act.put, List.setIfInBounds_toArray, List.set_cons_zero, List.set_cons_succ])
            refine wpAnyN_take (i := 2) (oi := _) (v := ?_) rfl (by kernel_rfl) (by kernel_rfl) (by kernel_rfl) (by kernel_rfl) (fun _ _ _ h => h) (Or.inl ⟨by rfl, ?_⟩) (by assumption) ?_
            rotate_left
            · (intro w hSw; (try dsimp only at hSw); go_simp) <;> with_reducible rfl
            (try simp only [List.getElem_toArray, List.getElem_cons_zero, List.getElem_cons_succ, Act.put, List.setIfInBounds_toArray, List.set_cons_zero, List.set_cons_succ])
            refine wpAnyN_take (i := 3) (oi := _) (v := ?_) rfl (by kernel_rfl) (by kernel_rfl) (by kernel_rfl) (by kernel_rfl) (fun _ _ _ h => h) (Or.inl ⟨by rfl, ?_⟩) (by assumption) ?_
            rotate_left
            · (intro w hSw; (try dsimp only at hSw); go_simp) <;> with_reducible rfl
            (try simp only [List.getElem_toArray, List.getElem_cons_zero, List.getElem_cons_succ, Act.put, List.setIfInBounds_toArray, List.set_cons_zero, List.set_cons_succ])
            refine wpAnyN_take (i := 4) (oi := _) (v := ?_) rfl (by kernel_rfl) (by kernel_rfl) (by kernel_rfl) (by kernel_rfl) (fun _ _ _ h => h) (Or.inl ⟨by rfl, ?_⟩) (by assumption) ?_
            rotate_left
            · (intro w hSw; (try dsimp only at hSw); go_simp) <;> with_reducible rfl
            (try simp only [List.getElem_toArray, List.getElem_cons_zero, List.getElem_cons_succ, Act.put, List.setIfInBounds_toArray, List.set_cons_zero, List.set_cons_succ])
            refine wpAnyN_take (i := 5) (oi := _) (v := ?_) rfl (by kernel_rfl) (by kernel_rfl) (by kernel_rfl) (by kernel_rfl) (fun _ _ _ h => h) (Or.inl ⟨by rfl, ?_⟩) (by assumption) ?_
            rotate_left
            · (intro w hSw; (try dsimp only at hSw); go_simp) <;> with_reducible rfl
            (try simp only [List.getElem_toArray, List.getElem_cons_zero, List.getElem_cons_succ, Act.put, List.setIfInBounds_toArray, List.set_cons_zero, List.set_cons_succ])
            refine wpAnyN_take (i := 6) (oi := _) (v := ?_) rfl (by kernel_rfl) (by kernel_rfl) (by kernel_rfl) (by kernel_rfl) (fun _ _ _ h => h) (Or.inl ⟨by rfl, ?_⟩) (by assumption) ?_
            rotate_left
            · (intro w hSw; (try dsimp only at hSw); go_simp) <;> with_reducible rfl
            (try simp only [List.getElem_toArray, List.getElem_cons_zero, List.getElem_cons_succ, Act.put, List.setIfInBounds_toArray, List.set_cons_zero, List.set_cons_succ])
            refine wpAnyN_take (i := 7) (oi := _) (v := ?_) rfl (by kernel_rfl) (by kernel_rfl) (by kernel_rfl) (by kernel_rfl) (fun _ _ _ h => h) (Or.inl ⟨by rfl, ?_⟩) (by assumption) ?_
            rotate_left
            · (intro w hSw; (try dsimp only at hSw); go_simp) <;> with_reducible rfl
            (try simp only [List.getElem_toArray, List.getElem_cons_zero, List.getElem_cons_succ, Act.put, List.setIfInBounds_toArray, List.set_cons_zero, List.set_cons_succ])
            refine wpAnyN_take (i := 8) (oi := _) (v := ?_) rfl (by kernel_rfl) (by kernel_rfl) (by kernel_rfl) (by kernel_rfl) (fun _ _ _ h => h) (Or.inl ⟨by rfl, ?_⟩) (by assumption) ?_
            rotate_left
            · (intro w hSw; (try dsimp only at hSw); go_simp) <;> with_reducible rfl
            (try simp only [List.getElem_toArray, List.getElem_cons_zero, List.getElem_cons_succ, Act.put, List.setIfInBounds_toArray, List.set_cons_zero, List.set_cons_succ])
            refine wpAnyN_take (i := 9) (oi := _) (v := ?_) rfl (by kernel_rfl) (by kernel_rfl) (by kernel_rfl) (by kernel_rfl) (fun _ _ _ h => h) (Or.inl ⟨by rfl, ?_⟩) (by assumption) ?_
            rotate_left
            · (intro w hSw; (try dsimp only at hSw); go_simp) <;> with_reducible rfl
            (try simp only [List.getElem_toArray, List.getElem_cons_zero, List.getElem_cons_succ, Act.put, List.setIfInBounds_toArray, List.set_cons_zero, List.set_cons_succ])
            refine wpAnyN_take (i := 10) (oi := _) (v := ?_) rfl (by kernel_rfl) (by kernel_rfl) (by kernel_rfl) (by kernel_rfl) (fun _ _ _ h => h) (Or.inl ⟨by rfl, ?_⟩) (by assumption) ?_
            rotate_left
            · (intro w hSw; (try dsimp only at hSw); go_simp) <;> with_reducible rfl
            (try simp only [List.getElem_toArray, List.getElem_cons_zero, List.getElem_cons_succ, Act.put, List.setIfInBounds_toArray, List.set_cons_zero, List.set_cons_succ])
            refine wpAnyN_take (i := 11) (oi := _) (v := ?_) rfl (by kernel_rfl) (by kernel_rfl) (by kernel_rfl) (by kernel_rfl) (fun _ _ _ h => h) (Or.inl ⟨by rfl, ?_⟩) (by assumption) ?_
            rotate_left
            · (intro w hSw; (try dsimp only at hSw); go_simp) <;> with_reducible rfl
            (try simp only [List.getElem_toArray, List.getElem_cons_zero, List.getElem_cons_succ, Act.put, List.setIfInBounds_toArray, List.set_cons_zero, List.set_cons_succ])
            refine wpAnyN_take (i := 12) (oi := _) (v := ?_) rfl (by kernel_rfl) (by kernel_rfl) (by kernel_rfl) (by kernel_rfl) (fun _ _ _ h => h) (Or.inl ⟨by rfl, ?_⟩) (by assumption) ?_
            rotate_left
            · (intro w hSw; (try dsimp only at hSw); go_simp) <;> with_reducible rfl
            (try simp only [List.getElem_toArray, List.getElem_cons_zero, List.getElem_cons_succ, Act.put, List.setIfInBounds_toArray, List.set_cons_zero, List.set_cons_succ])
            refine wpAnyN_take (i := 13) (oi := _) (v := ?_) rfl (by kernel_rfl) (by kernel_rfl) (by kernel_rfl) (by kernel_rfl) (fun _ _ _ h => h) (Or.inl ⟨by rfl, ?_⟩) (by assumption) ?_
            rotate_left
            · (intro w hSw; (try dsimp only at hSw); go_simp) <;> with_reducible rfl
            (try simp only [List.getElem_toArray, List.getElem_cons_zero, List.getElem_cons_succ, Act.put, List.setIfInBounds_toArray, List.set_cons_zero, List.set_cons_succ])
            refine wpAnyN_take (i := 14) (oi := _) (v := ?_) rfl (by kernel_rfl) (by kernel_rfl) (by kernel_rfl) (by kernel_rfl) (fun _ _ _ h => h) (Or.inl ⟨by rfl, ?_⟩) (by assumption) ?_
            rotate_left
            · (intro w hSw; (try dsimp only at hSw); go_simp) <;> with_reducible rfl
            (try simp only [List.getElem_toArray, List.getElem_cons_zero, List.getElem_cons_succ, Act.put, List.setIfInBounds_toArray, List.set_cons_zero, List.set_cons_succ])
            refine wpAnyN_take (i := 15) (oi := _) (v := ?_) rfl (by kernel_rfl) (by kernel_rfl) (by kernel_rfl) (by kernel_rfl) (fun _ _ _ h => h) (Or.inl ⟨by rfl, ?_⟩) (by assumption) ?_
            rotate_left
            · (intro w hSw; (try dsimp only at hSw); go_simp) <;> with_reducible rfl
            (try simp only [List.getElem_toArray, List.getElem_cons_zero, List.getElem_cons_succ, Act.put, List.setIfInBounds_toArray, List.set_cons_zero, List.set_cons_succ])
            refine wpAnyN_take (i := 17) (oi := _) (v := ?_) rfl (by kernel_rfl) (by kernel_rfl) (by kernel_rfl) (by kernel_rfl) (fun _ _ _ h => h) (Or.inl ⟨by rfl, ?_⟩) (by assumption) ?_
            rotate_left
            · (intro w hSw; (try dsimp only at hSw); go_simp) <;> with_reducible rfl
            (try simp only [List.getElem_toArray, List.getElem_cons_zero, List.getElem_cons_succ, Act.put, List.setIfInBounds_toArray, List.set_cons_zero, List.set_cons_succ])
            refine wpAnyN_one (i := 16) (o := _) (by kernel_rfl) rfl (fun K hK => ?_)
            go_simp
            refine hK.out _ _ (fun _ => hSn) ?_
            clear hK K
            (try simp only [List.getElem_toArray, List.getElem_cons_zero, List.getElem_cons_succ, Act.put, List.setIfInBounds_toArray, List.set_cons_zero, List.set_cons_succ])
            refine wpAnyN_take (i := 18) (oi := _) (v := ?_) rfl (by kernel_rfl) (by kernel_rfl) (by kernel_rfl) (by kernel_rfl) (fun _ _ _ h => h) (Or.inl ⟨by rfl, ?_⟩) (by assumption) ?_
            rotate_left
            · (intro w hSw; (try dsimp only at hSw); go_simp) <;> with_reducible rfl
            (try simp only [List.getElem_toArray, List.getElem_cons_zero, List.getElem_cons_succ, Act.put, List.setIfInBounds_toArray, List.set_cons_zero, List.set_cons_succ])
            refine wpAnyN_one (i := 19) (o := _) (by kernel_rfl) rfl (fun K hK => ?_)
            go_simp
            refine hK.out _ _ (fun _ => ?_) ?_
            · exact HS4.out _ ((Keep.refl _ w4).drew.alloc _)
            clear hK K
            (try simp only [List.getElem_toArray, List.getElem_cons_zero, List.getElem_cons_succ, Act.put, List.setIfInBounds_toArray, List.set_cons_zero, List.set_cons_succ])
            refine wpAnyN_one (i := 20) (o := _) (by kernel_rfl) rfl (fun K hK => ?_)
            rw [if_pos (by rfl)]
            refine oper_app (w := w4.drew.alloc (.cells #[.int .i64 (q : Int)] 3)) (.tmp 47) (.tmp 62) 22 22 rfl 3 (.int .i64 0) 1 8 Tryz.underlying22 info3g rfl (ownsRow_keep HOV4.out ((Keep.refl (fun _ => False) w4).drew.alloc _) (fun _ _ h => h)) rfl (Src.new (P := Tryz.prog) Tryz.underlying22 w4.drew 1 [.int .i64 (q : Int)] 3 rfl (by simp [Value.oneCell'])) rfl (by unfold maxLen; omega) (by omega) (by simp; omega) (fun v7 w7 happ7 => ?_)
            obtain ⟨ao7, ac7, hvs7, _⟩ := ownsRow_shape happ7.own
            subst hvs7
            have k7 : Keep (fun i => (Value.slice (some ⟨og, 0, none⟩) (k + 1) oc).ownBlock = some i) w4 w7 := (((Keep.refl _ w4).drew.alloc (.cells #[.int .i64 (q : Int)] 3))).trans happ7.keep (fun _ _ h => h)
            have c47 : w7.cell? ⟨w.heap.size + 1, 1, none⟩ = some (.slice (some ⟨og, 0, none⟩) (k + 1) oc) := (k7.cell (p := ⟨w.heap.size + 1, 1, none⟩) hbl (fun e => HOB.out.1 e)).trans c41
            have f47 : w7.frozen? ⟨w.heap.size + 1, 1, none⟩ = false := (k7.frozen (p := ⟨w.heap.size + 1, 1, none⟩) hbl (fun e => HOB.out.1 e)).trans f41
            have hown7 := happ7.own
            have hfr7 : (Value.slice ao7 (k + 1 + 1) ac7).ownBlock ≠ some (w.heap.size + 1) ∧ (Value.slice ao7 (k + 1 + 1) ac7).ownBlock ≠ some (w.heap.size + 1 + 1) := by
              rcases happ7.fresh with h | ⟨g2, h, hg2⟩
              · rw [h]; exact HOB.out
              · rw [h]
                simp at hg2
                have h7 := HB74.out.lt
                exact ⟨fun e => by have := Option.some.inj e; omega, fun e => by have := Option.some.inj e; omega⟩
            have HK7 := Lib.hid k7; have HOWN7 := Lib.hid hown7; have HFR7 := Lib.hid hfr7
            clear happ7 k7 hown7 hfr7
            refine hK.out _ _ (fun _ => c47) ?_
            clear hK K
            (try simp only [List.getElem_toArray, List.getElem_cons_zero, List.getElem_cons_succ, Act.put, List.setIfInBounds_toArray, List.set_cons_zero, List.set_cons_succ])
            refine wpAnyN_one (i := 21) (o := _) (by kernel_rfl) rfl (fun K hK => ?_)
            go_simp
            refine hK.out _ _ (fun h => absurd h (by decide)) ?_
            clear hK K
            (try simp only [List.getElem_toArray, List.getElem_cons_zero, List.getElem_cons_succ, Act.put, List.setIfInBounds_toArray, List.set_cons_zero, List.set_cons_succ])
            refine wpAnyN_one (i := 22) (o := _) (by kernel_rfl) rfl (fun K hK => ?_)
            go_simp
            refine hK.out _ _ (fun h => absurd h (by decide)) ?_
            clear hK K
            (try simp only [List.getElem_toArray, List.getElem_cons_zero, List.getElem_cons_succ, Act.put, List.setIfInBounds_toArray, List.set_cons_zero, List.set_cons_succ])
            refine wpAnyN_one (i := 23) (o := _) (by kernel_rfl) rfl (fun K hK => ?_)
            go_simp
            refine hK.out _ _ (fun h => absurd h (by decide)) ?_
            clear hK K
            (try simp only [List.getElem_toArray, List.getElem_cons_zero, List.getElem_cons_succ, Act.put, List.setIfInBounds_toArray, List.set_cons_zero, List.set_cons_succ])
            refine wpAnyN_done (by kernel_rfl) ?_ _
            refine NoPanic.normal ?_
            clear s3 s4 s5 s6 c47 f47 c41 f41 hSn hoc
            go_wp2_with fail
            go_roundw
            case measure => simp [intOf]; omega
            case rel =>
              have k8 : Keep (fun i => i = w.heap.size + 1) w7 (w7.setCell ⟨w.heap.size + 1, 1, none⟩ (.slice ao7 (k + 1 + 1) ac7)) := (Keep.refl _ _).setCell _ _ (fun _ => rfl)
              have hF := HF.out; have hG := HGG.out; have hO := HOO.out
              have hov8 := ownsRow_keep HOWN7.out k8 (fun g' e e' => HFR7.out.1 (by rw [e, e']))
              have hb78 := (HB74.out.keep HK7.out (fun e => HOB.out.2 e)).keep k8 (fun e => by omega)
              have hb8 := (HBB4.out.keep HK7.out (fun e => HOB.out.1 e)).set 1 (.slice ao7 (k + 1 + 1) ac7)
              have hown8 := ownsRow_keep (ownsRow_keep HOWN4.out HK7.out (fun g' e e' => own_apart HOWN4.out HOV4.out (by decide) g' e e')) k8 (fun g' e e' => by have := (HOWN4.out.lt g' e).1; omega)
              have hoth8 := ownsRow_keep (ownsRow_keep HOTH4.out HK7.out (fun g' e e' => own_apart HOTH4.out HOV4.out (by decide) g' e e')) k8 (fun g' e e' => by have := (HOTH4.out.lt g' e).1; omega)
              have hk8 : Keep (fun _ => False) w (w7.setCell ⟨w.heap.size + 1, 1, none⟩ (.slice ao7 (k + 1 + 1) ac7)) := (HK4.out.trans HK7.out (fun i hi e => by have := (HOV4.out.lt i e).1; omega)).setCell _ _ (fun h => by have h' : w.heap.size + 1 < w.heap.size := h; omega)
              have hz8 := HK7.out.size
              refine ⟨k + 1, .slice ao2 ((lowF p (s.take k)).length + 1) ac2, v1, .slice ao7 (k + 1 + 1) ac7, by omega, by go_num, hk8, by simp; omega, hb78, by simpa using hb8, ?_, ?_, ?_, ?_, HFR7.out.1, HFR7.out.2⟩
              · rw [hF]; simpa [bcells] using hown8
              · rw [hG]; exact hoth8
              · rw [hO]; simpa [icells] using hov8
              · exact HFR2.out
        · have hke : k = s.length := by omega
          subst hke
          have h0 := H0.out; have h1 := H1.out; have hov := HOV.out
          rw [List.take_length] at h0 h1 hov
          obtain ⟨a0, ac0, rfl, _⟩ := ownsRow_shape h0
          obtain ⟨a1, ac1, rfl, _⟩ := ownsRow_shape h1
          have hbb := HB.out
          have f2 := hbb.free 2; have f3 := hbb.free 3
          have c2 := hbb.cell 2; have c3 := hbb.cell 3
          simp at c2 c3
          have hbl := hbb.lt; have hbl7 := HB7.out.lt
          have HSA := Lib.hid (fun W (kW : Keep (fun i => i = w.heap.size + 1) wr W) => (show W.cell? ⟨w.heap.size + 1 + 1, 0, none⟩ = some (.slice a0 (lowF p s).length ac0) by rw [kW.cell (p := ⟨w.heap.size + 1 + 1, 0, none⟩) hbl7 (fun (h : w.heap.size + 1 + 1 = w.heap.size + 1) => by omega)]; exact c70))
          have HSB := Lib.hid (fun W (kW : Keep (fun i => i = w.heap.size + 1) wr W) => (show W.cell? ⟨w.heap.size + 1 + 1, 1, none⟩ = some (.slice a1 (highF p s).length ac1) by rw [kW.cell (p := ⟨w.heap.size + 1 + 1, 1, none⟩) hbl7 (fun (h : w.heap.size + 1 + 1 = w.heap.size + 1) => by omega)]; exact c71))
          have HR0 := Lib.hid (ownsRow_rd h0 (bcells_one _)); have HR1 := Lib.hid (ownsRow_rd h1 (bcells_one _))
          have HOV2 := Lib.hid hov
          have HKR : Hid (Keep (fun i => i = w.heap.size + 1) wr wr) := Lib.hid (Keep.refl _ _)
          have HHL := Lib.hid (And.intro (lowF_le p s) (highF_le p s))
          clear h0 h1 hov hbb hlt
          have hH1 := HHH.out.1; have hH2 := HHH.out.2.1
          have hTl : (al.take ((al.length + 1) / 2)).length = (al.length + 1) / 2 := by rw [List.length_take, Nat.min_eq_left (by omega)]
          have hDl : (al.drop ((al.length + 1) / 2)).length = al.length - (al.length + 1) / 2 := List.length_drop
          have HTD := Lib.hid (And.intro hTl hDl)
          clear hTl hDl
          have HCA : Hid (∀ W, Keep (fun _ => False) w W → Rd W 1 (.slice a0 (lowF p s).length ac0) (lowF p s).length (bcells (lowF p s)) → Calls Tryz.prog 54 #[.slice a0 (lowF p s).length ac0, .slice (some ⟨g, o, none⟩) ((al.length + 1) / 2) ((al.length + 1) / 2)] W (GrowPost W (.slice (some ⟨g, o, none⟩) ((al.length + 1) / 2) ((al.length + 1) / 2)) (growF (lowF p s) (al.take ((al.length + 1) / 2))))) := Lib.hid (fun W kW hr => by
            have h1 := HTD.out.1; have h2 := HHL.out.1
            exact HIH.out W _ _ (lowF p s) (al.take ((al.length + 1) / 2)) (by omega) (by omega) (by omega) (by omega) hr (rd_to (HAV.out.keep kW (fun _ _ h => h)) rfl (by omega)))
          have HCB : Hid (∀ W, Keep (fun _ => False) w W → Rd W 1 (.slice a1 (highF p s).length ac1) (highF p s).length (bcells (highF p s)) → Calls Tryz.prog 54 #[.slice a1 (highF p s).length ac1, .slice (some ⟨g, o + (al.length + 1) / 2, none⟩) (al.length - (al.length + 1) / 2) (cap - (al.length + 1) / 2)] W (GrowPost W (.slice (some ⟨g, o + (al.length + 1) / 2, none⟩) (al.length - (al.length + 1) / 2) (cap - (al.length + 1) / 2)) (growF (highF p s) (al.drop ((al.length + 1) / 2))))) := Lib.hid (fun W kW hr => by
            have h1 := HTD.out.2; have h2 := HHL.out.2
            exact HIH.out W _ _ (highF p s) (al.drop ((al.length + 1) / 2)) (by omega) (by omega) (by omega) (by omega) hr (rd_from (HAV.out.keep kW (fun _ _ h => h)) rfl (by omega)))
          go_wp2_with fail
          go_region_held3 (fun W => W.cell? ⟨w.heap.size + 1 + 1, 0, none⟩ = some (.slice a0 (lowF p s).length ac0))
            ((refine HSA.out _ ?_; repeat (first | exact HKR.out | apply Keep.drew | apply Keep.drewN | refine Keep.setCell ?_ _ _ (fun _ => rfl))))
            ((go_at_call 54; have hh := HCA.out wr.drew HK.out.drew (HR0.out.keep (Keep.refl (fun _ => False) wr).drew (fun _ _ h => h)); refine Calls.mono hh ?_; clear hh; rintro e wA ⟨bA, rfl, hbA, htA, hkA⟩; have HBA := Lib.hid hbA; have HTA := Lib.hid htA; have HKA := Lib.hid (((Keep.refl (fun _ => False) wr).drew).trans hkA (fun _ _ h => h)); have HKR := Lib.hid (HKA.out.mono (T := fun i => i = w.heap.size + 1) (fun _ _ h => h.elim)); have hbA2 := HB.out.keep HKA.out (fun h => h); have c2 := hbA2.cell 2; have f2 := hbA2.free 2; simp at c2; have HBA2 := Lib.hid hbA2; clear hbA htA hkA hbA2; dsimp only))
          obtain ⟨wB, hwB⟩ : ∃ wB, wB = wA.setCell ⟨w.heap.size + 1, 2, none⟩ (.pointer (some ⟨bA, 0, none⟩)) := ⟨_, rfl⟩
          rw [← hwB]
          have hbB := HBA2.out.set 2 (.pointer (some ⟨bA, 0, none⟩))
          rw [← hwB] at hbB
          have hbB' : Blk wB (w.heap.size + 1) #[.slice (some ⟨g, o, none⟩) al.length cap, ov, .pointer (some ⟨bA, 0, none⟩), .pointer none] 166 := by simpa using hbB
          have kAB : Keep (fun i => i = w.heap.size + 1) wA wB := by rw [hwB]; exact (Keep.refl _ _).setCell _ _ (fun _ => rfl)
          have hKB : Keep (fun i => i = w.heap.size + 1) wr wB := (HKA.out.mono (T := fun i => i = w.heap.size + 1) (fun _ _ h => h.elim)).trans kAB (fun _ _ h => h)
          have hKwB : Keep (fun _ => False) w wB := HK.out.trans hKB (fun i hi e => by omega)
          have hR1B := HR1.out.keep hKB (fun g' e e' => by have := (H1.out.lt g' e).1; omega)
          have HKR := Lib.hid hKB
          have HKAB := Lib.hid kAB; have HKWB := Lib.hid hKwB; have HBB := Lib.hid hbB'; have HR1B := Lib.hid hR1B
          have f3 := hbB'.free 3; have c3 := hbB'.cell 3
          simp at c3
          clear hbB hbB' kAB hKB hKwB hR1B hwB c2 f2
          go_wp2_with fail
          go_region_held3 (fun W => W.cell? ⟨w.heap.size + 1 + 1, 1, none⟩ = some (.slice a1 (highF p s).length ac1))
            ((refine HSB.out _ ?_; repeat (first | exact HKR.out | apply Keep.drew | apply Keep.drewN | refine Keep.setCell ?_ _ _ (fun _ => rfl))))
            ((go_at_call 54; have hh := HCB.out wB.drew HKWB.out.drew (HR1B.out.keep (Keep.refl (fun _ => False) wB).drew (fun _ _ h => h)); refine Calls.mono hh ?_; clear hh; rintro e wC ⟨bB, rfl, hbC, htC, hkC⟩; have HBC := Lib.hid hbC; have HTC := Lib.hid htC; have HKC := Lib.hid (((Keep.refl (fun _ => False) wB).drew).trans hkC (fun _ _ h => h)); have HKR := Lib.hid (HKR.out.trans (HKC.out.mono (T := fun i => i = w.heap.size + 1) (fun _ _ h => h.elim)) (fun _ _ h => h)); have hbC2 := HBB.out.keep HKC.out (fun h => h); have c3 := hbC2.cell 3; have f3 := hbC2.free 3; simp at c3; have HBC2 := Lib.hid hbC2; clear hbC htC hkC hbC2; dsimp only))
          obtain ⟨wD, hwD⟩ : ∃ wD, wD = wC.setCell ⟨w.heap.size + 1, 3, none⟩ (.pointer (some ⟨bB, 0, none⟩)) := ⟨_, rfl⟩
          rw [← hwD]
          have hbD := HBC2.out.set 3 (.pointer (some ⟨bB, 0, none⟩))
          rw [← hwD] at hbD
          have hbD' : Blk wD (w.heap.size + 1) #[.slice (some ⟨g, o, none⟩) al.length cap, ov, .pointer (some ⟨bA, 0, none⟩), .pointer (some ⟨bB, 0, none⟩)] 166 := by simpa using hbD
          have kCD : Keep (fun i => i = w.heap.size + 1) wC wD := by rw [hwD]; exact (Keep.refl _ _).setCell _ _ (fun _ => rfl)
          have HBD := Lib.hid hbD'; have HKCD := Lib.hid kCD
          clear hbD hbD' kCD hwD c3 f3
          go_wp2_with fail
          go_ret
          rw [HT.out]
          have hzr : w.heap.size + 1 + 1 < wr.heap.size := hbl7
          have kBD : Keep (fun i => i = w.heap.size + 1) wB wD := (HKC.out.mono (T := fun i => i = w.heap.size + 1) (fun _ _ h => h.elim)).trans HKCD.out (fun _ _ h => h)
          have kAD : Keep (fun i => i = w.heap.size + 1) wA wD := HKAB.out.trans kBD (fun _ _ h => h)
          have krD : Keep (fun i => i = w.heap.size + 1) wr wD := (HKA.out.mono (T := fun i => i = w.heap.size + 1) (fun _ _ h => h.elim)).trans kAD (fun _ _ h => h)
          have kwD : Keep (fun _ => False) w wD := HK.out.trans krD (fun i hi e => by omega)
          have hgl := HGL.out
          have hzB := HKR.out.size
          have hzrB : wr.heap.size ≤ wB.heap.size := Nat.le_trans HKA.out.size HKAB.out.size
          have tA := wt_mono (B := fun k => (w.heap.size ≤ k ∧ k < wD.heap.size) ∨ (Value.slice (some ⟨g, o, none⟩) al.length cap).ownBlock = some k) (fun i hi => hi.elim (fun h => .inl (by have h' : wr.heap.size ≤ i := h.1; have h2 : i < wA.heap.size := h.2; have hz := kAD.size; omega)) (fun h => .inr h)) _ _ (wt_keep kAD (fun i hi e => hi.elim (fun h => by have h' : wr.heap.size ≤ i := h.1; omega) (fun h => by have := Option.some.inj (show some g = some i from h); omega)) _ _ HTA.out)
          have tC := wt_mono (B := fun k => (w.heap.size ≤ k ∧ k < wD.heap.size) ∨ (Value.slice (some ⟨g, o, none⟩) al.length cap).ownBlock = some k) (fun i hi => hi.elim (fun h => .inl (by have h' : wB.heap.size ≤ i := h.1; have h2 : i < wC.heap.size := h.2; have hz := HKCD.out.size; omega)) (fun h => .inr h)) _ _ (wt_keep HKCD.out (fun i hi e => hi.elim (fun h => by have h' : wB.heap.size ≤ i := h.1; omega) (fun h => by have := Option.some.inj (show some g = some i from h); omega)) _ _ HTC.out)
          have hovD := ownsRow_rd (ownsRow_keep HOV2.out krD (fun g' e e' => HOB.out.1 (by rw [e, e']))) (icells_one _)
          have hol : (onesP p s).length = s.length + 1 := onesP_length p s
          refine ⟨w.heap.size + 1, rfl, by omega, ⟨.inl ⟨by omega, HBD.out.lt⟩, _, ov, bA, bB, HBD.out, HAV.out.keep kwD (fun _ _ h => h), by rw [hol]; exact hovD, fun g' e => .inr e, fun g' e => .inl ⟨(HOV2.out.lt g' e).1, Nat.lt_of_lt_of_le (HOV2.out.lt g' e).2 krD.size⟩, tA, tC⟩, kwD⟩
end Go.Proofs.YteommegadhipkaaGreatDoor
