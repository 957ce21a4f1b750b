/- index: the rank of a byte, by the tree. -/
import Derived.Test.YteommegadhipkaaGreatDoorFM30
import Derived.Test.YteommegadhipkaaGreatDoorFM31
import Derived.Test.YteommegadhipkaaGreatDoorFM32

/- index: the rank of a byte, by the tree. -/
namespace Go.Proofs.YteommegadhipkaaGreatDoor
set_option linter.unusedSimpArgs false
set_option linter.unusedVariables false
set_option linter.unnecessarySimpa false
open Go.RowKit Go.Lib

def encB (c : UInt8) : Value := .int .u8 (c.toNat : Int)
theorem encB_eql : EqlAt Tryz.prog 5 encB (fun x y => decide (x = y)) := by
  have h := EqlAt.intD Tryz.prog 5 .u8
  refine ⟨fun x y w => ?_, ?_⟩
  · have h2 : (binOp .eql 5 (encB x) (encB y)).run Tryz.prog w = .ok (.bool (decide ((x.toNat : Int) = (y.toNat : Int)))) w := h.1 (x.toNat : Int) (y.toNat : Int) w
    rw [h2, show decide ((x.toNat : Int) = (y.toNat : Int)) = decide (x = y) from decide_eq_decide.2 ⟨fun e => UInt8.toNat_inj.1 (by omega), fun e => by rw [e]⟩]
  · exact fun op a b x y w => h.2 op a b (x.toNat : Int) (y.toNat : Int) w
theorem contB_any {w : World} {v : Value} {l : List UInt8} (hv : Rd w 1 v l.length (bcells l)) (hl : l.length ≤ 9223372036854775807) (c : UInt8) :
    Calls Tryz.prog 159 #[v, .int .u8 c.toNat] w fun e w' => e = .returned (.bool (decide (c ∈ l))) ∧ w = w' := by
  rcases hv.2.2 with ⟨rfl, h0⟩ | ⟨b, o, cap, rfl, _, _, hx⟩
  · have : l = [] := List.eq_nil_of_length_eq_zero h0
    subst this
    refine (Tryz.slices_Contains_empty_f327 (α := UInt8) none 0 (.int .u8 c.toNat) w).mono ?_
    rintro e w' ⟨rfl, rfl⟩
    exact ⟨by simp, rfl⟩
  · have h := Tryz.slices_Contains_f327 encB (fun x y => decide (x = y)) encB_eql b o l.length cap l c w (Nat.le_refl _) hl (fun j hj => by
      rw [hx j _ (bcells_get l j hj)]
      rw [getElem!_pos l j hj]
      simp [encB, List.getD, hj])
    refine h.mono ?_
    rintro e w' ⟨rfl, rfl⟩
    refine ⟨?_, rfl⟩
    rw [List.take_length]
    congr 2
    rw [Bool.eq_iff_iff]
    simp
theorem wt_al {A : Nat → Prop} {w : World} : ∀ {T : WT} {b : Nat}, WTAt A w T b → ∃ av ov p q, Blk w b #[av, ov, p, q] 166 ∧ Rd w 1 av T.al.length (bcells T.al)
  | .leaf al, b, ⟨_, av, ov, h1, h2, _⟩ => ⟨av, ov, _, _, h1, h2⟩
  | .node al o lo hi, b, ⟨_, av, ov, b1, b2, h1, h2, _⟩ => ⟨av, ov, _, _, h1, h2⟩
def RkRel (w : World) (c : UInt8) (R : Nat) (gh : Nat) (v0 v2 : Value) (wr : World) : Prop :=
  ∃ (s al : List UInt8) (b i : Nat), gh = al.length ∧ v0 = .pointer (some ⟨b, 0, none⟩) ∧ v2 = .int .i64 i ∧ WTAt (fun _ => True) w (growF s al) b ∧ i ≤ s.length ∧ s.length ≤ 201 ∧ al.length ≤ 256 ∧
    rankL (growF s al) c i = R ∧ w = wr
set_option maxHeartbeats 4000000 in
set_option maxRecDepth 100000 in
theorem rank_any {w : World} {b : Nat} {s al : List UInt8} {c : UInt8} {i : Nat} (hT : WTAt (fun _ => True) w (growF s al) b) (hi : i ≤ s.length) (hs : s.length ≤ 201) (hal : al.length ≤ 256) :
    Calls Tryz.prog 92 #[.pointer (some ⟨b, 0, none⟩), .int .u8 c.toNat, .int .i64 i] w fun e w' => e = .returned (.int .i64 (rankF (growF s al) c i : Nat)) ∧ w' = w := by
  obtain ⟨av, ov, p, q, hb, hav⟩ := wt_al hT
  rw [growF_al] at hav
  have c0 := hb.cell 0
  simp at c0
  have HC := Lib.hid (contB_any hav (by omega) c)
  have HT := Lib.hid hT
  by_cases hm : c ∈ al
  · have hmd : decide (c ∈ al) = true := decide_eq_true hm
    rw [hmd] at HC
    have HR := Lib.hid (show rankF (growF s al) c i = rankL (growF s al) c i by unfold rankF; rw [growF_al, if_pos hm])
    clear hT hav hb hm hmd
    go_enter Tryz.func92, Tryz.ntmps92
    go_wp2_with (go_at_call 159; refine HC.out.mono ?_; rintro e w1 ⟨rfl, rfl⟩)
    obtain ⟨R, hR⟩ : ∃ R, rankL (growF s al) c i = R := ⟨_, rfl⟩
    rw [hR] at HR
    have HRR := Lib.hid hR; clear hR
    go_loopg [0, 2] al.length (fun gh v0 v2 wr => RkRel w c R gh v0 v2 wr)
    case atStart => exact ⟨s, al, b, i, rfl, rfl, rfl, HT.out, hi, hs, hal, HRR.out, rfl⟩
    case round =>
      obtain ⟨s', al', b', i', rfl, rfl, rfl, hT', hi', hs', hal', hR', rfl⟩ := hrel
      have HR' := Lib.hid hR'; clear hR'
      by_cases h2 : al'.length < 2
      · have hTl : growF s' al' = .leaf al' := by rw [growF, dif_pos h2]
        rw [hTl] at hT' HR'
        obtain ⟨_, av', ov', hb', _⟩ := hT'
        have c2 := hb'.cell 2
        simp at c2
        clear hb' hTl h2
        go_wp2
        go_ret
        exact ⟨by rw [HR.out, ← HR'.out]; rfl, rfl⟩
      · obtain ⟨h, hh⟩ : ∃ h, halfN al' = h := ⟨_, rfl⟩
        obtain ⟨p', hp'⟩ : ∃ p, al'.getD h 0 = p := ⟨_, rfl⟩
        have hTl : growF s' al' = .node al' (onesP p' s') (growF (lowF p' s') (al'.take h)) (growF (highF p' s') (al'.drop h)) := by rw [growF, dif_neg h2, hh, hp']; rfl
        have hh1 : 1 ≤ h := by rw [← hh]; unfold halfN; omega
        have hhl : h < al'.length := by rw [← hh]; unfold halfN; omega
        rw [hTl] at hT' HR'
        obtain ⟨_, av', ov', b1, b2, hb', hav', hov', _, _, hlo, hhi⟩ := hT'
        have c1 := hb'.cell 1; have c2 := hb'.cell 2; have c3 := hb'.cell 3
        simp at c1 c2 c3
        obtain ⟨ava, ova, pa, qa, hba, hava⟩ := wt_al hhi
        rw [growF_al] at hava
        have ca := hba.cell 0
        simp at ca
        have hol : (onesP p' s').length = s'.length + 1 := onesP_length p' s'
        obtain ⟨og, oo, oc, rfl, hco⟩ : ∃ g o c, ov' = .slice (some ⟨g, o, none⟩) (s'.length + 1) c ∧ w.cell? ⟨g, o + i', none⟩ = some (.int .i64 ((onesP p' s').getD i' 0 : Nat)) := by
          rcases hov'.2.2 with ⟨_, h⟩ | ⟨g, o, c, h, _, _, hx⟩
          · omega
          · refine ⟨g, o, c, by rw [h, hol], ?_⟩
            rw [hx i' _ (icells_get _ i' (by simp; omega))]
            simp [List.getD, show i' < (onesP p' s').length by omega]
        obtain ⟨m, hm'⟩ : ∃ m, (onesP p' s').getD i' 0 = m := ⟨_, rfl⟩
        have hone := onesP_get p' s' i' hi'
        have hmi : m ≤ i' := by rw [← hm']; exact onesP_le p' s' i' hi'
        have hmh : m ≤ (highF p' s').length := by
          rw [← hm', hone]; unfold highF; rw [← List.countP_eq_length_filter]
          exact (List.take_sublist i' s').countP_le
        have hml : i' - m ≤ (lowF p' s').length := by
          rw [← hm', hone]
          have : i' - (s'.take i').countP (fun c => decide (p' ≤ c)) = (s'.take i').countP (fun c => !decide (p' ≤ c)) := by
            rw [countP_not, List.length_take, Nat.min_eq_left hi']
          rw [this]; unfold lowF; rw [← List.countP_eq_length_filter]
          exact (List.take_sublist i' s').countP_le
        rw [hm'] at hco
        have hlh := highF_le p' s'; have hll := lowF_le p' s'
        have HCA := Lib.hid (contB_any hava (by simp; omega) c)
        have HLO := Lib.hid hlo; have HHI := Lib.hid hhi; have HM := Lib.hid hm'
        have HLEN := Lib.hid (And.intro hh1 hhl)
        by_cases hcd : c ∈ al'.drop h
        · have hcb : decide (c ∈ al'.drop h) = true := decide_eq_true hcd
          rw [hcb] at HCA
          have HN := Lib.hid (show rankL (growF (highF p' s') (al'.drop h)) c m = R by
            have := HR'.out
            simp only [rankL, growF_al] at this
            rw [if_pos hcd, HM.out] at this
            exact this)
          clear hcd hcb hlo hhi hm' hava hba hov' hav' hb' hh hp' h2 hTl hone HR' hol
          go_wp2_with (go_at_call 159; refine HCA.out.mono ?_; rintro e w1 ⟨rfl, rfl⟩)
          go_roundg (al'.drop h).length
          case measure => have := HLEN.out; simp; omega
          case rel => exact ⟨highF p' s', al'.drop h, b2, m, rfl, rfl, rfl, HHI.out, hmh, by omega, by simp; omega, HN.out, rfl⟩
        · have hcb : decide (c ∈ al'.drop h) = false := decide_eq_false hcd
          rw [hcb] at HCA
          have HN := Lib.hid (show rankL (growF (lowF p' s') (al'.take h)) c (i' - m) = R by
            have := HR'.out
            simp only [rankL, growF_al] at this
            rw [if_neg hcd, HM.out] at this
            exact this)
          have s1 := IntWalk.i64_in ((i' : Int) - (m : Int)) ⟨by omega, by omega⟩
          clear hcd hcb hlo hhi hm' hava hba hov' hav' hb' hh hp' h2 hTl hone HR' hol
          go_wp2_with (go_at_call 159; refine HCA.out.mono ?_; rintro e w1 ⟨rfl, rfl⟩)
          go_roundg (al'.take h).length
          case measure => have := HLEN.out; simp; omega
          case rel => exact ⟨lowF p' s', al'.take h, b1, i' - m, rfl, rfl, by go_num, HLO.out, hml, by omega, by simp; omega, HN.out, rfl⟩
  · have hmd : decide (c ∈ al) = false := decide_eq_false hm
    rw [hmd] at HC
    have HR := Lib.hid (show rankF (growF s al) c i = 0 by unfold rankF; rw [growF_al, if_neg hm])
    clear hT hav hb hm hmd
    go_enter Tryz.func92, Tryz.ntmps92
    go_wp2_with (go_at_call 159; refine HC.out.mono ?_; rintro e w1 ⟨rfl, rfl⟩)
    go_ret
    exact ⟨by rw [HR.out]; rfl, rfl⟩
end Go.Proofs.YteommegadhipkaaGreatDoor
