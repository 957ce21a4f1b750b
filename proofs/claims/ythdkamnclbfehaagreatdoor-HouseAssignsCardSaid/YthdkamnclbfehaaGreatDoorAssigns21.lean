/- cubebref06.Order: its error. -/
import Derived.Test.YthdkamnclbfehaaGreatDoorAssigns20
import Derived.Test.YthdkamnclbfehaaGreatDoorAssigns10

/- cubebref06.Order: its error. -/
namespace Go.Proofs.YthdkamnclbfehaaGreatDoor
set_option linter.unusedSimpArgs false
set_option linter.unusedVariables false
set_option linter.unnecessarySimpa false
open Go.RowKit

def pick (g : List Int) (left : Nat) : Option Nat := (elems left).find? (fun i => cliqueB g (gn g i &&& left))
def stepO (g : List Int) (left : Nat) : Nat := match pick g left with | none => left | some i => sdiff left (2 ^ i)
def stepN (g : List Int) : Nat → Nat → Nat
  | 0, left => left
  | r + 1, left => stepN g r (stepO g left)
theorem cnt12_sdiff {s i : Nat} (hs : s < 4096) (h : s.testBit i = true) : cnt12 s = cnt12 (sdiff s (2 ^ i)) + 1 := by
  have e : sdiff s (2 ^ i) ||| 2 ^ i = s := by
    apply Nat.eq_of_testBit_eq
    intro k
    simp only [Nat.testBit_or, testBit_sdiff, Nat.testBit_two_pow]
    by_cases hk : i = k
    · subst hk; simp [h]
    · simp [hk]
  have := cnt12_or (s := sdiff s (2 ^ i)) (i := i) (bit_lt (n := 12) hs h) (by rw [testBit_sdiff, Nat.testBit_two_pow_self]; simp)
  rw [e] at this
  exact this
theorem pick_bit {g : List Int} {left i : Nat} (hl : left < 4096) (h : pick g left = some i) : left.testBit i = true := (mem_elems hl).1 (List.mem_of_find?_eq_some h)
theorem elim_true {g : List Int} : ∀ (f left : Nat), left < f → left < 4096 → elimB g f left = true → ∀ r, cnt12 left ≤ r → stepN g r left = 0 := by
  intro f
  induction f with
  | zero => intro left h; omega
  | succ f ih =>
    intro left hlf hl he r hr
    unfold elimB at he
    by_cases h0 : left = 0
    · subst h0
      clear he hr
      induction r with
      | zero => rfl
      | succ r ihr => exact ihr
    rw [if_neg h0] at he
    cases hp : pick g left with
    | none => unfold pick at hp; rw [hp] at he; cases he
    | some i =>
      have hb := pick_bit hl hp
      have hc := cnt12_sdiff hl hb
      have hlt := sdiff_bit_lt hb
      have hp' := hp
      unfold pick at hp'
      rw [hp'] at he
      obtain ⟨r', rfl⟩ : ∃ r', r = r' + 1 := ⟨r - 1, by omega⟩
      show stepN g r' (stepO g left) = 0
      unfold stepO
      rw [hp]
      exact ih _ (by omega) (by omega) he r' (by omega)
theorem elim_false {g : List Int} : ∀ (f left : Nat), left < f → left < 4096 → elimB g f left = false → ∀ r, stepN g r left ≠ 0 := by
  intro f
  induction f with
  | zero => intro left h; omega
  | succ f ih =>
    intro left hlf hl he r
    unfold elimB at he
    by_cases h0 : left = 0
    · rw [if_pos h0] at he; cases he
    rw [if_neg h0] at he
    cases hp : pick g left with
    | none =>
      clear he ih
      induction r with
      | zero => exact h0
      | succ r ihr =>
        show stepN g r (stepO g left) ≠ 0
        unfold stepO
        rw [hp]
        exact ihr
    | some i =>
      have hlt := sdiff_bit_lt (pick_bit hl hp)
      have hp' := hp
      unfold pick at hp'
      rw [hp'] at he
      cases r with
      | zero => exact h0
      | succ r =>
        show stepN g r (stepO g left) ≠ 0
        unfold stepO
        rw [hp]
        exact ih _ (by omega) (by omega) he r
theorem order_steps {g : List Int} (hg : Graph g) : orderB g = (stepN g g.length (2 ^ g.length - 1) == 0) := by
  have h12 := pow_le_4096 hg.2.1
  have h1 : 1 ≤ 2 ^ g.length := Nat.one_le_two_pow
  have hc : cnt12 (2 ^ g.length - 1) ≤ g.length := by
    unfold cnt12
    rw [← List.countP_eq_length_filter]
    have : ∀ n, n ≤ 12 → (List.range 12).countP ((2 ^ n - 1).testBit ·) ≤ n := by decide
    exact this _ hg.2.1
  cases ho : orderB g with
  | true => rw [elim_true 4096 _ (by omega) (by omega) ho _ hc]; rfl
  | false =>
    have := elim_false 4096 _ (by omega) (by omega) ho g.length
    exact (beq_eq_false_iff_ne.2 this).symm
theorem pick_at {g : List Int} {left x : Nat} (hl : left < 4096) (hb : left.testBit x = true) (hc : cliqueB g (gn g x &&& left) = true) (h0 : ∀ y, y < x → left.testBit y = true → cliqueB g (gn g y &&& left) = false) : pick g left = some x := by
  have hx := bit_lt (n := 12) hl hb
  unfold pick elems
  rw [List.find?_filter, List.find?_range_eq_some]
  refine ⟨by simp [hb, hc], by simpa using hx, fun j hj => ?_⟩
  cases hj2 : left.testBit j with
  | false => simp
  | true => simp [h0 j hj hj2]
theorem pick_none {g : List Int} {left n : Nat} (hl : left < 2 ^ n) (h4 : left < 4096) (h0 : ∀ y, y < n → left.testBit y = true → cliqueB g (gn g y &&& left) = false) : pick g left = none := by
  unfold pick
  rw [List.find?_eq_none]
  intro x hx
  have hb := (mem_elems h4).1 hx
  rw [h0 x (bit_lt hl hb) hb]
  exact Bool.false_ne_true

def ORel (w : World) (g : List Int) (Z : Nat) (gh : Nat) (s4 s5 s13 : Value) (wx : World) : Prop :=
  ∃ (r left n : Nat) (out : List Nat), gh = g.length - r ∧ r ≤ g.length ∧ s13 = .int .i64 (r : Nat) ∧ s5 = .int .i64 (left : Nat) ∧ left < 2 ^ g.length ∧ stepN g (g.length - r) left = Z ∧ n ≤ r ∧ wx.ownsRow w.heap.size 3 1 s4 n (ncells out) ∧ Keep (fun _ => False) w wx
def OrdPost (w : World) (g : List Int) (e : Ending) (w' : World) : Prop := ∃ v', e = .returned (.tuple #[v', .int .i64 (if orderB g then 0 else 7)]) ∧ Keep (fun _ => False) w w'
set_option maxHeartbeats 2000000 in
set_option maxRecDepth 100000 in
theorem refOrder_any {w : World} {v : Value} {g : List Int} (hg : Graph g) (hv : Rd w 1 v g.length (icells g)) :
    Calls Tryz.prog 60 #[v] w (OrdPost w g) := by
  have hn := hg.2.1
  have h12 := pow_le_4096 hn
  have hp1 : 1 ≤ 2 ^ g.length := Nat.one_le_two_pow
  have hos := order_steps hg
  obtain ⟨b, o, cap, hve⟩ : ∃ b o cap, v = .slice (some ⟨b, o, none⟩) g.length cap := by
    rcases hv.2.2 with ⟨h, h'⟩ | ⟨b, o, c, h, _, _, hx⟩
    · have := hg.1; omega
    · exact ⟨b, o, c, h⟩
  subst hve
  have HCELL : Hid (∀ W, Keep (fun _ => False) w W → ∀ i, i < g.length → W.cell? ⟨b, o + i, none⟩ = some (.int .i64 (gn g i : Nat))) := Lib.hid fun W hk i hi => by
    rcases (hv.keep hk (fun _ _ h => h)).2.2 with ⟨h, h'⟩ | ⟨b', o', c, h, _, _, hx⟩
    · omega
    · injection h with h1 h2 h3
      injection h1 with h1
      injection h1 with h4 h5
      subst h4 h5
      rw [← (hg.bound hi).1]
      exact hx i _ (icells_get g i hi)
  have HV := Lib.hid hv
  have HG := Lib.hid hg
  have e1 : wrap64 ((2 : Int) ^ g.length) = ((2 ^ g.length : Nat) : Int) := by rw [wrap64_pow hn]; push_cast; rfl
  have e2 : wrap64 (((2 ^ g.length : Nat) : Int) - 1) = ((2 ^ g.length - 1 : Nat) : Int) := by unfold wrap64; omega
  obtain ⟨Z, hZ⟩ : ∃ Z, stepN g g.length (2 ^ g.length - 1) = Z := ⟨_, rfl⟩
  rw [hZ] at hos
  have HOS := Lib.hid hos
  obtain ⟨P, hP⟩ : ∃ P : Nat, 2 ^ g.length = P := ⟨_, rfl⟩
  rw [hP] at h12 hp1 e1 e2 hZ
  have HP := Lib.hid hP
  have HZ := Lib.hid hZ
  clear hos hZ hP hv hg
  go_enter Tryz.func60, Tryz.ntmps60
  go_wp2
  (try rw [e1])
  (try rw [e2])
  clear e1 e2
  go_loopg [4, 5, 13] g.length (fun gh s4 s5 s13 wx => ORel w g Z gh s4 s5 s13 wx)
  case atStart => exact ⟨0, P - 1, 0, [], rfl, Nat.zero_le _, rfl, by rw [show ((P - 1 : Nat) : Int) = (P : Int) - 1 by omega], by rw [HP.out]; omega, HZ.out, Nat.le_refl _, World.ownsRow_nil _ _ _ _, Keep.refl _ _⟩
  case round =>
    obtain ⟨r, left, n, out, rfl, hr, rfl, rfl, hl, hst, hnr, hown, hk⟩ := hrel
    obtain ⟨oo, oc, hoe, _⟩ := ownsRow_shape hown
    subst hoe
    have h4 : left < 4096 := Nat.lt_of_lt_of_le hl (by rw [HP.out]; exact h12)
    have HL := Lib.hid hl
    have HST := Lib.hid hst
    have HOWN := Lib.hid hown
    have HK := Lib.hid hk
    clear hl hst hown hk
    by_cases hlt : r < g.length
    · have hjl : ((r : Int) < (g.length : Int)) = True := by simp; omega
      have hst2 : stepN g (g.length - (r + 1)) (stepO g left) = Z := by
        have := HST.out
        rw [show g.length - r = (g.length - (r + 1)) + 1 by omega] at this
        exact this
      have HST2 := Lib.hid hst2; clear hst2
      go_wp2
      go_loopg [4, 5, 17] g.length (fun gh s4 s5 s17 wx => ∃ x : Nat, gh = g.length - x ∧ x ≤ g.length ∧ s4 = .slice oo n oc ∧ s5 = .int .i64 (left : Nat) ∧ s17 = .int .i64 (x : Nat) ∧ (∀ y, y < x → left.testBit y = true → cliqueB g (gn g y &&& left) = false) ∧ wx.ownsRow w.heap.size 3 1 (.slice oo n oc) n (ncells out) ∧ Keep (fun _ => False) w wx)
      case atStart => exact ⟨0, rfl, Nat.zero_le _, rfl, rfl, rfl, fun y h => by omega, HOWN.out, HK.out⟩
      case round =>
        obtain ⟨x, rfl, hx, rfl, rfl, rfl, h0, hown2, hk2⟩ := hrel
        have H0 := Lib.hid h0
        have HOWN2 := Lib.hid hown2
        have HK2 := Lib.hid hk2
        clear h0 hown2 hk2 HOWN HK
        by_cases hlt2 : x < g.length
        · have hjl2 : ((x : Int) < (g.length : Int)) = True := by simp; omega
          have ci := HCELL.out wr HK2.out x hlt2
          have hgx : gn g x < 4096 := Nat.lt_of_lt_of_le (HG.out.gn_lt hlt2) (by rw [HP.out]; exact h12)
          have hx62 : x ≤ 62 := by omega
          have hbit := nat_bit left x
          have ea := i64_and_nat (gn g x) left (by omega) (by omega)
          have hgl : gn g x &&& left < 2 ^ g.length := Nat.lt_of_le_of_lt Nat.and_le_right HL.out
          have hcq := isClique_any (w := wr) HG.out (HV.out.keep HK2.out (fun _ _ h => h)) hgl
          cases hb : left.testBit x with
          | true =>
            rw [hb, if_pos rfl] at hbit
            cases hq : cliqueB g (gn g x &&& left) with
            | true =>
              rw [hq] at hcq
              have HSTO := Lib.hid (show stepO g left = sdiff left (2 ^ x) by unfold stepO; rw [pick_at h4 hb hq H0.out])
              have hlt3 := sdiff_bit_lt hb
              have hpw : IntKind.i64.wrap ((2 : Int) ^ x) = ((2 ^ x : Nat) : Int) := by
                have := shl_one x hx62
                rwa [Nat.min_eq_left (by omega)] at this
              have hp2 : 2 ^ x ≤ 4096 := pow_le_4096 (by omega)
              have han := i64_andNot_nat left (2 ^ x) (by omega) (by omega)
              obtain ⟨px, hpx⟩ : ∃ px : Nat, 2 ^ x = px := ⟨_, rfl⟩
              rw [hpx] at HSTO hlt3 hpw hp2 han
              obtain ⟨nl, hnl⟩ : ∃ nl, sdiff left px = nl := ⟨_, rfl⟩
              rw [hnl] at HSTO hlt3 han
              obtain ⟨gx, hgxe⟩ : ∃ gx, gn g x = gx := ⟨_, rfl⟩
              rw [hgxe] at ci ea hcq hgx
              obtain ⟨ga, hgae⟩ : ∃ ga, gx &&& left = ga := ⟨_, rfl⟩
              rw [hgae] at ea hcq
              have HCQ := Lib.hid hcq
              clear hcq hq hb hgl hpx hnl hgxe hgae
              go_wp2_with (first
                | (go_at_call 88; refine (HCQ.out).mono ?_; rintro e w' ⟨rfl, q, rfl⟩)
                | (at_builtin; refine wpList_app (w := (wr.drewN q).alloc (.cells #[.int .i64 (x : Nat)] 3)) rfl (.tmp 35) (.tmp 37) 34 34 rfl 3 (.int .i64 0) 1 8 Tryz.underlying34 info3 rfl ((ownsRow_keep HOWN2.out ((Keep.refl (fun _ => False) _).drewN q) (fun _ _ h => h)).alloc _) rfl (Src.new (P := Tryz.prog) Tryz.underlying34 (wr.drewN q) 1 [.int .i64 (x : Nat)] 3 rfl (by simp [Value.oneCell'])) rfl ?hb1 ?hb2 ?hb3 ?hgo))
              case hb1 => unfold maxLen; omega
              case hb2 => omega
              case hb3 => have h1 := HK2.out.size; simp; omega
              case hgo =>
              intro v6 w6 happ
              have hk6 : Keep (fun k => w.heap.size ≤ k) wr w6 := ((((Keep.refl (fun k => w.heap.size ≤ k) wr).drewN q).alloc (.cells #[.int .i64 (x : Nat)] 3))).trans happ.keep (fun k hk e => (ownsRow_lt HOWN2.out k e).1)
              have HKW := Lib.hid (HK2.out.trans hk6 (fun k hk e => by omega))
              have HOA := Lib.hid (show w6.ownsRow w.heap.size 3 1 v6 (n + 1) (ncells (out ++ [x])) by have := happ.own; simpa [ncells] using this)
              clear happ hk6
              go_wp2
              go_roundg (g.length - (r + 1))
              case measure => omega
              case rel => exact ⟨r + 1, nl, n + 1, out ++ [x], rfl, by omega, by go_num, rfl, Nat.lt_trans hlt3 HL.out, by have := HST2.out; rw [HSTO.out] at this; exact this, by omega, HOA.out, HKW.out⟩
            | false =>
              rw [hq] at hcq
              have HQ := Lib.hid hq
              obtain ⟨gx, hgxe⟩ : ∃ gx, gn g x = gx := ⟨_, rfl⟩
              rw [hgxe] at ci ea hcq hgx
              obtain ⟨ga, hgae⟩ : ∃ ga, gx &&& left = ga := ⟨_, rfl⟩
              rw [hgae] at ea hcq
              have HCQ := Lib.hid hcq
              clear hcq hq hb hgl hgxe hgae
              go_wp2_with (go_at_call 88; refine (HCQ.out).mono ?_; rintro e w' ⟨rfl, q, rfl⟩)
              go_roundg (g.length - (x + 1))
              case measure => omega
              case rel => exact ⟨x + 1, rfl, by omega, rfl, rfl, by go_num, fun y hy hyb => by
                (by_cases e : y = x
                 · subst e; exact HQ.out
                 · exact H0.out y (by omega) hyb), ownsRow_keep HOWN2.out ((Keep.refl (fun _ => False) _).drewN q) (fun _ _ h => h), HK2.out.drewN q⟩
          | false =>
            rw [hb, if_neg Bool.false_ne_true] at hbit
            have HB := Lib.hid hb
            clear hcq hb hgl ea
            go_wp2
            go_roundg (g.length - (x + 1))
            case measure => omega
            case rel => exact ⟨x + 1, rfl, by omega, rfl, rfl, by go_num, fun y hy hyb => by
              (by_cases e : y = x
               · subst e; rw [HB.out] at hyb; cases hyb
               · exact H0.out y (by omega) hyb), HOWN2.out, HK2.out⟩
        · have hxe : x = g.length := by omega
          subst hxe
          have hjl2 : ((g.length : Int) < (g.length : Int)) = False := by simp
          have HSTO := Lib.hid (show stepO g left = left by unfold stepO; rw [pick_none HL.out h4 H0.out])
          go_wp2
          go_roundg (g.length - (r + 1))
          case measure => omega
          case rel => exact ⟨r + 1, left, n, out, rfl, by omega, by go_num, rfl, HL.out, by have := HST2.out; rw [HSTO.out] at this; exact this, by omega, HOWN2.out, HK2.out⟩
    · have hre : r = g.length := by omega
      subst hre
      have hjl : ((g.length : Int) < (g.length : Int)) = False := by simp
      have hz : left = Z := by have := HST.out; rwa [Nat.sub_self] at this
      by_cases h0 : left = 0
      · have ho : orderB g = true := by rw [HOS.out, ← hz, h0]; rfl
        have HO := Lib.hid ho
        subst h0
        clear ho hz
        go_wp2
        go_ret2
        exact ⟨_, by rw [HO.out]; rfl, HK.out⟩
      · have ho : orderB g = false := by rw [HOS.out, ← hz]; exact beq_eq_false_iff_ne.2 h0
        have HO := Lib.hid ho
        have hne : ((left : Int) != 0) = true := by simp; omega
        clear ho hz h0
        go_wp2
        go_ret2
        exact ⟨_, by rw [HO.out]; rfl, HK.out⟩
end Go.Proofs.YthdkamnclbfehaaGreatDoor
