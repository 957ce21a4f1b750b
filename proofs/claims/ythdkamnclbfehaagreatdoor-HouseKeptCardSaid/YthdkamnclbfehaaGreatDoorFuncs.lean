/- slices.IndexFunc and slices.ContainsFunc at []int, over whatever predicate keeps the memory. -/
import Derived.Test.YthdkamnclbfehaaGreatDoorProg
import Derived.Test.YthdkamnclbfehaaGreatDoorBase
import Derived.Outline
import Derived.Deep.QuietTactic
import Derived.BigQuiet
namespace Go.Proofs.YthdkamnclbfehaaGreatDoor
set_option linter.unusedSimpArgs false
set_option linter.unusedVariables false
set_option linter.unnecessarySimpa false
open Go.RowKit

def icells (l : List Int) : List Value := l.map (Value.int .i64)
theorem icells_length (l : List Int) : (icells l).length = l.length := by simp [icells]
theorem icells_one (l : List Int) : ∀ u ∈ icells l, u.oneCell' = true := by
  intro u hu; obtain ⟨_, _, rfl⟩ := List.mem_map.1 hu; rfl
theorem icells_get (l : List Int) (j : Nat) (h : j < l.length) : (icells l)[j]? = some (.int .i64 (l.getD j 0)) := by
  simp [icells, List.getD, h]

/-- The first place at which p holds, from k on. -/
def findFrom (p : Int → Bool) (l : List Int) (k : Nat) : Int :=
  match l with
  | [] => -1
  | x :: r => if p x then k else findFrom p r (k + 1)
def findI (p : Int → Bool) (l : List Int) : Int := findFrom p l 0
theorem findFrom_cases (p : Int → Bool) : ∀ (l : List Int) (k : Nat), (findFrom p l k = -1 ∧ ∀ j, j < l.length → p (l.getD j 0) = false) ∨
    ∃ j, j < l.length ∧ findFrom p l k = ((k + j : Nat) : Int) ∧ p (l.getD j 0) = true ∧ ∀ i, i < j → p (l.getD i 0) = false
  | [], k => .inl ⟨rfl, fun j h => by simp at h⟩
  | x :: r, k => by
    unfold findFrom
    by_cases hx : p x = true
    · exact .inr ⟨0, by simp, by simp [hx], by simpa using hx, fun i hi => by omega⟩
    · have hx' : p x = false := by simpa using hx
      rcases findFrom_cases p r (k + 1) with ⟨h1, h2⟩ | ⟨j, h1, h2, h3, h4⟩
      · refine .inl ⟨by simp [hx', h1], fun j hj => ?_⟩
        cases j with
        | zero => simpa using hx'
        | succ j => simpa using h2 j (by simpa using hj)
      · refine .inr ⟨j + 1, by simpa using h1, by simp [hx', h2]; omega, by simpa using h3, fun i hi => ?_⟩
        cases i with
        | zero => simpa using hx'
        | succ i => simpa using h4 i (by omega)
theorem findI_at {p : Int → Bool} {l : List Int} {j : Nat} (hj : j < l.length) (h1 : p (l.getD j 0) = true) (h0 : ∀ i, i < j → p (l.getD i 0) = false) : findI p l = j := by
  rcases findFrom_cases p l 0 with ⟨_, h⟩ | ⟨i, hi, h, h3, h4⟩
  · rw [h j hj] at h1; cases h1
  · unfold findI
    rw [h]
    have : i = j := by
      rcases Nat.lt_trichotomy i j with hl | he | hg
      · rw [h0 i hl] at h3; cases h3
      · exact he
      · rw [h4 j hg] at h1; cases h1
    simp [this]
theorem findI_none {p : Int → Bool} {l : List Int} (h0 : ∀ i, i < l.length → p (l.getD i 0) = false) : findI p l = -1 := by
  rcases findFrom_cases p l 0 with ⟨h, _⟩ | ⟨i, hi, h, h3, _⟩
  · exact h
  · rw [h0 i hi] at h3; cases h3
theorem findI_ge {p : Int → Bool} {l : List Int} : (0 ≤ findI p l) = (l.any p = true) := by
  rcases findFrom_cases p l 0 with ⟨h, h0⟩ | ⟨i, hi, h, h3, _⟩
  · unfold findI; rw [h]
    simp
    intro x hx
    obtain ⟨j, hj, rfl⟩ := List.getElem_of_mem hx
    have := h0 j hj
    simpa [List.getD, hj] using this
  · unfold findI; rw [h]
    simp only [Nat.zero_add, eq_iff_iff]
    constructor
    · intro _
      rw [List.any_eq_true]
      exact ⟨l.getD i 0, by simp [List.getD, hi], h3⟩
    · intro _; omega

/-- A predicate value: called at any later world it answers p and keeps all that is there. -/
def PredOk (w : World) (F : Nat) (capt : Array Value) (l : List Int) (p : Int → Bool) : Prop :=
  ∀ w1, Keep (fun _ => False) w w1 → ∀ x ∈ l, Calls Tryz.prog F (#[.int .i64 x] ++ capt) w1 fun e w2 => e = .returned (.bool (p x)) ∧ Keep (fun _ => False) w1 w2

/-- A call of function F enters it. -/
def Enters (F : Nat) : Prop := ∀ (args : Array Value) (w : World), (callFunc F args).run Tryz.prog w = .ok (.enter F args) w

def IdxPost (w : World) (r : Value) (e : Ending) (w' : World) : Prop := e = .returned r ∧ Keep (fun _ => False) w w'

set_option maxHeartbeats 800000 in
set_option maxRecDepth 100000 in
theorem indexFunc_any {w : World} {v : Value} {l : List Int} {F : Nat} {capt : Array Value} {p : Int → Bool} (hv : Rd w 1 v l.length (icells l)) (hF : Enters F) (hp : PredOk w F capt l p) (hl : l.length < 9223372036854775807) :
    Calls Tryz.prog 126 #[v, .func (.func F) #[] capt] w (IdxPost w (.int .i64 (findI p l))) := by
  obtain ⟨ao, cap, hve, hn, hm, hsp⟩ := hv.shape
  subst hve
  have HV := Lib.hid hv; clear hv
  have HP := Lib.hid hp; clear hp
  clear hsp
  have eF : ∀ (args : Array Value) (w : World), (callFunc F args).run Tryz.prog w = .ok (.enter F args) w := hF
  clear hF
  go_enter Tryz.func126, Tryz.ntmps126
  go_wp2
  go_loopw [8] (fun i wr => ∃ k : Nat, k ≤ l.length ∧ i = .int .i64 k ∧ Keep (fun _ => False) w wr ∧ ∀ j, j < k → p (l.getD j 0) = false) (fun i _ => l.length - (intOf i).toNat)
  case atStart => exact ⟨0, Nat.zero_le _, rfl, Keep.refl _ _, fun j h => by omega⟩
  case round =>
    obtain ⟨k, hk, rfl, hkeep, h0⟩ := hrel
    have HK := Lib.hid hkeep; clear hkeep
    have H0 := Lib.hid h0; clear h0
    by_cases hlt : k < l.length
    · have hrd := HV.out.keep HK.out (fun _ _ h => h)
      obtain ⟨b, o, hao, hcell⟩ : ∃ b o, ao = some ⟨b, o, none⟩ ∧ wr.cell? ⟨b, o + k, none⟩ = some (.int .i64 (l.getD k 0)) := by
        rcases hrd.2.2 with ⟨h, h'⟩ | ⟨b, o, c, h, _, _, hx⟩
        · omega
        · cases h
          exact ⟨b, o, rfl, hx k _ (icells_get l k hlt)⟩
      subst hao
      have HR := Lib.hid hrd; clear hrd
      have hmem : l[k] ∈ l := by simp
      have HC := Lib.hid (HP.out wr HK.out _ hmem); clear hmem
      have HG := Lib.hid (show l.getD k 0 = l[k] by simp [List.getD, hlt])
      cases hpx : p (l.getD k 0)
      · have HX := Lib.hid hpx; clear hpx
        go_wp2
        refine HC.out.mono ?_
        rintro e w2 ⟨he, hk2⟩
        rw [← HG.out, HX.out] at he
        subst he
        have HK2 := Lib.hid (HK.out.trans hk2 (fun _ _ h => h)); clear hk2
        go_wp2
        go_roundw
        case rel =>
          refine ⟨k + 1, by omega, by go_num, HK2.out, fun j hj => ?_⟩
          by_cases hjk : j = k
          · subst hjk; exact HX.out
          · exact H0.out j (by omega)
        case measure => simp [intOf]; omega
      · have HX := Lib.hid hpx; clear hpx
        go_wp2
        refine HC.out.mono ?_
        rintro e w2 ⟨he, hk2⟩
        rw [← HG.out, HX.out] at he
        subst he
        have HK2 := Lib.hid (HK.out.trans hk2 (fun _ _ h => h)); clear hk2
        go_wp2
        go_ret
        exact ⟨by rw [findI_at hlt HX.out H0.out]; rfl, HK2.out⟩
    · go_wp2
      go_ret
      exact ⟨by rw [findI_none (fun i hi => H0.out i (by omega))]; rfl, HK.out⟩

theorem containsFunc_any {w : World} {v : Value} {l : List Int} {F : Nat} {capt : Array Value} {p : Int → Bool} (hv : Rd w 1 v l.length (icells l)) (hF : Enters F) (hp : PredOk w F capt l p) (hl : l.length < 9223372036854775807) :
    Calls Tryz.prog 85 #[v, .func (.func F) #[] capt] w (IdxPost w (.bool (l.any p))) := by
  have h := Lib.hid (indexFunc_any hv hF hp hl)
  have hb : decide (0 ≤ findI p l) = l.any p := by
    have := findI_ge (p := p) (l := l)
    cases hany : l.any p
    · rw [hany] at this; simp at this; simp; omega
    · rw [hany] at this; simpa using this
  have HB := Lib.hid hb
  clear hv hF hp hb
  go_enter Tryz.func85, Tryz.ntmps85
  go_wp2_with (go_at_call 126; refine h.out.mono ?_; rintro e w1 ⟨rfl, hk⟩; have HK := Lib.hid hk; clear hk)
  go_ret
  exact ⟨by rw [← HB.out]; rfl, HK.out⟩
end Go.Proofs.YthdkamnclbfehaaGreatDoor
