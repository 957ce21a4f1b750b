/- house.state.do: a line is read as a change, a copy of the state is made, and the command runs on it. -/
import Derived.Test.YthdkamnclbfehaaGreatDoorTake
namespace Go.Proofs.YthdkamnclbfehaaGreatDoor
set_option linter.unusedSimpArgs false
set_option linter.unusedVariables false
set_option linter.unnecessarySimpa false
open Go.RowKit

def doF (F : Nat → St → FA → Res) (S : St) (line : ByteArray) : Res :=
  match formF line with
  | none => ⟨4, S, bs []⟩
  | some (_, f, a) => if a.ok then (if (F f S a).err = 0 then F f S a else ⟨(F f S a).err, S, bs []⟩) else ⟨4, S, bs []⟩
def DoPost (w : World) (V : StV) (r : Res) (e : Ending) (w' : World) : Prop :=
  ∃ V', e = .returned (.tuple #[.pointer (some ⟨V'.b, 0, none⟩), .string r.out, .int .i64 r.err]) ∧ StAt w' V' r.st ∧ V'.vb = V.vb ∧ (r.err ≠ 0 → V' = V) ∧
    (∀ k, V'.fp k → V.fp k ∨ w.heap.size ≤ k) ∧ Keep (fun _ => False) w w'
/-- What a command must do. -/
def RunOK (F : Nat → St → FA → Res) (S : St) (line : ByteArray) : Prop :=
  ∀ so f a, formF line = some (so, f, a) → a.ok = true → Enters f ∧ ∀ base w V vn, GW base w → OSt base w V S → Args base w vn a →
    Calls Tryz.prog f #[.pointer (some ⟨V.b, 0, none⟩), .agg #[vn, .string a.word]] w (RunPost base w V (F f S a))

set_option maxHeartbeats 4000000 in
set_option maxRecDepth 100000 in
theorem do_any {w : World} {V : StV} {S : St} {line : ByteArray} {F : Nat → St → FA → Res} (hG : Glob w) (h : StAt w V S) (hs : S.small) (hl : line.size ≤ 9223372036854775807) (hrun : RunOK F S line) :
    Calls Tryz.prog 53 #[.pointer (some ⟨V.b, 0, none⟩), .string line] w (DoPost w V (doF F S line)) := by
  have hform := form_any hG hl
  cases hf : formF line with
  | none =>
    have HR := Lib.hid (show doF F S line = ⟨4, S, bs []⟩ by unfold doF; rw [hf])
    unfold FormPost at hform
    rw [hf] at hform
    have HFM := Lib.hid hform; clear hform
    have H := Lib.hid h; clear h
    clear hrun hf
    go_enter Tryz.func53, Tryz.ntmps53
    go_wp2_with (go_at_call 71; refine HFM.out.mono ?_; rintro e w1 ⟨rfl, hk1⟩; have HK1 := Lib.hid hk1; clear hk1)
    go_ret3
    have hk := HK1.out
    refine ⟨V, by rw [HR.out]; rfl, ?_, rfl, fun _ => rfl, fun _ e => .inl e, (HK1.out.alloc _).alloc _⟩
    rw [HR.out]
    exact H.out.keep ((HK1.out.alloc _).alloc _) (fun _ _ h => h)
  | some x =>
    obtain ⟨so, f, a⟩ := x
    unfold FormPost at hform
    rw [hf] at hform
    dsimp only at hform
    cases hok : a.ok with
    | false =>
      have HR := Lib.hid (show doF F S line = ⟨4, S, bs []⟩ by unfold doF; rw [hf]; simp only []; rw [hok]; rfl)
      rw [hok] at hform
      have HFM := Lib.hid hform; clear hform
      have H := Lib.hid h; clear h
      clear hrun hf hok
      go_enter Tryz.func53, Tryz.ntmps53
      go_wp2_with (go_at_call 71; refine HFM.out.mono ?_; rintro e w1 ⟨vn, rfl, ho1, hk1⟩; obtain ⟨ao, cap, rfl, _⟩ := ownsRow_shape ho1; have HO1 := Lib.hid ho1; clear ho1; have HK1 := Lib.hid hk1; clear hk1)
      go_ret3
      refine ⟨V, by rw [HR.out]; rfl, ?_, rfl, fun _ => rfl, fun _ e => .inl e, (HK1.out.alloc _).alloc _⟩
      rw [HR.out]
      exact H.out.keep ((HK1.out.alloc _).alloc _) (fun _ _ h => h)
    | true =>
      have HR := Lib.hid (show doF F S line = if (F f S a).err = 0 then F f S a else ⟨(F f S a).err, S, bs []⟩ by unfold doF; rw [hf]; simp only []; rw [hok, if_pos rfl])
      obtain ⟨hent, hcall⟩ := hrun so f a hf hok
      have eF : ∀ (args : Array Value) (w : World), (callFunc f args).run Tryz.prog w = .ok (.enter f args) w := hent
      clear hent hrun hf
      rw [hok] at hform
      clear hok
      have HFM := Lib.hid hform; clear hform
      have HC := Lib.hid hcall; clear hcall
      have H := Lib.hid h; clear h
      have HS := Lib.hid hs; clear hs
      obtain ⟨R, hR⟩ : ∃ R, F f S a = R := ⟨_, rfl⟩
      rw [hR] at HR HC
      clear hR
      obtain ⟨re, rs, ro⟩ := R
      by_cases hz : re = 0
      · subst hz
        rw [if_pos rfl] at HR
        go_enter Tryz.func53, Tryz.ntmps53
        go_wp2_with (first
          | (go_at_call 71; refine HFM.out.mono ?_; rintro e w1 ⟨vn, rfl, ho1, hk1⟩; obtain ⟨ao, cap, rfl, _⟩ := ownsRow_shape ho1; have HO1 := Lib.hid ho1; clear ho1; have HK1 := Lib.hid hk1; clear hk1)
          | (go_at_call 77; refine Calls.mono (stClone_any (H.out.keep ((HK1.out.alloc _).alloc _) (fun _ _ h => h)) HS.out) ?_; rintro e w3 ⟨V1, rfl, ho3, hvb3, hk3⟩; have hb1 := ((Blk.new w1 #[.string (bs so), .func (.func f) #[] #[]] 132).alloc (.cells #[.slice ao a.n.length cap, .string a.word] 134)).keep hk3 (fun h => h); have hb2 := (Blk.new (w1.alloc (.cells #[.string (bs so), .func (.func f) #[] #[]] 132)) #[.slice ao a.n.length cap, .string a.word] 134).keep hk3 (fun h => h); rw [World.size_alloc] at hb2; have c0 := hb1.cell 0; have c1 := hb1.cell 1; have d0 := hb2.cell 0; have d1 := hb2.cell 1; simp at c0 c1 d0 d1; have HO3 := Lib.hid ho3; clear ho3; have HK3 := Lib.hid hk3; clear hk3 hb1 hb2)
          | (refine Calls.mono (HC.out _ w3 V1 (.slice ao a.n.length cap) ((GW.start (hG.keep ((HK1.out.alloc _).alloc _))).keep HK3.out (fun _ _ h => h)) HO3.out ⟨(ownsRow_rd (((ownsRow_keep HO1.out ((Keep.refl (fun _ => False) w1).alloc _) (fun _ _ h => h)) |> fun h => ownsRow_keep h ((Keep.refl (fun _ => False) _).alloc _) (fun _ _ h => h)) |> fun h => ownsRow_keep h HK3.out (fun _ _ h => h)) (icells_one _)), fun k e => by have := ownsRow_lt HO1.out k e; simp; omega⟩) ?_; rintro e w4 ⟨rfl, V2, ho4, hc4⟩; have HO4 := Lib.hid (ho4 rfl); clear ho4; have HC4 := Lib.hid hc4; clear hc4))
        go_ret3
        have hz1 := HK1.out.size
        have hz3 := HK3.out.size
        simp only [World.size_alloc] at hz3
        have hkA : Keep (fun _ => False) w w3 := ((HK1.out.alloc _).alloc _).trans HK3.out (fun _ _ h => h)
        refine ⟨V2, by rw [HR.out, HC4.out.b]; rfl, ?_, HC4.out.vb.trans hvb3, fun e => ?_, fun k hk => ?_, ?_⟩
        · rw [HR.out]
          exact HO4.out.at HO4.out.lt
        · rw [HR.out] at e
          exact absurd rfl e
        · rcases HC4.out.fp k hk with e | e
          · rcases HO3.out.fp_new k e with e | e
            · exact .inl (.inr (.inl (hvb3 ▸ e)))
            · simp only [World.size_alloc] at e
              exact .inr (by omega)
          · exact .inr (by omega)
        · exact hkA.trans HC4.out.keep (fun k hk e => by have := e.1; simp only [World.size_alloc] at this; omega)
      · rw [if_neg hz] at HR
        have ez : (re != 0) = true := by simpa using hz
        go_enter Tryz.func53, Tryz.ntmps53
        go_wp2_with (first
          | (go_at_call 71; refine HFM.out.mono ?_; rintro e w1 ⟨vn, rfl, ho1, hk1⟩; obtain ⟨ao, cap, rfl, _⟩ := ownsRow_shape ho1; have HO1 := Lib.hid ho1; clear ho1; have HK1 := Lib.hid hk1; clear hk1)
          | (go_at_call 77; refine Calls.mono (stClone_any (H.out.keep ((HK1.out.alloc _).alloc _) (fun _ _ h => h)) HS.out) ?_; rintro e w3 ⟨V1, rfl, ho3, hvb3, hk3⟩; have hb1 := ((Blk.new w1 #[.string (bs so), .func (.func f) #[] #[]] 132).alloc (.cells #[.slice ao a.n.length cap, .string a.word] 134)).keep hk3 (fun h => h); have hb2 := (Blk.new (w1.alloc (.cells #[.string (bs so), .func (.func f) #[] #[]] 132)) #[.slice ao a.n.length cap, .string a.word] 134).keep hk3 (fun h => h); rw [World.size_alloc] at hb2; have c0 := hb1.cell 0; have c1 := hb1.cell 1; have d0 := hb2.cell 0; have d1 := hb2.cell 1; simp at c0 c1 d0 d1; have HO3 := Lib.hid ho3; clear ho3; have HK3 := Lib.hid hk3; clear hk3 hb1 hb2)
          | (refine Calls.mono (HC.out _ w3 V1 (.slice ao a.n.length cap) ((GW.start (hG.keep ((HK1.out.alloc _).alloc _))).keep HK3.out (fun _ _ h => h)) HO3.out ⟨(ownsRow_rd (((ownsRow_keep HO1.out ((Keep.refl (fun _ => False) w1).alloc _) (fun _ _ h => h)) |> fun h => ownsRow_keep h ((Keep.refl (fun _ => False) _).alloc _) (fun _ _ h => h)) |> fun h => ownsRow_keep h HK3.out (fun _ _ h => h)) (icells_one _)), fun k e => by have := ownsRow_lt HO1.out k e; simp; omega⟩) ?_; rintro e w4 ⟨rfl, V2, ho4, hc4⟩; clear ho4; have HC4 := Lib.hid hc4; clear hc4))
        go_ret3
        have hz1 := HK1.out.size
        have hz3 := HK3.out.size
        simp only [World.size_alloc] at hz3
        have hkA : Keep (fun _ => False) w w3 := ((HK1.out.alloc _).alloc _).trans HK3.out (fun _ _ h => h)
        have hkB : Keep (fun _ => False) w w4 := hkA.trans HC4.out.keep (fun k hk e => by have := e.1; simp only [World.size_alloc] at this; omega)
        refine ⟨V, by rw [HR.out]; rfl, ?_, rfl, fun _ => rfl, fun _ e => .inl e, hkB⟩
        rw [HR.out]
        exact H.out.keep hkB (fun _ _ h => h)
end Go.Proofs.YthdkamnclbfehaaGreatDoor
