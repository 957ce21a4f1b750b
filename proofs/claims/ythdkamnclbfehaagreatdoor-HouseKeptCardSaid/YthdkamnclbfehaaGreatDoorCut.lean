/- bytes.Cut at a byte 10, and a slice of bytes turned into a string. -/
import Derived.Test.YthdkamnclbfehaaGreatDoorLine
import Derived.Shelf.Bytes.SlCut
import Derived.Laws.BytesArg
namespace Go.Proofs.YthdkamnclbfehaaGreatDoor
set_option linter.unusedSimpArgs false
set_option linter.unusedVariables false
set_option linter.unnecessarySimpa false
open Go.RowKit

def nums (l : List UInt8) : List Int := l.map fun b => (b.toNat : Int)
theorem nums_length (l : List UInt8) : (nums l).length = l.length := by simp [nums]
theorem bytesOf_nums (l : List UInt8) : Lib.bytesOf (nums l) = l := by
  unfold Lib.bytesOf nums
  rw [List.map_map]
  conv => rhs; rw [← List.map_id l]
  refine List.map_congr_left fun b _ => ?_
  show UInt8.ofNat (Int.toNat (b.toNat : Int)) = b
  rw [Int.toNat_natCast]; exact UInt8.ofNat_toNat
theorem strOfNums_nums (l : List UInt8) : strOfNums (nums l) = bs l := by
  have : (strOfNums (nums l)).toList = l := by rw [Lib.strOfNums_toList, bytesOf_nums]
  rw [ByteArray.toList_eq] at this
  exact ByteArray.ext (Array.toList_inj.1 (by rw [this]; rfl))
theorem nums_getD (l : List UInt8) (j : Nat) (h : j < l.length) : (nums l).getD j 0 = ((l.getD j 0).toNat : Int) := by
  simp [nums, List.getD, h]
theorem Rd.bcell {w : World} {b o n c : Nat} {l : List UInt8} (h : Rd w 1 (.slice (some ⟨b, o, none⟩) n c) l.length (bcells l)) : ∀ j, j < l.length → w.cell? ⟨b, o + j, none⟩ = some (.int .u8 ((nums l).getD j 0)) := fun j hj => by
  rcases h.2.2 with ⟨e, _⟩ | ⟨b', o', c', e, _, _, hx⟩
  · cases e
  · cases e
    rw [nums_getD l j hj]
    exact hx j _ (bcells_get l j hj)
theorem convRd {w : World} {v : Value} {l : List UInt8} (h : Rd w 1 v l.length (bcells l)) : (convert 61 9 v).run Tryz.prog w = .ok (.string (bs l)) w := by
  rcases h.2.2 with ⟨e, h0⟩ | ⟨b, o, c, e, _, _, hx⟩
  · subst e
    rw [List.eq_nil_of_length_eq_zero h0]
    exact run_convert_bytes_nil w 61 5 Tryz.underlying61 Tryz.underlying5 0 0 9 Tryz.underlying9
  · subst e
    rw [← strOfNums_nums]
    exact run_convert_bytes_arg w 61 5 Tryz.underlying61 Tryz.underlying5 b o l.length c (nums l) (nums_length l) h.bcell 9 Tryz.underlying9

/-- The bytes up to the first 10 and those behind it. -/
def cutNL (l : List UInt8) : Option (List UInt8 × List UInt8) :=
  if 0 ≤ Lib.index l [10] then some (l.take (Lib.index l [10]).toNat, l.drop ((Lib.index l [10]).toNat + 1)) else none
def cutPre (l : List UInt8) : List UInt8 := match cutNL l with | some (a, _) => a | none => l
theorem cutNL_some {l a b : List UInt8} (h : cutNL l = some (a, b)) : a.length + 1 ≤ l.length ∧ a = l.take a.length ∧ b = l.drop (a.length + 1) := by
  unfold cutNL at h
  split at h
  · rename_i h0
    have hr := Lib.index_room l [10] h0
    simp only [List.length_singleton] at hr
    simp only [Option.some.injEq, Prod.mk.injEq] at h
    obtain ⟨rfl, rfl⟩ := h
    have : (l.take (Lib.index l [10]).toNat).length = (Lib.index l [10]).toNat := by rw [List.length_take]; omega
    rw [this]
    exact ⟨by omega, rfl, rfl⟩
  · cases h
theorem cutPre_length (l : List UInt8) : (cutPre l).length ≤ l.length := by
  unfold cutPre
  split
  · rename_i a b h
    have := cutNL_some h; omega
  · exact Nat.le_refl _
theorem Rd.take1 {w : World} {ao : Option Addr} {n c : Nat} {l : List UInt8} (h : Rd w 1 (.slice ao n c) l.length (bcells l)) (i : Nat) (hi : i ≤ l.length) : Rd w 1 (.slice ao i c) (l.take i).length (bcells (l.take i)) := by
  have hlen : (l.take i).length = i := by rw [List.length_take]; omega
  refine ⟨by simp [bcells_length], bcells_one _, ?_⟩
  rcases h.2.2 with ⟨e, h0⟩ | ⟨b, o, c', e, h1, h2, hx⟩
  · cases e
    have : i = 0 := by omega
    subst this
    exact .inl ⟨rfl, by simp⟩
  · cases e
    refine .inr ⟨b, o, c, by rw [hlen], by omega, h2, fun j u hu => hx j u ?_⟩
    rw [bcells_take, List.getElem?_take] at hu
    split at hu
    · exact hu
    · cases hu
def CutPost (w : World) (ao : Option Addr) (l : List UInt8) (c : Nat) (e : Ending) (w' : World) : Prop :=
  ∃ v2, e = .returned (.tuple #[.slice ao (cutPre l).length c, v2, .bool (cutNL l).isSome]) ∧ ∃ q, w' = w.drewN q
theorem bcut_any {w : World} {ao : Option Addr} {n c b2 : Nat} {l : List UInt8} (hG : Glob w) (hn : n = l.length) (hv : Rd w 1 (.slice ao n c) l.length (bcells l)) (hsep : w.cell? ⟨b2, 0, none⟩ = some (.int .u8 10)) (hl : l.length < 4294967281) :
    Calls Tryz.prog 56 #[.slice ao n c, .slice (some ⟨b2, 0, none⟩) 1 1] w (CutPost w ao l c) := by
  subst hn
  obtain ⟨m, hm⟩ := hG.maxlen
  have hnc : l.length ≤ c := by
    obtain ⟨_, _, e, h, _⟩ := hv.shape
    cases e; exact h
  have hin : Lib.BytesIn w ao l.length (nums l) := fun hp => by
    rcases hv.2.2 with ⟨e, h0⟩ | ⟨b, o, c', e, h1, h2, hx⟩
    · omega
    · injection e with e1 e2 e3
      subst e1
      exact ⟨b, o, rfl, hv.bcell⟩
  have hin2 : Lib.BytesIn w (some ⟨b2, 0, none⟩) 1 [10] := fun _ => ⟨b2, 0, rfl, fun j hj => by
    have : j = 0 := by omega
    subst this; exact hsep⟩
  refine (Tryz.bytes_Cut_all ao (some ⟨b2, 0, none⟩) l.length c 1 1 (nums l) [10] m w (nums_length l) rfl ?_ (by simp) hin hin2 ?_ hnc hl (by omega) hm).mono ?_
  · intro x hx
    obtain ⟨b, _, rfl⟩ := List.mem_map.1 hx
    have := b.toNat_lt
    omega
  · rintro rfl
    rcases hv.2.2 with ⟨e, h0⟩ | ⟨b, o, c', e, h1, h2, hx⟩
    · injection e
    · injection e with e1
      cases e1
  · rintro e w' ⟨rfl, q, rfl⟩
    rw [bytesOf_nums, show Lib.bytesOf [10] = [10] from rfl]
    unfold Lib.cutV CutPost
    by_cases h0 : 0 ≤ Lib.index l [10]
    · have hr := Lib.index_room l [10] h0
      simp only [List.length_singleton] at hr
      have e1 : cutNL l = some (l.take (Lib.index l [10]).toNat, l.drop ((Lib.index l [10]).toNat + 1)) := by unfold cutNL; rw [if_pos h0]
      have e2 : (cutPre l).length = (Lib.index l [10]).toNat := by
        unfold cutPre; rw [e1]; simp only []; rw [List.length_take]; omega
      rw [if_pos h0, e1, e2]
      exact ⟨_, rfl, q, rfl⟩
    · have e1 : cutNL l = none := by unfold cutNL; rw [if_neg h0]
      have e2 : cutPre l = l := by unfold cutPre; rw [e1]
      rw [if_neg h0, e1, e2]
      exact ⟨_, rfl, q, rfl⟩
theorem cutPre_rd {w : World} {ao : Option Addr} {n c : Nat} {l : List UInt8} (h : Rd w 1 (.slice ao n c) l.length (bcells l)) : Rd w 1 (.slice ao (cutPre l).length c) (cutPre l).length (bcells (cutPre l)) := by
  have h2 := cutPre_length l
  have h3 : cutPre l = l.take (cutPre l).length := by
    unfold cutPre
    split
    · rename_i a b hc
      exact (cutNL_some hc).2.1
    · simp
  have := h.take1 _ h2
  rwa [← h3] at this
end Go.Proofs.YthdkamnclbfehaaGreatDoor
