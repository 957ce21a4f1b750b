/- index: what a label may be; the order of two suffixes. -/
import Derived.Test.YteommegadhipkaaGreatDoorFM34
import Derived.Test.YteommegadhipkaaGreatDoorFM28
import Derived.Test.YteommegadhipkaaGreatDoorFM11

/- index: what a label may be; the order of two suffixes. -/
namespace Go.Proofs.YteommegadhipkaaGreatDoor
set_option linter.unusedSimpArgs false
set_option linter.unusedVariables false
set_option linter.unnecessarySimpa false
open Go.RowKit

def validT (s : ByteArray) : Bool := decide (s.size ≤ 200) && !s.data.toList.any badB
theorem badI_any (c : Int) (w : World) (h0 : 0 ≤ c) (h1 : c < 256) : Calls Tryz.prog 87 #[.int .u8 c] w fun e w' => e = .returned (.bool (decide (c < 32) || decide (126 < c))) ∧ w = w' := by
  by_cases h : c < 32
  · have hd : decide (c < 32) = true := by simpa using h
    go_enter Tryz.func87, Tryz.ntmps87
    go_wp2
    go_ret
    exact ⟨by rw [hd]; rfl, rfl⟩
  · have hd : decide (c < 32) = false := by simpa using h
    have HD := Lib.hid hd
    go_enter Tryz.func87, Tryz.ntmps87
    go_wp2
    go_ret
    exact ⟨by first | rfl | (rw [HD.out]; rfl), rfl⟩
theorem cont_badI {w : World} {v : Value} {l : List UInt8} (hv : Rd w 1 v l.length (bcells l)) (hl : l.length < 9223372036854775807) :
    Calls Tryz.prog 70 #[v, .func (.func 87) #[] #[]] w (IdxPost w (.bool (l.any badB))) :=
  containsFunc_anyB (p := badB) hv (enters_of Tryz.func87 (by kernel_rfl) rfl) (fun w1 hk x hx => (badI_any x.toNat w1 (by omega) (by have := u8_lt x; omega)).mono fun e w2 h => by
    obtain ⟨he, hw⟩ := h
    subst hw
    refine ⟨?_, Keep.refl _ _⟩
    rw [he]; unfold badB
    rw [show decide ((x.toNat : Int) < 32) = decide (x.toNat < 32) from decide_eq_decide.2 (by omega), show decide ((126 : Int) < x.toNat) = decide (126 < x.toNat) from decide_eq_decide.2 (by omega)]) hl
theorem printable_any {w : World} {s : ByteArray} (hs : s.size < 9223372036854775807) : Calls Tryz.prog 49 #[.string s] w (IdxPost w (.bool (!s.data.toList.any badB))) := by
  have hcv := fun W => Lib.run_convert_string_bytes (P := Tryz.prog) W 9 54 5 s Tryz.underlying9 Tryz.underlying54 Tryz.underlying5
  have hany := cont_badI (w := Lib.bytesWorld w 5 s) (convCell w s (by omega)) (by simp; omega)
  obtain ⟨z, hz⟩ : ∃ z, s.data.toList.any badB = z := ⟨_, rfl⟩
  rw [hz] at hany
  have HZ := Lib.hid hz; clear hz
  have HANY := Lib.hid hany; clear hany
  have HKEEP := Lib.hid (convKeep w 5 s)
  go_enter Tryz.func49, Tryz.ntmps49
  go_wp2_with (go_at_call 70; refine HANY.out.mono ?_; rintro e w1 ⟨rfl, hk⟩; have HK := Lib.hid hk; clear hk)
  go_ret
  exact ⟨by rw [HZ.out]; rfl, HKEEP.out.trans HK.out (fun _ _ h => h)⟩
theorem validI_any {w : World} {s : ByteArray} (hs : s.size < 9223372036854775807) : Calls Tryz.prog 22 #[.string s] w (IdxPost w (.bool (validT s))) := by
  by_cases h : s.size ≤ 200
  · have hd : decide ((s.size : Int) ≤ 200) = true := decide_eq_true (by omega)
    have HF := Lib.hid (show validT s = !s.data.toList.any badB by unfold validT; rw [decide_eq_true h]; rfl)
    have hp := printable_any (w := w) hs
    obtain ⟨z, hz⟩ : ∃ z, (!s.data.toList.any badB) = z := ⟨_, rfl⟩
    rw [hz] at hp
    have HZ := Lib.hid hz; clear hz
    have HP := Lib.hid hp; clear hp
    go_enter Tryz.func22, Tryz.ntmps22
    go_wp2_with (go_at_call 49; refine HP.out.mono ?_; rintro e w1 ⟨rfl, hk⟩; have HK := Lib.hid hk; clear hk)
    go_ret
    exact ⟨by rw [HF.out, HZ.out]; rfl, HK.out⟩
  · have hd : decide ((s.size : Int) ≤ 200) = false := by simp; omega
    have HF := Lib.hid (show validT s = false by unfold validT; rw [decide_eq_false h]; rfl)
    go_enter Tryz.func22, Tryz.ntmps22
    go_wp2
    go_ret
    exact ⟨by rw [HF.out]; rfl, Keep.refl _ _⟩
end Go.Proofs.YteommegadhipkaaGreatDoor

/- index.transform: the bytes before the suffixes. -/
namespace Go.Proofs.YteommegadhipkaaGreatDoor
set_option linter.unusedSimpArgs false
set_option linter.unusedVariables false
set_option linter.unnecessarySimpa false
open Go.RowKit

def TrRel (w : World) (s : ByteArray) (l : List Nat) (v10 : Value) (wr : World) : Prop :=
  ∃ k : Nat, k ≤ l.length ∧ v10 = .int .i64 k ∧ Lib.IsBuilder 103 5 w.heap.size w.heap.size (Lib.byteCells ((l.take k).map (befB s.data.toList))) wr ∧ Below w.heap.size w wr
set_option maxHeartbeats 2000000 in
set_option maxRecDepth 100000 in
theorem transform_any {w : World} {s : ByteArray} {v : Value} {l : List Nat} (hv : Rd w 1 v l.length (icells (l.map Int.ofNat))) (hl : ∀ i ∈ l, i ≤ s.size) (hs : s.size ≤ 200) (hn : l.length ≤ 201) :
    Calls Tryz.prog 25 #[.string s, v] w (IdxPost w (.string ⟨(l.map (befB s.data.toList)).toArray⟩)) := by
  obtain ⟨ao, cap, hve, _⟩ := hv.shape
  subst hve
  have HV := Lib.hid hv; have HL := Lib.hid hl
  clear hv hl
  go_enter Tryz.func25, Tryz.ntmps25
  go_wp2
  go_loopw [10] (TrRel w s l) (fun v _ => l.length - (intOf v).toNat)
  case atStart => exact ⟨0, Nat.zero_le _, rfl, Lib.fresh_isBuilder 103 5 w, (Below.refl _ w).alloc (Nat.le_refl _) _⟩
  case round =>
    obtain ⟨k, hk, rfl, hI, hbw⟩ := hrel
    have hws : w.heap.size ≤ wr.heap.size := hbw.size
    have HB := Lib.hid hbw; have HI := Lib.hid hI
    clear hbw hI
    by_cases hlt : k < l.length
    · have hrd := HV.out.keep (Keep.ofBelow HB.out (fun _ => False)) (fun _ _ h => h)
      obtain ⟨i, hi⟩ : ∃ i, l[k] = i := ⟨_, rfl⟩
      obtain ⟨b, o, hao, hcell⟩ : ∃ b o, ao = some ⟨b, o, none⟩ ∧ wr.cell? ⟨b, o + k, none⟩ = some (.int .i64 (i : Int)) := by
        rcases hrd.2.2 with ⟨h, h'⟩ | ⟨b, o, c, h, _, _, hx⟩
        · omega
        · cases h
          refine ⟨b, o, rfl, ?_⟩
          have := hx k _ (icells_get (l.map Int.ofNat) k (by simpa using hlt))
          rw [this]
          simp [List.getD, hlt, hi]
      subst hao
      have hib : i ≤ s.size := by rw [← hi]; exact HL.out _ (by simp)
      have hnext : (l.take (k + 1)).map (befB s.data.toList) = (l.take k).map (befB s.data.toList) ++ [befB s.data.toList i] := by
        rw [List.take_succ_eq_append_getElem hlt, List.map_append, hi]; rfl
      have HN := Lib.hid hnext
      have hlen : ((l.take k).map (befB s.data.toList)).length = k := by simp; omega
      have HLEN := Lib.hid hlen
      clear hrd hi hnext hlen
      by_cases h0 : i = 0
      · have q0 : ((i : Int) == 0) = true := by simp; omega
        have hw := writeByte_any (c := 10) HI.out (by rw [Lib.byteCells_length, HLEN.out]; omega) hws
        have HW := Lib.hid hw; clear hw
        have HE := Lib.hid (show Lib.byteCells ((l.take k).map (befB s.data.toList)) ++ [.int .u8 10] = Lib.byteCells ((l.take (k + 1)).map (befB s.data.toList)) by rw [HN.out, Lib.byteCells_append, h0]; rfl)
        clear h0
        go_wp2_with (go_at_call 56; refine HW.out.mono ?_; rintro e w1 ⟨rfl, h1, b1⟩; have H1 := Lib.hid h1; have B1 := Lib.hid b1; clear h1 b1)
        go_roundw
        case rel => exact ⟨k + 1, by omega, by go_num, by rw [← HE.out]; exact H1.out, HB.out.trans B1.out⟩
        case measure => simp [intOf]; omega
      · have q0 : ((i : Int) == 0) = false := by simp; omega
        obtain ⟨c, hc⟩ : ∃ c, s.data.toList.getD (i - 1) 0 = c := ⟨_, rfl⟩
        have hidx : ∀ W, (Instr.index 9 (.string s) (.int .i64 ((i : Int) - 1))).run Tryz.prog W = .ok (.int .u8 c.toNat) W := fun W => by
          rw [run_index_string W 9 s .i64 _ Tryz.underlying9, dif_pos (by omega)]
          have e : ((i : Int) - 1).toNat = i - 1 := by omega
          simp only [e]
          rw [← hc]
          have hlt2 : i - 1 < s.data.toList.length := by simp; omega
          rw [List.getD, List.getElem?_eq_getElem hlt2]
          rfl
        have s1 := IntWalk.i64_in ((i : Int) - 1) ⟨by omega, by omega⟩
        have hw := writeByte_any (c := c.toNat) HI.out (by rw [Lib.byteCells_length, HLEN.out]; omega) hws
        have HW := Lib.hid hw; clear hw
        have HE := Lib.hid (show Lib.byteCells ((l.take k).map (befB s.data.toList)) ++ [.int .u8 c.toNat] = Lib.byteCells ((l.take (k + 1)).map (befB s.data.toList)) by
          rw [HN.out, Lib.byteCells_append]
          unfold befB
          rw [if_neg h0, hc]; rfl)
        clear h0 hc
        go_wp2_with (go_at_call 56; refine HW.out.mono ?_; rintro e w1 ⟨rfl, h1, b1⟩; have H1 := Lib.hid h1; have B1 := Lib.hid b1; clear h1 b1)
        go_roundw
        case rel => exact ⟨k + 1, by omega, by go_num, by rw [← HE.out]; exact H1.out, HB.out.trans B1.out⟩
        case measure => simp [intOf]; omega
    · have hke : k = l.length := by omega
      subst hke
      have hI := HI.out
      rw [List.take_length] at hI
      have hw := Tryz.Builder_String_any w.heap.size w.heap.size _ wr hI hws
      have HW := Lib.hid hw; clear hw hI
      go_wp2_with (go_at_call 57; refine HW.out.mono ?_; rintro e w1 ⟨rfl, b1⟩; have B1 := Lib.hid b1; clear b1)
      go_ret
      exact ⟨rfl, Keep.ofBelow (HB.out.trans B1.out) _⟩
end Go.Proofs.YteommegadhipkaaGreatDoor
