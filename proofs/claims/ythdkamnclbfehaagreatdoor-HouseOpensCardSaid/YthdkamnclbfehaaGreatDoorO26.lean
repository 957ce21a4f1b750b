/- cubebref09.spice, decimal, Line. -/
import Derived.Test.YthdkamnclbfehaaGreatDoorO14
import Derived.Test.YthdkamnclbfehaaGreatDoorO23
import Derived.Shelf.Strings.SlTrimAscii
import Derived.Deep.LoopGhost
/- cubebref09.spice, decimal, Line. -/
namespace Go.Proofs.YthdkamnclbfehaaGreatDoor
set_option linter.unusedSimpArgs false
set_option linter.unusedVariables false
set_option linter.unnecessarySimpa false
open Go.RowKit
theorem zero275 : ∀ w, (zeroValue 275).run Tryz.prog w = .ok (.agg (Array.replicate 256 (.bool false))) w := by
  intro w
  have h : (Tryz.prog.info? 275).map (·.zero) = some (some (.agg (Array.replicate 256 (.bool false)))) := by kernel_rfl
  obtain ⟨i, hi, hz⟩ := Option.map_eq_some_iff.1 h
  simp [zeroValue, typeInfo, hi, hz]
theorem trim_any {w : World} {s cut : ByteArray} (h2 : 2 ≤ cut.size) (h0 : 0 < s.size) (hs : s.size ≤ 9223372036854775807) (hcs : cut.size < 4294967281) (hascii : ∀ (j : Nat) b, cut.data.toList[j]? = some b → b.toNat < 128) :
    Calls Tryz.prog 163 #[.string s, .string cut] w (IdxPost w (.string ⟨(Lib.trimS s.data.toList cut.data.toList).toArray⟩)) := by
  have h := Any.strings_Trim_set Tryz.lays160 zero275 (by kernel_rfl) s cut w h2 h0 hs hcs hascii
  refine h.mono ?_
  rintro e w' ⟨rfl, q, rfl⟩
  exact ⟨rfl, (((Keep.refl _ _).alloc _).alloc _).drewN q⟩
theorem dropWhile_nil {p : UInt8 → Bool} : ∀ (l : List UInt8), l.dropWhile p = [] ↔ l.all p = true := by
  intro l
  induction l with
  | nil => simp
  | cons x l ih =>
    rw [List.dropWhile_cons, List.all_cons]
    cases hp : p x with
    | true => simpa using ih
    | false => simp
theorem trimS_nil (l cs : List UInt8) : Lib.trimS l cs = [] ↔ l.all (cs.contains ·) = true := by
  unfold Lib.trimS Lib.trimLeftS Lib.trimRightS
  rw [dropWhile_nil]
  have h := List.takeWhile_append_dropWhile (p := (cs.contains ·)) (l := l.reverse)
  have hl : l = (l.reverse.dropWhile (cs.contains ·)).reverse ++ (l.reverse.takeWhile (cs.contains ·)).reverse := by rw [← List.reverse_append, h, List.reverse_reverse]
  constructor
  · intro ha
    rw [hl, List.all_append, ha, Bool.true_and, List.all_reverse]
    exact List.all_takeWhile
  · intro ha
    have h2 := ha
    rw [hl, List.all_append, Bool.and_eq_true] at h2
    exact h2.1
def lettersS : ByteArray := ⟨#[97, 98, 99, 100, 101, 102, 103, 104, 105, 106, 107, 108, 109, 110, 111, 112, 113, 114, 115, 116, 117, 118, 119, 120, 121, 122]⟩
def digitsS : ByteArray := ⟨#[48, 49, 50, 51, 52, 53, 54, 55, 56, 57]⟩
theorem contains_range {lo hi : Nat} (cs : List UInt8) (h : ∀ c : Fin 256, cs.contains (UInt8.ofNat c.val) = (decide (lo ≤ c.val) && decide (c.val ≤ hi))) (c : UInt8) : cs.contains c = (decide (lo ≤ c.toNat) && decide (c.toNat ≤ hi)) := by
  have := h ⟨c.toNat, c.toNat_lt⟩
  simpa using this
set_option maxRecDepth 100000 in
theorem letters_has (c : UInt8) : lettersS.data.toList.contains c = !badS c := by
  rw [contains_range (lo := 97) (hi := 122) _ (by decide) c]
  unfold badS
  by_cases h1 : c.toNat < 97 <;> by_cases h2 : 122 < c.toNat <;> simp [h1, h2] <;> omega
set_option maxRecDepth 100000 in
theorem digits_has (c : UInt8) : digitsS.data.toList.contains c = digB c := contains_range (lo := 48) (hi := 57) _ (by decide) c
theorem all_not {p : UInt8 → Bool} (l : List UInt8) : l.all (fun c => !p c) = !l.any p := by
  induction l with
  | nil => rfl
  | cons x l ih => simp only [List.all_cons, List.any_cons, ih, Bool.not_or]
theorem trim_letters (s : ByteArray) : Lib.trimS s.data.toList lettersS.data.toList = [] ↔ s.data.toList.any badS = false := by
  rw [trimS_nil, show (fun c => lettersS.data.toList.contains c) = (fun c => !badS c) from funext letters_has, all_not]
  simp
theorem trim_digits (s : ByteArray) : Lib.trimS s.data.toList digitsS.data.toList = [] ↔ s.data.toList.all digB = true := by
  rw [trimS_nil, show (fun c => digitsS.data.toList.contains c) = digB from funext digits_has]
theorem str_nil (l : List UInt8) : (⟨l.toArray⟩ : ByteArray).toList = l := by rw [Lib.toList_data]
set_option maxHeartbeats 1000000 in
set_option maxRecDepth 100000 in
theorem spice_any {w : World} {s : ByteArray} (hs : s.size ≤ 1000000) : Calls Tryz.prog 132 #[.string s] w (IdxPost w (.bool (decide (1 ≤ s.size) && isSpiceB s))) := by
  by_cases h1 : 1 ≤ s.size
  · have h1' : ((1 : Int) ≤ (s.size : Int)) = True := by simp; omega
    by_cases h8 : s.size ≤ 8
    · have h8' : ((s.size : Int) ≤ 8) = True := by simp; omega
      have ht := trim_any (w := w) (s := s) (cut := lettersS) (by decide) (by omega) (by omega) (by decide) (by intro j b hb; have hm := List.mem_of_getElem? hb; have hc := letters_has b; rw [List.contains_iff_mem.2 hm] at hc; unfold badS at hc; simp at hc; omega)
      obtain ⟨t, htt⟩ : ∃ t, (⟨(Lib.trimS s.data.toList lettersS.data.toList).toArray⟩ : ByteArray) = t := ⟨_, rfl⟩
      have htl : t.toList = Lib.trimS s.data.toList lettersS.data.toList := by rw [← htt, str_nil]
      rw [htt] at ht
      have HT := Lib.hid ht
      have HS := Lib.hid (show isSpiceB s = !s.data.toList.any badS by unfold isSpiceB; simp [h8])
      have hiff := trim_letters s
      rw [← htl] at hiff
      cases hb : s.data.toList.any badS with
      | false =>
        have hte : t.toList = [] := hiff.2 hb
        have hteb : (t.toList == []) = true := by rw [hte]; rfl
        have hF := Lib.hid (show (decide (1 ≤ s.size) && isSpiceB s) = true by rw [HS.out, hb]; simp; exact h1)
        clear hiff hb hte htt htl ht h1 h8
        go_enter Tryz.func132, Tryz.ntmps132
        go_wp2_with (go_at_call 163; refine HT.out.mono ?_; rintro e w1 ⟨rfl, hk1⟩; have HK1 := Lib.hid hk1; clear hk1)
        go_ret
        exact ⟨by rw [hF.out]; rfl, HK1.out⟩
      | true =>
        have hteb : (t.toList == []) = false := by
          cases htc : (t.toList == []) with
          | false => rfl
          | true => have := hiff.1 (beq_iff_eq.1 htc); rw [hb] at this; cases this
        have hF := Lib.hid (show (decide (1 ≤ s.size) && isSpiceB s) = false by rw [HS.out, hb]; simp)
        clear hiff hb htt htl ht h1 h8
        go_enter Tryz.func132, Tryz.ntmps132
        go_wp2_with (go_at_call 163; refine HT.out.mono ?_; rintro e w1 ⟨rfl, hk1⟩; have HK1 := Lib.hid hk1; clear hk1)
        go_ret
        exact ⟨by rw [hF.out]; rfl, HK1.out⟩
    · have h8' : ((s.size : Int) ≤ 8) = False := by simp; omega
      have hF := Lib.hid (show (decide (1 ≤ s.size) && isSpiceB s) = false by unfold isSpiceB; simp [h8])
      clear h1 h8
      go_enter Tryz.func132, Tryz.ntmps132
      go_wp2
      go_ret
      exact ⟨by rw [hF.out]; rfl, Keep.refl _ _⟩
  · have h1' : ((1 : Int) ≤ (s.size : Int)) = False := by simp; omega
    have hF := Lib.hid (show (decide (1 ≤ s.size) && isSpiceB s) = false by simp [h1])
    clear h1
    go_enter Tryz.func132, Tryz.ntmps132
    go_wp2
    go_ret
    exact ⟨by rw [hF.out]; rfl, Keep.refl _ _⟩
def DecPost (w : World) (s : ByteArray) (e : Ending) (w' : World) : Prop := IdxPost w (.tuple #[.int .i64 (if decOk s.data.toList then atoiN s else 0), .bool (decOk s.data.toList)]) e w'
theorem dec_no {w w' : World} {s : ByteArray} (h : decOk s.data.toList = false) (hk : Keep (fun _ => False) w w') : DecPost w s (.returned (.tuple #[.int .i64 0, .bool false])) w' := ⟨by rw [h]; rfl, hk⟩
set_option maxHeartbeats 1000000 in
set_option maxRecDepth 100000 in
theorem decimal_any {w : World} {s : ByteArray} (hG : Glob w) (hs : s.size ≤ 1000000) : Calls Tryz.prog 134 #[.string s] w (DecPost w s) := by
  have hz : s.data.toList.length = s.size := by simp
  have HG := Lib.hid hG; clear hG
  by_cases h1 : 1 ≤ s.size
  · have h1' : ((s.size : Int) < 1) = False := by simp; omega
    by_cases h6 : s.size ≤ 6
    · have h6' : ((6 : Int) < (s.size : Int)) = False := by simp; omega
      have ht := trim_any (w := w) (s := s) (cut := digitsS) (by decide) (by omega) (by omega) (by decide) (by intro j b hb; have hm := List.mem_of_getElem? hb; have hc := digits_has b; rw [List.contains_iff_mem.2 hm] at hc; have := digB_iff.1 hc.symm; omega)
      obtain ⟨t, htt⟩ : ∃ t, (⟨(Lib.trimS s.data.toList digitsS.data.toList).toArray⟩ : ByteArray) = t := ⟨_, rfl⟩
      have htl : t.toList = Lib.trimS s.data.toList digitsS.data.toList := by rw [← htt, str_nil]
      rw [htt] at ht
      have HT := Lib.hid ht
      have hiff := trim_digits s
      rw [← htl] at hiff
      cases hd : s.data.toList.all digB with
      | false =>
        have hteb : (t.toList != []) = true := by
          rw [bne_iff_ne]
          intro e
          have := hiff.1 e
          rw [hd] at this; cases this
        have hteq : (t.toList == []) = false := by rw [beq_eq_false_iff_ne]; exact bne_iff_ne.1 hteb
        have hteP : (t.toList = []) = False := eq_false (bne_iff_ne.1 hteb)
        have hF := Lib.hid (show decOk s.data.toList = false by unfold decOk; rw [hd]; simp)
        clear hiff hd htt htl ht h1 h6 hz
        go_enter Tryz.func134, Tryz.ntmps134
        go_wp2_with (go_at_call 163; refine HT.out.mono ?_; rintro e w1 ⟨rfl, hk1⟩; have HK1 := Lib.hid hk1; clear hk1)
        go_ret2
        exact dec_no hF.out HK1.out
      | true =>
        have hte : t.toList = [] := hiff.2 hd
        have hteb : (t.toList != []) = false := by rw [hte]; rfl
        have hteq : (t.toList == []) = true := by rw [hte]; rfl
        have hp : 0 < s.size := by omega
        obtain ⟨x, hx⟩ : ∃ x : UInt8, s[0] = x := ⟨_, rfl⟩
        have hhd : s.data.toList.headD 0 = x := by
          have := Lib.data_getElem? s 0 hp
          rw [hx] at this
          cases hl : s.data.toList with
          | nil => rw [hl] at this; cases this
          | cons a r => rw [hl] at this; simpa using this
        have H103 := Lib.hid (fun W (hk : Keep (fun _ => False) w W) => atoi_any (HG.out.keep hk) (s := s) (by omega))
        by_cases h2 : 1 < s.size
        · have h2' : ((1 : Int) < (s.size : Int)) = True := by simp; omega
          cases h48 : (x == 48) with
          | true =>
            have hx48 : (((x.toNat : Nat) : Int) == 48) = true := by have : x = 48 := by simpa using h48
                                                                     subst this; rfl
            have hF := Lib.hid (show decOk s.data.toList = false by unfold decOk; rw [hd, hhd, h48, hz]; simp [h2])
            clear hiff hd htt htl ht h1 h6 hz hhd h48 h2
            go_enter Tryz.func134, Tryz.ntmps134
            go_wp2_with (go_at_call 163; refine HT.out.mono ?_; rintro e w1 ⟨rfl, hk1⟩; have HK1 := Lib.hid hk1; clear hk1)
            go_ret2
            exact dec_no hF.out HK1.out
          | false =>
            have hx48 : (((x.toNat : Nat) : Int) == 48) = false := by
              rw [beq_eq_false_iff_ne]
              intro e
              have : x = 48 := UInt8.toNat_inj.1 (by show x.toNat = 48; omega)
              rw [this] at h48; cases h48
            have hF := Lib.hid (show decOk s.data.toList = true by unfold decOk; rw [hd, hhd, h48, hz]; simp [h1, h6])
            clear hiff hd htt htl ht h1 h6 hz hhd h48 h2
            go_enter Tryz.func134, Tryz.ntmps134
            go_wp2_with (first
              | (go_at_call 163; refine HT.out.mono ?_; rintro e w1 ⟨rfl, hk1⟩; have HK1 := Lib.hid hk1; clear hk1)
              | (go_at_call 103; refine (H103.out _ HK1.out).mono ?_; rintro e w2 ⟨N, rfl, hk2⟩; have HK2 := Lib.hid (HK1.out.trans hk2 (fun _ _ h => h)); clear hk2))
            go_ret2
            exact ⟨by rw [hF.out]; rfl, HK2.out⟩
        · have h2' : ((1 : Int) < (s.size : Int)) = False := by simp; omega
          have hF := Lib.hid (show decOk s.data.toList = true by unfold decOk; rw [hd, hz]; simp [h1, h6, h2])
          clear hiff hd htt htl ht h1 h6 hz hhd h2
          go_enter Tryz.func134, Tryz.ntmps134
          go_wp2_with (first
            | (go_at_call 163; refine HT.out.mono ?_; rintro e w1 ⟨rfl, hk1⟩; have HK1 := Lib.hid hk1; clear hk1)
            | (go_at_call 103; refine (H103.out _ HK1.out).mono ?_; rintro e w2 ⟨N, rfl, hk2⟩; have HK2 := Lib.hid (HK1.out.trans hk2 (fun _ _ h => h)); clear hk2))
          go_ret2
          exact ⟨by rw [hF.out]; rfl, HK2.out⟩
    · have h6' : ((6 : Int) < (s.size : Int)) = True := by simp; omega
      have hF := Lib.hid (show decOk s.data.toList = false by unfold decOk; rw [hz]; simp [h6])
      clear h1 h6 hz
      go_enter Tryz.func134, Tryz.ntmps134
      go_wp2
      go_ret2
      exact dec_no hF.out (Keep.refl _ _)
  · have h1' : ((s.size : Int) < 1) = True := by simp; omega
    have hF := Lib.hid (show decOk s.data.toList = false by unfold decOk; rw [hz]; simp [h1])
    clear h1 hz
    go_enter Tryz.func134, Tryz.ntmps134
    go_wp2
    go_ret2
    exact dec_no hF.out (Keep.refl _ _)
theorem any_at {p : UInt8 → Bool} {l : List UInt8} {i : Nat} {x : UInt8} (h : l[i]? = some x) (hp : p x = true) : l.any p = true := List.any_eq_true.2 ⟨x, List.mem_of_getElem? h, hp⟩
theorem any_none {p : UInt8 → Bool} {l : List UInt8} (h : ∀ (i : Nat) (x : UInt8), l[i]? = some x → p x = false) : l.any p = false := by
  rw [List.any_eq_false]
  intro x hx
  obtain ⟨i, hi⟩ := List.getElem?_of_mem hx
  rw [h i x hi]
  exact Bool.false_ne_true
set_option maxHeartbeats 1500000 in
set_option maxRecDepth 100000 in
theorem line_any {w : World} {s : ByteArray} (hG : Glob w) (hs : s.size ≤ 4096) : Calls Tryz.prog 133 #[.string s] w (IdxPost w (.bool (isLineB s))) := by
  have hz : s.data.toList.length = s.size := by simp
  have HZ := Lib.hid hz
  have H101 := Lib.hid (split_any hG hs)
  obtain ⟨R, hR⟩ : ∃ R, isLineB s = R := ⟨_, rfl⟩
  have HR := Lib.hid hR
  rw [hR]
  clear hG hz hR
  go_enter Tryz.func133, Tryz.ntmps133
  go_wp2
  go_loopg [8] s.size (fun gh s8 wx => ∃ i : Nat, gh = s.size - i ∧ i ≤ s.size ∧ s8 = .int .i64 (i : Nat) ∧ w = wx ∧ ∀ j x, j < i → s.data.toList[j]? = some x → badB x = false)
  case atStart => exact ⟨0, rfl, Nat.zero_le _, rfl, rfl, fun j x h => by omega⟩
  case round =>
    obtain ⟨i, rfl, hi, rfl, rfl, h0⟩ := hrel
    have H0 := Lib.hid h0; clear h0
    by_cases hlt : i < s.size
    · have hjl : ((i : Int) < (s.size : Int)) = True := by simp; omega
      obtain ⟨x, hx⟩ : ∃ x : UInt8, s[i] = x := ⟨_, rfl⟩
      have hxl : s.data.toList[i]? = some x := by rw [← hx]; exact Lib.data_getElem? s i hlt
      have HXL := Lib.hid hxl
      by_cases h32 : x.toNat < 32
      · have hl32 : (((x.toNat : Nat) : Int) < 32) = True := by simp; omega
        have hr : R = false := by
          rw [← HR.out]; unfold isLineB
          rw [any_at hxl (show badB x = true by unfold badB; simp [h32])]
          simp
        have HRF := Lib.hid hr; clear hxl hr h32
        go_wp2
        go_ret
        exact ⟨by rw [HRF.out]; rfl, Keep.refl _ _⟩
      · have hl32 : (((x.toNat : Nat) : Int) < 32) = False := by simp; omega
        by_cases h126 : 126 < x.toNat
        · have hg126 : ((126 : Int) < ((x.toNat : Nat) : Int)) = True := by simp; omega
          have hr : R = false := by
            rw [← HR.out]; unfold isLineB
            rw [any_at hxl (show badB x = true by unfold badB; simp [h126])]
            simp
          have HRF := Lib.hid hr; clear hxl hr h32 h126
          go_wp2
          go_ret
          exact ⟨by rw [HRF.out]; rfl, Keep.refl _ _⟩
        · have hg126 : ((126 : Int) < ((x.toNat : Nat) : Int)) = False := by simp; omega
          have HB := Lib.hid (show badB x = false by unfold badB; simp [h32, h126])
          clear hxl h32 h126
          go_wp2
          go_roundg (s.size - (i + 1))
          case measure => omega
          case rel => exact ⟨i + 1, rfl, by omega, by go_num, rfl, fun j y hj hy => by
            (by_cases e : j = i
             · subst e; rw [HXL.out] at hy; cases hy; exact HB.out
             · exact H0.out j y (by omega) hy)⟩
    · have hie : i = s.size := by omega
      subst hie
      have hjl : ((s.size : Int) < (s.size : Int)) = False := by simp
      have HANY := Lib.hid (any_none (p := badB) (l := s.data.toList) (fun j x hj => H0.out j x (by have := (List.getElem?_eq_some_iff.1 hj).1; rw [HZ.out] at this; exact this) hj))
      obtain ⟨ws, hws⟩ : ∃ ws, words s = ws := ⟨_, rfl⟩
      have hwl : ws.length ≤ 4097 := by
        have := Lib.countB_le ⟨#[32]⟩ (by decide) s.size s (Nat.le_refl _)
        rw [← hws, words_length]
        omega
      have HWS := Lib.hid hws
      go_wp2_with (go_at_call 101; refine H101.out.mono ?_; unfold SplitPost; rw [hws]; rintro e w1 ⟨rfl, hw1⟩; have hcell : ∀ j, j < ws.length → w1.cell? ⟨w.heap.size, 0 + j, none⟩ = some (.string (ws.getD j ByteArray.empty)) := (fun j hj => by rw [hw1, ← hws]; exact words_cell w s j (by rw [hws]; exact hj)); have HCE := Lib.hid hcell; have HK1 := Lib.hid (show Keep (fun _ => False) w w1 by rw [hw1]; exact (Keep.refl _ _).alloc _); clear hw1 hcell)
      clear hws
      go_loopg [25] ws.length (fun gh s25 wx => ∃ i : Nat, gh = ws.length - i ∧ i ≤ ws.length ∧ s25 = .int .i64 (i : Nat) ∧ w1 = wx ∧ ∀ j, j < i → ws.getD j ByteArray.empty ≠ ⟨#[]⟩)
      case atStart => exact ⟨0, rfl, Nat.zero_le _, rfl, rfl, fun j h => by omega⟩
      case round =>
        obtain ⟨i, rfl, hi, rfl, rfl, h0⟩ := hrel
        have H1 := Lib.hid h0; clear h0
        by_cases hlt2 : i < ws.length
        · have hjl2 : ((i : Int) < (ws.length : Int)) = True := by simp; omega
          have ci := HCE.out i hlt2
          rw [Nat.zero_add] at ci
          obtain ⟨x, hx⟩ : ∃ x, ws.getD i ByteArray.empty = x := ⟨_, rfl⟩
          rw [hx] at ci
          have HX := Lib.hid hx; clear hx
          by_cases hxe : x = ⟨#[]⟩
          · have hxl : (x.toList == []) = true := by rw [hxe, Lib.toList_data]; rfl
            have hr : R = false := by
              rw [← HR.out]; unfold isLineB
              rw [HWS.out, (Lib.containsS_iff ws ⟨#[]⟩).2 (by rw [← hxe, ← HX.out]; simp [List.getD, List.getElem?_eq_getElem hlt2])]
              simp
            have HRF := Lib.hid hr; clear hr hxe
            go_wp2
            go_ret
            exact ⟨by rw [HRF.out]; rfl, HK1.out⟩
          · have hxl : (x.toList == []) = false := by
              rw [beq_eq_false_iff_ne]
              intro e
              exact hxe (by rw [Lib.toList_data] at e; exact ByteArray.ext (Array.toList_inj.1 e))
            have HNE := Lib.hid hxe; clear hxe
            go_wp2
            go_roundg (ws.length - (i + 1))
            case measure => omega
            case rel => exact ⟨i + 1, rfl, by omega, by go_num, rfl, fun j hj => by
              (by_cases e : j = i
               · subst e; rw [HX.out]; exact HNE.out
               · exact H1.out j (by omega))⟩
        · have hie : i = ws.length := by omega
          subst hie
          have hjl2 : ((ws.length : Int) < (ws.length : Int)) = False := by simp
          have hc : Lib.containsS ws ⟨#[]⟩ = false := by
            cases hc : Lib.containsS ws ⟨#[]⟩ with
            | false => rfl
            | true =>
              obtain ⟨j, hj, e⟩ := List.getElem_of_mem ((Lib.containsS_iff ws ⟨#[]⟩).1 hc)
              exact absurd (by simp [List.getD, List.getElem?_eq_getElem hj, e]) (H1.out j hj)
          have hr : R = decide (s.size ≤ 200) := by rw [← HR.out]; unfold isLineB; rw [HWS.out, hc, HANY.out]; simp
          by_cases h200 : s.size ≤ 200
          · have hle : ((s.size : Int) ≤ 200) = True := by simp; omega
            have HRF := Lib.hid (show R = true by rw [hr]; simpa using h200)
            clear hr hc h200
            go_wp2
            go_ret
            exact ⟨by rw [HRF.out]; rfl, HK1.out⟩
          · have hle : ((s.size : Int) ≤ 200) = False := by simp; omega
            have HRF := Lib.hid (show R = false by rw [hr]; simpa using h200)
            clear hr hc h200
            go_wp2
            go_ret
            exact ⟨by rw [HRF.out]; rfl, HK1.out⟩
end Go.Proofs.YthdkamnclbfehaaGreatDoor
