/- House's own find, walked: the text of the places where the index of all spices' label finds the pattern. -/
import Derived.Test.YteommegadhipkaaGreatDoorFM38
import Derived.Test.YteommegadhipkaaGreatDoorFM49
import Derived.Test.YteommegadhipkaaGreatDoorFM27

/- House's own find, walked: the text of the places where the index of all spices' label finds the pattern. -/
namespace Go.Proofs.YteommegadhipkaaGreatDoor
set_option linter.unusedSimpArgs false
set_option linter.unusedVariables false
set_option linter.unnecessarySimpa false
open Go.RowKit

theorem isB_alloc {B b : Nat} {cs : List Value} {w : World} (h : Lib.IsBuilder 103 5 B b cs w) (o : Obj) : Lib.IsBuilder 103 5 B b cs (w.alloc o) := by
  have go : ∀ p, Lib.BuilderAt 103 5 B b p cs w → Lib.BuilderAt 103 5 B b p cs (w.alloc o) := fun p h => by
    have hlt := h.lt
    obtain ⟨h1, v, h2, h3, h4⟩ := h
    refine ⟨h1, v, ?_, ownsRow_keep h3 ((Keep.refl (fun _ => False) w).alloc o) (fun _ _ h => h), h4⟩
    rw [((Below.refl w.heap.size w).alloc (Nat.le_refl _) o).block b hlt]; exact h2
  exact h.elim (fun h => .inl (go _ h)) (fun h => .inr (go _ h))
def F1Rel (w : World) (l : List Lot) (v20 : Value) (wr : World) : Prop :=
  ∃ k : Nat, k ≤ l.length ∧ v20 = .int .i64 k ∧ Lib.IsBuilder 103 5 w.heap.size w.heap.size (Lib.byteCells (labL (l.take k))) wr ∧ Below w.heap.size w wr
def F2Rel (w : World) (l : List Int) (v12 v50 : Value) (wr : World) : Prop :=
  ∃ k : Nat, k ≤ l.length ∧ v12 = .string (findN l k) ∧ v50 = .int .i64 k ∧ Keep (fun _ => False) w wr

set_option maxHeartbeats 8000000 in
set_option maxRecDepth 100000 in
theorem find_any {w : World} {V : StV} {S : St} {m : Nat} {p : ByteArray} (hG : Glob w) (h : StAt w V S) (hI : Inv m S) (hK : ∀ x ∈ S.lots, LotZ x) (hp : validT p = true) :
    Calls Tryz.prog 44 #[.pointer (some ⟨V.b, 0, none⟩), .string p] w (IdxPost w (.tuple #[.string (fndF S.lots p), .int .i64 0])) := by
  obtain ⟨lo, lc, hve, hlc, _⟩ := h.rl.shape
  have c1 := h.blk.cell 1
  simp [StV.cells] at c1
  rw [hve] at c1
  have hrl := h.rl
  rw [hve] at hrl
  have hl20 := hI.l
  have hlt1 := (h.lt V.b (.inl rfl))
  obtain ⟨l, hl⟩ : ∃ l, S.lots = l := ⟨_, rfl⟩
  rw [hl] at c1 hrl hl20 hK ⊢
  have hlab := labL_len hK
  have hval := labB_valid hK hl20
  have hmem := locB_mem l p
  have hlen := locB_len l p
  have HRL := Lib.hid hrl
  have HK := Lib.hid hK
  have HG := Lib.hid hG
  have HP := Lib.hid hp
  have HLAB := Lib.hid hlab
  have HVAL := Lib.hid hval
  have HMEM := Lib.hid hmem
  have HLEN := Lib.hid hlen
  clear h hve hrl hI hG hK hp hl hlab hval hmem hlen
  go_enter Tryz.func44, Tryz.ntmps44
  go_wp2
  go_loopw [20] (F1Rel w l) (fun v _ => l.length - (intOf v).toNat)
  case atStart => exact ⟨0, Nat.zero_le _, rfl, Lib.fresh_isBuilder 103 5 w, (Below.refl _ w).alloc (Nat.le_refl _) _⟩
  case round =>
    obtain ⟨k, hk, rfl, hI, hbw⟩ := hrel
    have hws : w.heap.size ≤ wr.heap.size := hbw.size
    have HB := Lib.hid hbw; have HI := Lib.hid hI
    clear hbw hI
    by_cases hlt : k < l.length
    · have hrd := HRL.out.keep (Keep.ofBelow HB.out (fun _ => False)) (fun _ _ h => h)
      have hjl : ((k : Int) < (l.length : Int)) = True := by simp; omega
      obtain ⟨b, o, hao, hcell⟩ : ∃ b o, lo = some ⟨b, o, none⟩ ∧ ∀ i, i < 4 → wr.cell? ⟨b, o + (k * 4 + i), none⟩ = (lotCell l[k])[i]? := by
        rcases hrd.2.2 with ⟨h, h'⟩ | ⟨b, o, c, h, _, _, hx⟩
        · omega
        · injection h with h1 h2 h3
          refine ⟨b, o, h1, fun i hi => ?_⟩
          have e := lotCells_get l k i hlt hi
          have : ∃ u, (lotCell l[k])[i]? = some u := ⟨(lotCell l[k])[i]'(by simp [lotCell]; omega), List.getElem?_eq_getElem _⟩
          obtain ⟨u, hu⟩ := this
          rw [hu]
          exact hx _ u (e.trans hu)
      subst hao
      have hok := HK.out l[k] (by simp)
      have hnext := labL_take hlt
      have e0 : l.getD k d0 = l[k] := by simp [List.getD, hlt]
      rw [e0] at hnext
      have hln : (labL (l.take k)).length ≤ 9 * k := by
        have := labL_len (l := l.take k) (fun x hx => HK.out x (List.mem_of_mem_take hx))
        rw [List.length_take] at this
        omega
      obtain ⟨A, hA⟩ : ∃ A, l[k] = A := ⟨_, rfl⟩
      rw [hA] at hcell hok hnext
      obtain ⟨sp, gr, by_, cl⟩ := A
      have c0 := hcell 0 (by omega)
      have c1 := hcell 1 (by omega)
      have c2 := hcell 2 (by omega)
      have c3 := hcell 3 (by omega)
      simp [lotCell] at c0 c1 c2 c3
      simp only [← Nat.add_assoc] at c1 c2 c3
      have hsz : sp.size ≤ 8 := hok.2
      have hs1 : (9223372036854775807 < sp.size + 1) = False := eq_false (by omega)
      have hzz : (sp ++ bs [32]).size = sp.size + 1 := by rw [ByteArray.size_append]; rfl
      have hB2 := isB_alloc HI.out (.cells #[.string sp, .int .i64 gr, .int .i64 by_, .bool cl] 120)
      have hw := writeString_any (s := sp ++ bs [32]) hB2 (by rw [Lib.byteCells_length, hzz]; omega) (by rw [World.size_alloc]; omega)
      have HW := Lib.hid hw; clear hw
      have HE := Lib.hid (show Lib.byteCells (labL (l.take k)) ++ bcells (sp ++ bs [32]).data.toList = Lib.byteCells (labL (l.take (k + 1))) by
        rw [hnext, Lib.byteCells_append]; simp [bs]; rfl)
      have HB2 := Lib.hid (HB.out.alloc (Nat.le_trans (Nat.le_refl _) hws) (.cells #[.string sp, .int .i64 gr, .int .i64 by_, .bool cl] 120))
      clear hcell hA hrd hok hnext hln hB2 hzz e0
      go_wp2_with (go_at_call 78; refine HW.out.mono ?_; rintro e w1 ⟨rfl, h1, b1⟩; have H1 := Lib.hid h1; have B1 := Lib.hid b1; clear h1 b1)
      go_roundw
      case rel => exact ⟨k + 1, by omega, by go_num, by rw [← HE.out]; exact H1.out, HB2.out.trans B1.out⟩
      case measure => simp [intOf]; omega
    · have hke : k = l.length := by omega
      subst hke
      have hI := HI.out
      rw [List.take_length] at hI
      have hLen := Tryz.Builder_Len w.heap.size w.heap.size _ wr hI
      rw [Lib.byteCells_length] at hLen
      have hw := Tryz.Builder_String_any w.heap.size w.heap.size _ wr hI hws
      have HLN := Lib.hid hLen
      have HW := Lib.hid hw; clear hw hI hLen
      have hl180 : (labL l).length ≤ 180 := by have := HLAB.out; omega
      have hgt : ((200 : Int) < ((labL l).length : Int)) = False := eq_false (by omega)
      have hjl : (((l.length : Nat) : Int) < (l.length : Int)) = False := eq_false (by omega)
      go_wp2_with (first
        | (go_at_call 79; refine HLN.out.mono ?_; rintro e w1 ⟨rfl, rfl⟩)
        | (go_at_call 57; refine HW.out.mono ?_; rintro e w1 ⟨rfl, b1⟩; have B1 := Lib.hid b1; clear b1)
        | (go_at_call 10; refine (new_any (w := w1) (s := labB l) (by rw [labB_size]; omega)).mono ?_; rintro e w2 ⟨hk2, hp2⟩; rcases hp2 with ⟨hv2, _⟩ | ⟨_, xb, rfl, hx2⟩; · exact absurd (HVAL.out.symm.trans hv2) (by decide)
           rw [labB_size, show (labB l).data.toList = labL l by simp [labB]] at hx2; have HK2 := Lib.hid hk2; have HX := Lib.hid hx2; clear hk2 hx2)
        | (go_at_call 11; refine (locate_any HX.out (by omega) HP.out).mono ?_; rintro e w3 ⟨v3, rfl, ho3, hk3⟩; obtain ⟨lo3, lc3, rfl, _⟩ := ownsRow_shape ho3; have HO3 := Lib.hid ho3; have HK3 := Lib.hid hk3; clear ho3 hk3))
      have hmem := HMEM.out
      have hnl := HLEN.out
      have HO := Lib.hid (show w3.ownsRow w2.heap.size 3 1 (.slice lo3 (locB l p).length lc3) (locB l p).length (icells (locB l p)) from HO3.out)
      have HK13 := Lib.hid (show Keep (fun _ => False) w w3 from (Keep.ofBelow (HB.out.trans B1.out) _).trans (HK2.out.trans HK3.out (fun _ _ h => h)) (fun _ _ h => h))
      have HF := Lib.hid (show fndF l p = findN (locB l p) (locB l p).length from rfl)
      have hLI : locI (labL l) (Lib.bitLen ((labL l).length + 1)) p.data.toList = locB l p := rfl
      rw [hLI]
      clear hLI
      obtain ⟨ns, hns⟩ : ∃ ns, locB l p = ns := ⟨_, rfl⟩
      rw [hns] at hmem hnl HO HF ⊢
      have hfs := findN_size (l := ns) (fun x hx => by obtain ⟨m, h1, h2⟩ := hmem x hx; exact ⟨m, h1, by omega⟩)
      have HFS := Lib.hid hfs
      have HME := Lib.hid hmem
      clear hns hmem hfs HO3
      go_loopw [12, 50] (F2Rel w3 ns) (fun _ v _ => ns.length - (intOf v).toNat)
      case atStart => exact ⟨0, Nat.zero_le _, rfl, rfl, Keep.refl _ _⟩
      case round =>
        obtain ⟨k, hk, rfl, rfl, hkw⟩ := hrel
        have HKW := Lib.hid hkw; clear hkw
        by_cases hlt : k < ns.length
        · have hrd := (ownsRow_rd HO.out (icells_one _)).keep HKW.out (fun _ _ h => h)
          have hjl : ((k : Int) < (ns.length : Int)) = True := by simp; omega
          obtain ⟨x, hx⟩ : ∃ x, ns.getD k 0 = x := ⟨_, rfl⟩
          have e0 : ns.getD k 0 = ns[k] := by simp [List.getD, hlt]
          obtain ⟨m, hm, hm2⟩ := HME.out ns[k] (List.getElem_mem _)
          have hxm : x = (m : Int) := by rw [← hx, e0, hm]
          obtain ⟨b, o, hao, hcell⟩ : ∃ b o, lo3 = some ⟨b, o, none⟩ ∧ wr.cell? ⟨b, o + k, none⟩ = some (.int .i64 x) := by
            rcases hrd.2.2 with ⟨h, h'⟩ | ⟨b, o, c, h, _, _, hc⟩
            · omega
            · cases h
              exact ⟨b, o, rfl, by rw [hc k _ (icells_get ns k hlt), hx]⟩
          subst hao
          have hnx : findN ns (k + 1) = findN ns k ++ (bs [32] ++ itoaB x) := by rw [← hx]; rfl
          have hz := HFS.out k (by omega)
          have hiz := itoaB_size x (by omega) (by omega)
          obtain ⟨acc, hacc⟩ : ∃ acc, findN ns k = acc := ⟨_, rfl⟩
          rw [hacc] at hz hnx ⊢
          have HIT := Lib.hid (itoa_any (w := wr) (n := x) (HG.out.keep (HK13.out.trans HKW.out (fun _ _ h => h))) (by omega) (by omega))
          obtain ⟨it, hit⟩ : ∃ it, itoaB x = it := ⟨_, rfl⟩
          unfold ItoaPost at HIT
          rw [hit] at hiz hnx HIT
          have HNX := Lib.hid hnx
          have hs1 : (9223372036854775807 < 1 + it.size) = False := eq_false (by omega)
          have hs2 : (9223372036854775807 < acc.size + (1 + it.size)) = False := eq_false (by omega)
          clear hrd e0 hx hm hxm hacc hit hnx
          go_wp2_with (go_at_call 65; refine HIT.out.mono ?_; rintro e w4 ⟨rfl, hk4⟩; have HK4 := Lib.hid hk4; clear hk4)
          go_roundw
          case rel => exact ⟨k + 1, by omega, by rw [HNX.out]; rfl, by go_num, HKW.out.trans HK4.out (fun _ _ h => h)⟩
          case measure => simp [intOf]; omega
        · have hke : k = ns.length := by omega
          subst hke
          go_wp2
          go_ret2
          exact ⟨by rw [HF.out]; rfl, HK13.out.trans HKW.out (fun _ _ h => h)⟩
end Go.Proofs.YteommegadhipkaaGreatDoor

/- House.Ask at a line that finds; and at a line that is none. -/
namespace Go.Proofs.YteommegadhipkaaGreatDoor
set_option linter.unusedSimpArgs false
set_option linter.unusedVariables false
set_option linter.unnecessarySimpa false
open Go.RowKit

def fndQ (p : ByteArray) : ByteArray := ⟨#[102, 105, 110, 100, 32]⟩ ++ p
theorem fndQ_list (p : ByteArray) : (fndQ p).data.toList = 102 :: 105 :: 110 :: 100 :: 32 :: p.data.toList := by simp [fndQ]
theorem fndQ_size (p : ByteArray) : (fndQ p).size = 5 + p.size := by rw [fndQ, ByteArray.size_append]; rfl
theorem fndQ_ne (p : ByteArray) {l : List UInt8} (h : l.headD 0 ≠ 102) : ((fndQ p).toList == l) = false := by
  rw [beq_eq_false_iff_ne]
  intro e
  rw [ByteArray.toList_eq, fndQ_list] at e
  rw [← e] at h
  exact h rfl
theorem index_fnd (l : List UInt8) : Lib.index (102 :: 105 :: 110 :: 100 :: 32 :: l) [32] = 4 := by
  have h : ∀ (c : UInt8) (r : List UInt8) (k : Int), c ≠ 32 → 0 ≤ k → Lib.index r [32] = k → Lib.index (c :: r) [32] = k + 1 := fun c r k hc h0 hk => by
    unfold Lib.index
    have : ([32] : List UInt8).isPrefixOf (c :: r) = false := by
      simp [List.isPrefixOf]; exact fun e => hc e.symm
    rw [if_neg (by rw [this]; decide), hk, if_neg (by simp; omega)]
    try omega
  have h4 : Lib.index (32 :: l) [32] = 0 := by
    unfold Lib.index
    rw [if_pos (by simp [List.isPrefixOf])]
  exact h 102 _ 3 (by decide) (by decide) (h 105 _ 2 (by decide) (by decide) (h 110 _ 1 (by decide) (by decide) (h 100 _ 0 (by decide) (by decide) h4)))
theorem cut_fnd (p : ByteArray) : Lib.cut (fndQ p).data.toList [32] = ([102, 105, 110, 100], p.data.toList, true) := by
  rw [fndQ_list]
  unfold Lib.cut
  rw [index_fnd]
  rfl
theorem fnd_word : ((⟨[102, 105, 110, 100].toArray⟩ : ByteArray).toList == [102, 105, 110, 100]) = true := by kernel_rfl
/-- A line that finds is one; its pattern may be looked for. -/
theorem fnd_valid {p : ByteArray} (h : isLineB (fndQ p) = true) : validT p = true ∧ (fndQ p).size ≤ 200 := by
  unfold isLineB at h
  simp only [Bool.and_eq_true, decide_eq_true_eq, Bool.not_eq_true'] at h
  obtain ⟨h1, _, h3⟩ := h
  rw [fndQ_list] at h3
  refine ⟨?_, h1⟩
  unfold validT
  rw [fndQ_size] at h1
  simp only [Bool.and_eq_true, decide_eq_true_eq, Bool.not_eq_true']
  refine ⟨by omega, ?_⟩
  rw [List.any_eq_false] at h3 ⊢
  intro c hc
  exact h3 c (by simp [hc])

set_option maxHeartbeats 2000000 in
set_option maxRecDepth 100000 in
theorem reply_find {w : World} {V : StV} {S : St} {m : Nat} {p : ByteArray} (hG : Glob w) (h : StAt w V S) (hI : Inv m S) (hK : ∀ x ∈ S.lots, LotZ x) (hl : isLineB (fndQ p) = true) :
    Calls Tryz.prog 20 #[.pointer (some ⟨V.b, 0, none⟩), .string (fndQ p)] w (IdxPost w (.tuple #[.string (fndF S.lots p), .int .i64 0])) := by
  obtain ⟨hv, hz⟩ := fnd_valid hl
  have HQ1 := fndQ_ne p (l := [108, 111, 116, 115]) (by decide)
  have HQ2 := fndQ_ne p (l := [116, 114, 97, 99, 101, 100]) (by decide)
  have HQ3 := fndQ_ne p (l := [115, 117, 114, 101]) (by decide)
  have HCUT := Lib.hid (cut_fnd p)
  have HFW := fnd_word
  obtain ⟨s, hs⟩ : ∃ s, fndQ p = s := ⟨_, rfl⟩
  rw [hs] at hl hz HQ1 HQ2 HQ3 HCUT ⊢
  clear hs
  have HL := Lib.hid hl; have HZ := Lib.hid hz; have HG := Lib.hid hG; have H := Lib.hid h; have HI := Lib.hid hI; have HK := Lib.hid hK; have HV := Lib.hid hv
  clear hl hz hG h hI hK hv
  go_enter Tryz.func20, Tryz.ntmps20
  go_wp2_with (first
    | (go_at_call 39; refine (isLine_any HG.out (by have := HZ.out; omega)).mono ?_; rintro e w1 ⟨he, hk1⟩; rw [HL.out] at he; subst he; have HK1 := Lib.hid hk1; clear hk1)
    | (go_at_call 40; obtain ⟨mx, hm⟩ := (HG.out.keep HK1.out).maxlen; refine (Tryz.strings_Cut s ⟨#[32]⟩ mx w1 (by have := HZ.out; omega) hm).mono ?_; clear hm; rintro e w2 ⟨he, n2, h2⟩; rw [show (⟨#[32]⟩ : ByteArray).data.toList = [32] from rfl, HCUT.out] at he; subst he; have HK2 := Lib.hid (HK1.out.trans (h2 ▸ (Keep.refl _ w1).drewN n2) (fun _ _ h => h)); clear h2)
    | (go_at_call 44; refine (find_any (p := p) (HG.out.keep HK2.out) (H.out.keep HK2.out (fun _ _ h => h)) HI.out HK.out HV.out).mono ?_; rintro e w3 ⟨rfl, hk3⟩; have HK3 := Lib.hid (HK2.out.trans hk3 (fun _ _ h => h)); clear hk3))
  go_ret2
  exact ⟨rfl, HK3.out⟩
set_option maxHeartbeats 1000000 in
set_option maxRecDepth 100000 in
theorem ask_find {base : Nat} {w : World} {H : HV} {D : Dsk} {S : St} {ls : List ByteArray} {lost : Bool} {m : Nat} {p : ByteArray} (hG : Glob w) (h : HouseAt base w H D S ls lost) (hI : Inv m S) (hK : ∀ x ∈ S.lots, LotZ x) (hl : isLineB (fndQ p) = true) :
    Calls Tryz.prog 7 #[.pointer (some ⟨H.h, 0, none⟩), .string (fndQ p)] w (IdxPost w (.tuple #[.string (fndF S.lots p), .int .i64 0])) := by
  have c1 := h.blk.cell 1
  simp at c1
  have HN := Lib.hid (hnone_any h)
  have HR := Lib.hid (reply_find hG h.st hI hK hl)
  obtain ⟨s, hs⟩ : ∃ s, fndQ p = s := ⟨_, rfl⟩
  rw [hs] at HR ⊢
  clear hG h hI hK hl hs
  go_enter Tryz.func7, Tryz.ntmps7
  go_wp2_with (first
    | (go_at_call 16; refine HN.out.mono ?_; rintro e w' ⟨rfl, rfl⟩)
    | (go_at_call 20; refine HR.out.mono ?_; rintro e w3 ⟨rfl, hk3⟩; have HK3 := Lib.hid hk3; clear hk3))
  go_ret2
  exact ⟨rfl, HK3.out⟩
set_option maxHeartbeats 1000000 in
set_option maxRecDepth 100000 in
theorem ask_bad {base : Nat} {w : World} {H : HV} {D : Dsk} {S : St} {ls : List ByteArray} {lost : Bool} {s : ByteArray} (hG : Glob w) (h : HouseAt base w H D S ls lost) (hz : s.size ≤ 2000000) (hl : isLineB s = false) :
    Calls Tryz.prog 7 #[.pointer (some ⟨H.h, 0, none⟩), .string s] w (IdxPost w (.tuple #[.string (bs []), .int .i64 4])) := by
  have c1 := h.blk.cell 1
  simp at c1
  have HN := Lib.hid (hnone_any h)
  have hr : Calls Tryz.prog 20 #[.pointer (some ⟨H.V.b, 0, none⟩), .string s] w (IdxPost w (.tuple #[.string (bs []), .int .i64 4])) := by
    have HI := Lib.hid (isLine_any (s := s) hG (by omega))
    rw [hl] at HI
    clear hG h hz hl c1 HN
    go_enter Tryz.func20, Tryz.ntmps20
    go_wp2_with (go_at_call 39; refine HI.out.mono ?_; rintro e w1 ⟨rfl, hk1⟩; have HK1 := Lib.hid hk1; clear hk1)
    go_ret2
    exact ⟨rfl, HK1.out⟩
  have HR := Lib.hid hr
  clear hG h hz hl hr
  go_enter Tryz.func7, Tryz.ntmps7
  go_wp2_with (first
    | (go_at_call 16; refine HN.out.mono ?_; rintro e w' ⟨rfl, rfl⟩)
    | (go_at_call 20; refine HR.out.mono ?_; rintro e w3 ⟨rfl, hk3⟩; have HK3 := Lib.hid hk3; clear hk3))
  go_ret2
  exact ⟨rfl, HK3.out⟩
end Go.Proofs.YteommegadhipkaaGreatDoor
