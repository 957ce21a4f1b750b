/- HouseSerial in plain words: lines done one after another; what history.Lock leaves is out of what came. -/
import Derived.Test.YthdkamnclbfehaaGreatDoorSerialM23
import Derived.Test.YthdkamnclbfehaaGreatDoorSerialM26
import Derived.Test.YthdkamnclbfehaaGreatDoorSerialM24
import Derived.Test.YthdkamnclbfehaaGreatDoorSerialM10
import Derived.Deep.LoopGhost
import Derived.Deep.DeepCutAuto
/- HouseSerial in plain words: lines done one after another; what history.Lock leaves is out of what came. -/
namespace Go.Proofs.YthdkamnclbfehaaGreatDoor
set_option linter.unusedSimpArgs false
set_option linter.unusedVariables false
open Go.RowKit
theorem bs_size (l : List UInt8) : (bs l).size = l.length := by simp [bs, ByteArray.size]
theorem runF_out (f : Nat) (S : St) (a : FA) (h : (runF f S a).err = 0) : 3 ≤ (runF f S a).out.size := by
  obtain ⟨R, hR⟩ : ∃ R, runF f S a = R := ⟨_, rfl⟩
  rw [hR] at h ⊢
  unfold runF at hR
  repeat' split at hR
  all_goals first
    | (unfold takeF at hR)
    | (unfold blendF at hR)
    | (unfold putF at hR)
    | (unfold touchF at hR)
    | (unfold testF at hR)
    | (unfold shutF at hR)
  all_goals repeat' split at hR
  all_goals subst hR
  all_goals first
    | (exfalso; simp at h; done)
    | (simp only [ByteArray.size_append, bs_size, List.length_cons, List.length_nil]; omega)
theorem runF_err (f : Nat) (S : St) (a : FA) : (runF f S a).err ≠ 10 := by
  unfold runF
  split
  · unfold takeF; repeat' split
    all_goals (dsimp only; decide)
  split
  · unfold blendF; repeat' split
    all_goals (dsimp only; decide)
  split
  · unfold putF; repeat' split
    all_goals (dsimp only; decide)
  split
  · unfold touchF; repeat' split
    all_goals (dsimp only; decide)
  split
  · unfold testF; repeat' split
    all_goals (dsimp only; decide)
  unfold shutF; repeat' split
  all_goals (dsimp only; decide)
theorem doF_err (S : St) (s : ByteArray) : (doF runF S s).err ≠ 10 := by
  unfold doF
  split
  · dsimp only; decide
  · split
    · split
      · exact runF_err _ _ _
      · exact runF_err _ _ _
    · dsimp only; decide
def bang : ByteArray := bs [33]
theorem out_ne {S : St} {s : ByteArray} (h : (doF runF S s).err = 0) : (doF runF S s).out ≠ bang := by
  have h3 : 3 ≤ (doF runF S s).out.size := by
    unfold doF at h ⊢
    split
    · rename_i e; rw [e] at h; cases h
    · rename_i so f a e
      rw [e] at h
      dsimp only at h
      split
      · rename_i e2; rw [if_pos e2] at h
        split
        · rename_i e3; exact runF_out f S a e3
        · rename_i e3; rw [if_neg e3] at h; exact absurd h e3
      · rename_i e2; rw [if_neg e2] at h; cases h
  intro e
  rw [e] at h3
  unfold bang at h3
  rw [bs_size] at h3
  simp at h3
inductive Dayed : St → List ByteArray → List ByteArray → List ByteArray → St → Prop
  | nil (S : St) : Dayed S [] [] [] S
  | ok {S S' : St} {s : ByteArray} {ls os ds : List ByteArray} : (doF runF S s).err = 0 → Dayed (doF runF S s).st ls os ds S' → Dayed S (s :: ls) ((doF runF S s).out :: os) (s :: ds) S'
  | bad {S S' : St} {s : ByteArray} {ls os ds : List ByteArray} : (doF runF S s).err ≠ 0 → Dayed S ls os ds S' → Dayed S (s :: ls) (bang :: os) ds S'
theorem Dayed.snoc {S S' : St} {ls os ds : List ByteArray} (h : Dayed S ls os ds S') : ∀ {s : ByteArray}, (doF runF S' s).err = 0 → Dayed S (ls ++ [s]) (os ++ [(doF runF S' s).out]) (ds ++ [s]) (doF runF S' s).st := by
  induction h with
  | nil S => intro s e; exact .ok e (.nil _)
  | ok e _ ih => intro s e2; exact .ok e (ih e2)
  | bad e _ ih => intro s e2; exact .bad e (ih e2)
theorem Dayed.snoc_bad {S S' : St} {ls os ds : List ByteArray} (h : Dayed S ls os ds S') : ∀ {s : ByteArray}, (doF runF S' s).err ≠ 0 → Dayed S (ls ++ [s]) (os ++ [bang]) ds S' := by
  induction h with
  | nil S => intro s e; exact .bad e (.nil _)
  | ok e _ ih => intro s e2; exact .ok e (ih e2)
  | bad e _ ih => intro s e2; exact .bad e (ih e2)
theorem Dayed.sub {S S' : St} {ls os ds : List ByteArray} (h : Dayed S ls os ds S') : (∀ x ∈ ds, x ∈ ls) ∧ os.length = ls.length ∧ ds.length ≤ ls.length := by
  induction h with
  | nil S => exact ⟨fun x h => h, rfl, Nat.le_refl _⟩
  | ok e _ ih => exact ⟨fun x hx => by rcases List.mem_cons.1 hx with rfl | hx; exact List.mem_cons_self; exact List.mem_cons_of_mem _ (ih.1 x hx), by simp [ih.2.1], by simp [ih.2.2]⟩
  | bad e _ ih => exact ⟨fun x hx => List.mem_cons_of_mem _ (ih.1 x hx), by simp [ih.2.1], by have := ih.2.2; simp; omega⟩
theorem Dayed.rep {S S' : St} {ls os ds : List ByteArray} (h : Dayed S ls os ds S') : Rep runF S ds S' := by
  induction h with
  | nil S => exact .nil _
  | ok e _ ih => exact .cons e ih
  | bad e _ ih => exact ih
theorem Dayed.cons {S S' : St} {ls os ds : List ByteArray} {x : ByteArray} (h : Dayed S ls (x :: os) ds S') :
    (x = bang ∧ ∃ ls', Dayed S ls' os ds S') ∨ (x ≠ bang ∧ ∃ s ds' ls', ds = s :: ds' ∧ (doF runF S s).err = 0 ∧ (doF runF S s).out = x ∧ Dayed (doF runF S s).st ls' os ds' S') := by
  cases h with
  | ok e t => exact .inr ⟨out_ne e, _, _, _, rfl, e, rfl, t⟩
  | bad e t => exact .inl ⟨rfl, _, t⟩
theorem Dayed.done {S S' : St} {ls ds : List ByteArray} (h : Dayed S ls [] ds S') : ds = [] ∧ S = S' := by
  cases h; exact ⟨rfl, rfl⟩
structure Of (Q : LOp → Prop) (s : LS) : Prop where
  done : ∀ o ∈ s.done, Q o
  wt : ∀ t, ∀ p ∈ s.wt t, Q p.1
theorem Of.upd {Q : LOp → Prop} {s : LS} (h : Of Q s) {t : Int} {l : List (LOp × Int)} (hl : ∀ p ∈ l, Q p.1) : ∀ u, ∀ p ∈ updW s.wt t l u, Q p.1 := fun u p hp => by
  unfold updW at hp
  by_cases e : u = t
  · rw [if_pos e] at hp; exact hl p hp
  · rw [if_neg e] at hp; exact h.wt u p hp
theorem Of.goOn {Q : LOp → Prop} (hab : ∀ t, Q (t, 3, 0)) : ∀ (n : Nat) (s : LS) (t : Int), Of Q s → Of Q (goOnS n s t).1 := by
  intro n
  induction n with
  | zero => intro s t h; exact h
  | succ n ih =>
    intro s t h
    cases e : s.wt t with
    | nil => rw [goOnS_nil e]; exact h
    | cons p rest =>
      obtain ⟨o, a⟩ := p
      have hq := h.wt t (o, a) (by rw [e]; exact List.mem_cons_self)
      by_cases hh : Hdd s o
      · by_cases hr : Reach s t t
        · rw [goOnS_abort e hh hr]
          refine ⟨fun x hx => ?_, h.upd (fun p hp => by cases hp)⟩
          rcases List.mem_append.1 hx with hx | hx
          · exact h.done x hx
          · simp at hx; rw [hx]; exact hab t
        · rw [goOnS_wait e hh hr]; exact h
      · rw [goOnS_do e hh]
        refine ih _ t ⟨fun x hx => ?_, h.upd (fun p hp => h.wt t p (by rw [e]; exact List.mem_cons_of_mem _ hp))⟩
        rcases List.mem_append.1 hx with hx | hx
        · exact h.done x hx
        · simp at hx; rw [hx]; exact hq
theorem Of.goOnT {Q : LOp → Prop} (hab : ∀ t, Q (t, 3, 0)) {s : LS} (t : Int) (h : Of Q s) : Of Q (Go.Proofs.YthdkamnclbfehaaGreatDoor.goOnT s t) := Of.goOn hab _ s t h
theorem Of.retry {Q : LOp → Prop} (hab : ∀ t, Q (t, 3, 0)) {s s' : LS} (h : RetryR s s') : Of Q s → Of Q s' := by
  induction h with
  | stop _ => exact id
  | go _ _ _ ih => exact fun q => ih (q.goOnT hab _)
theorem Of.enq {Q : LOp → Prop} {s : LS} (h : Of Q s) {o : LOp} (i : Int) (ho : Q o) : Of Q (Go.Proofs.YthdkamnclbfehaaGreatDoor.enq s o i) :=
  ⟨h.done, h.upd (fun p hp => by rcases List.mem_append.1 hp with hp | hp; exact h.wt _ p hp; simp at hp; rw [hp]; exact ho)⟩
theorem Of.step {Q : LOp → Prop} (hab : ∀ t, Q (t, 3, 0)) {s s' : LS} {o : LOp} {i : Int} (h : LStep s o i s') (hs : Of Q s) (ho : Q o) : Of Q s' := by
  cases h with
  | gone _ => exact hs
  | wait _ _ => exact hs.enq i ho
  | go _ _ _ => exact (hs.enq i ho).goOnT hab _
  | re _ _ _ hr => exact ((hs.enq i ho).goOnT hab _).retry hab hr
theorem Of.run {Q : LOp → Prop} (hab : ∀ t, Q (t, 3, 0)) {i : Nat} {s s' : LS} {l : List LOp} (h : LRun i s l s') : Of Q s → (∀ o ∈ l, Q o) → Of Q s' := by
  induction h with
  | nil => exact fun q _ => q
  | cons h1 _ ih => exact fun q hl => ih (Of.step hab h1 q (hl _ List.mem_cons_self)) (fun o ho => hl o (List.mem_cons_of_mem _ ho))
theorem Of.start (Q : LOp → Prop) : Of Q s0L := ⟨fun o h => (by cases h), fun t p h => (by cases h)⟩
end Go.Proofs.YthdkamnclbfehaaGreatDoor
/- house.state.list, text; House.State. -/
namespace Go.Proofs.YthdkamnclbfehaaGreatDoor
set_option linter.unusedSimpArgs false
set_option linter.unusedVariables false
set_option linter.unnecessarySimpa false
open Go.RowKit
def LsRel (w : World) (l : List Lot) (gh : Nat) (s3 s13 : Value) (wx : World) : Prop :=
  ∃ k : Nat, gh = l.length - k ∧ k ≤ l.length ∧ s3 = .string (listN l k) ∧ s13 = .int .i64 k ∧ Keep (fun _ => False) w wx
set_option maxHeartbeats 2000000 in
set_option maxRecDepth 100000 in
theorem list_any {w : World} {V : StV} {S : St} {m : Nat} (hG : Glob w) (h : StAt w V S) (hI : Inv m S) : Calls Tryz.prog 93 #[.pointer (some ⟨V.b, 0, none⟩)] w (IdxPost w (.string (listF S.lots))) := by
  obtain ⟨lo, lc, hve, hlc, _⟩ := h.rl.shape
  have c1 := h.blk.cell 1
  simp [StV.cells] at c1
  rw [hve] at c1
  have hrl := h.rl
  rw [hve] at hrl
  have hl20 := hI.l
  have HRL := Lib.hid hrl; have HI := Lib.hid hI; have HG := Lib.hid hG; clear h hve hrl hI hG
  go_enter Tryz.func93, Tryz.ntmps93
  go_wp2
  go_loopg [3, 13] S.lots.length (fun gh s3 s13 wx => LsRel w S.lots gh s3 s13 wx)
  case atStart => exact ⟨0, rfl, Nat.zero_le _, rfl, rfl, Keep.refl _ _⟩
  case round =>
    obtain ⟨k, rfl, hk, rfl, rfl, hkw⟩ := hrel
    have HK := Lib.hid hkw; clear hkw
    obtain ⟨acc, hacc⟩ : ∃ acc, listN S.lots k = acc := ⟨_, rfl⟩
    have hasz := listN_size HI.out.lo k hk (by omega)
    rw [hacc] at hasz
    rw [hacc]
    have HACC := Lib.hid hacc; clear hacc
    by_cases hlt : k < S.lots.length
    · have hjl : ((k : Int) < (S.lots.length : Int)) = True := by simp; omega
      have hrd := HRL.out.keep HK.out (fun _ _ h => h)
      obtain ⟨b, o, hao, hcell⟩ : ∃ b o, lo = some ⟨b, o, none⟩ ∧ ∀ i, i < 4 → wr.cell? ⟨b, o + (k * 4 + i), none⟩ = (lotCell S.lots[k])[i]? := by
        rcases hrd.2.2 with ⟨h, h'⟩ | ⟨b, o, c, h, _, _, hx⟩
        · omega
        · injection h with h1 h2 h3
          refine ⟨b, o, h1, fun i hi => ?_⟩
          have e := lotCells_get S.lots k i hlt hi
          have : ∃ u, (lotCell S.lots[k])[i]? = some u := ⟨(lotCell S.lots[k])[i]'(by simp [lotCell]; omega), List.getElem?_eq_getElem _⟩
          obtain ⟨u, hu⟩ := this
          rw [hu]
          exact hx _ u (e.trans hu)
      subst hao
      have hok := HI.out.lo S.lots[k] (by simp)
      obtain ⟨A, hA⟩ : ∃ A, S.lots[k] = A := ⟨_, rfl⟩
      have hnext : listN S.lots (k + 1) = acc ++ (bs [32] ++ lotS k A) := by
        simp only [listN, HACC.out]
        rw [show S.lots.getD k ⟨bs [], 0, 0, false⟩ = A by rw [← hA]; simp [List.getD, List.getElem?_eq_getElem hlt]]
      rw [hA] at hcell hok
      obtain ⟨sp, gr, by_, cl⟩ := A
      have c0 := hcell 0 (by omega)
      have c1 := hcell 1 (by omega)
      have c2 := hcell 2 (by omega)
      have c3 := hcell 3 (by omega)
      simp [lotCell] at c0 c1 c2 c3
      simp only [← Nat.add_assoc] at c1 c2 c3
      have HGR := Lib.hid hok.g
      obtain ⟨bay, hbay⟩ : ∃ s, bayS ⟨sp, gr, by_, cl⟩ = s := ⟨_, rfl⟩
      obtain ⟨is, his⟩ : ∃ s, isS ⟨sp, gr, by_, cl⟩ = s := ⟨_, rfl⟩
      obtain ⟨jb, hjb⟩ : ∃ s, lotS k ⟨sp, gr, by_, cl⟩ = s := ⟨_, rfl⟩
      have hjz := lotS_size hok (i := k) (by omega)
      have hby := hok.b
      simp only at hby
      rw [hjb] at hjz hnext
      have hj2 : jbs [itoaB ((k : Int) + 1), sp, itoaB gr, bay, is] (bs [58]) = jb := by rw [← hjb, ← hbay, ← his]; rfl
      have HJ := Lib.hid hj2
      have HJZ : Hid ((jbs [itoaB ((k : Int) + 1), sp, itoaB gr, bay, is] (bs [58])).size ≤ 140737488355328) := Lib.hid (by rw [hj2]; omega)
      have HNX := Lib.hid hnext; have HBAY := Lib.hid hbay; have HIS := Lib.hid his
      have hs1 : (9223372036854775807 < 1 + jb.size) = False := eq_false (by omega)
      have hs2 : (9223372036854775807 < acc.size + (1 + jb.size)) = False := eq_false (by omega)
      clear hcell hA hrd hok hj2 hjb hnext hbay his
      have HB0 := Lib.hid (Blk.new wr #[.string sp, .int .i64 gr, .int .i64 by_, .bool cl] 214)
      have HK0 := Lib.hid (HK.out.alloc (.cells #[.string sp, .int .i64 gr, .int .i64 by_, .bool cl] 214))
      go_upto_if 20 with fail
      clear c0 c1 c2 c3
      go_cut [6] (fun s6 wx => s6 = .string bay ∧ Blk wx wr.heap.size #[.string sp, .int .i64 gr, .int .i64 by_, .bool cl] 214 ∧ Keep (fun _ => False) w wx)
      case first =>
        have c2 := HB0.out.cell 2
        simp at c2
        by_cases hb0 : 0 ≤ by_
        · have hbt : ((0 : Int) ≤ by_) = True := eq_true hb0
          have hbs : bay = itoaB by_ := by rw [← HBAY.out]; unfold bayS; rw [if_pos (by exact hb0)]
          have HBS := Lib.hid hbs; clear hbs
          go_wp2_with (go_at_call 96; refine Calls.mono (itoa_any (HG.out.keep HK0.out) (by omega) (by omega)) ?_; rintro e w2 ⟨rfl, hk2⟩; have HK2 := Lib.hid hk2; clear hk2)
          go_meet
          exact ⟨by rw [HBS.out], HB0.out.keep HK2.out (fun h => h), HK0.out.trans HK2.out (fun _ _ h => h)⟩
        · have hbt : ((0 : Int) ≤ by_) = False := eq_false hb0
          have hbs : bay = bs [45] := by rw [← HBAY.out]; unfold bayS; rw [if_neg (by exact hb0)]
          have HBS := Lib.hid hbs; clear hbs
          go_wp2
          go_meet
          exact ⟨by rw [HBS.out]; rfl, HB0.out, HK0.out⟩
      case rest =>
        obtain ⟨rfl, hb1, hk1⟩ := hcut
        have HB1 := Lib.hid hb1; have HK1 := Lib.hid hk1; clear hb1 hk1
        have c0 := HB1.out.cell 0
        have c1 := HB1.out.cell 1
        have c3 := HB1.out.cell 3
        simp at c0 c1 c3
        obtain ⟨wb, hwb⟩ : ∃ wb, wb = wc := ⟨_, rfl⟩
        go_upto_if 25 with fail
        go_cut [7] (fun s7 wx => s7 = .string is ∧ wb = wx)
        case first =>
          cases hcl : cl with
          | true =>
            subst hcl
            have hbs : is = bs [99, 108, 111, 115, 101, 100] := by rw [← HIS.out]; rfl
            have HBS := Lib.hid hbs; clear hbs
            go_wp2
            go_meet
            exact ⟨by rw [HBS.out]; rfl, hwb⟩
          | false =>
            subst hcl
            have hbs : is = bs [111, 112, 101, 110] := by rw [← HIS.out]; rfl
            have HBS := Lib.hid hbs; clear hbs
            go_wp2
            go_meet
            exact ⟨by rw [HBS.out]; rfl, hwb⟩
        case rest =>
          subst hwb
          obtain ⟨rfl, rfl⟩ := hcut
          have HGB := Lib.hid (HG.out.keep HK1.out)
          have HSA : Hid (∀ W, Keep (fun _ => False) wb W → (W.cell? ⟨wr.heap.size, 0, none⟩ = some (.string sp) ∧ W.cell? ⟨wr.heap.size, 1, none⟩ = some (.int .i64 gr))) := Lib.hid fun W hk => by
            have h1 := (HB1.out.keep hk (fun h => h)).cell 0
            have h2 := (HB1.out.keep hk (fun h => h)).cell 1
            simp at h1 h2
            exact ⟨h1, h2⟩
          clear c3
          have hwk : IntKind.i64.wrap ((k : Int) + 1) = (k : Int) + 1 := IntWalk.i64_in _ (by omega)
          go_upto_region 10 with fail
          refine wp_region_noPanic ?_
          refine wp_region_held_drew (S := fun W => W.cell? ⟨wr.heap.size, 0, none⟩ = some (.string sp) ∧ W.cell? ⟨wr.heap.size, 1, none⟩ = some (.int .i64 gr)) (by kernel_rfl) (HSA.out _ (Keep.refl (fun _ => False) wb).drew) (fun hHeld => ?_)
          refine wpAnyH_take (i := 0) (oi := _) (v := ?_) rfl (by kernel_rfl) (by kernel_rfl) (by kernel_rfl) (fun _ _ _ h => h) (Or.inl ⟨by rfl, ?_⟩) (by assumption) ?_
          rotate_left
          · (intro w hSw; (try dsimp only at hSw); go_simp) <;> with_reducible rfl
          (try simp only [List.getElem_toArray, List.getElem_cons_zero, List.getElem_cons_succ, Act.put, List.setIfInBounds_toArray, List.set_cons_zero, List.set_cons_succ])
          refine wpAnyH_take (i := 1) (oi := _) (v := ?_) rfl (by kernel_rfl) (by kernel_rfl) (by kernel_rfl) (fun _ _ _ h => h) (Or.inl ⟨by rfl, ?_⟩) (by assumption) ?_
          rotate_left
          · (intro w hSw; (try dsimp only at hSw); go_simp) <;> with_reducible rfl
          (try simp only [List.getElem_toArray, List.getElem_cons_zero, List.getElem_cons_succ, Act.put, List.setIfInBounds_toArray, List.set_cons_zero, List.set_cons_succ])
          refine wpAnyH_take (i := 2) (oi := _) (v := ?_) rfl (by kernel_rfl) (by kernel_rfl) (by kernel_rfl) (fun _ _ _ h => h) (Or.inl ⟨by rfl, ?_⟩) (by assumption) ?_
          rotate_left
          · (intro w hSw; (try dsimp only at hSw); go_simp) <;> with_reducible rfl
          (try simp only [List.getElem_toArray, List.getElem_cons_zero, List.getElem_cons_succ, Act.put, List.setIfInBounds_toArray, List.set_cons_zero, List.set_cons_succ])
          refine wpAnyH_take (i := 4) (oi := _) (v := ?_) rfl (by kernel_rfl) (by kernel_rfl) (by kernel_rfl) (fun _ _ _ h => h) (Or.inl ⟨by rfl, ?_⟩) (by assumption) ?_
          rotate_left
          · (intro w hSw; (try dsimp only at hSw); go_simp) <;> with_reducible rfl
          (try simp only [List.getElem_toArray, List.getElem_cons_zero, List.getElem_cons_succ, Act.put, List.setIfInBounds_toArray, List.set_cons_zero, List.set_cons_succ])
          refine wpAnyH_take (i := 5) (oi := _) (v := ?_) rfl (by kernel_rfl) (by kernel_rfl) (by kernel_rfl) (fun _ _ _ h => h) (Or.inl ⟨by rfl, ?_⟩) (by assumption) ?_
          rotate_left
          · (intro w hSw; (try dsimp only at hSw); go_simp) <;> with_reducible rfl
          (try simp only [List.getElem_toArray, List.getElem_cons_zero, List.getElem_cons_succ, Act.put, List.setIfInBounds_toArray, List.set_cons_zero, List.set_cons_succ])
          refine wpAnyH_take (i := 6) (oi := _) (v := ?_) rfl (by kernel_rfl) (by kernel_rfl) (by kernel_rfl) (fun _ _ _ h => h) (Or.inl ⟨by rfl, ?_⟩) (by assumption) ?_
          rotate_left
          · (intro w hSw; (try dsimp only at hSw); go_simp) <;> with_reducible rfl
          (try simp only [List.getElem_toArray, List.getElem_cons_zero, List.getElem_cons_succ, Act.put, List.setIfInBounds_toArray, List.set_cons_zero, List.set_cons_succ])
          refine wpAnyH_take (i := 7) (oi := _) (v := ?_) rfl (by kernel_rfl) (by kernel_rfl) (by kernel_rfl) (fun _ _ _ h => h) (Or.inl ⟨by rfl, ?_⟩) (by assumption) ?_
          rotate_left
          · (intro w hSw; (try dsimp only at hSw); go_simp) <;> with_reducible rfl
          (try simp only [List.getElem_toArray, List.getElem_cons_zero, List.getElem_cons_succ, Act.put, List.setIfInBounds_toArray, List.set_cons_zero, List.set_cons_succ])
          refine wpAnyH_take (i := 9) (oi := _) (v := ?_) rfl (by kernel_rfl) (by kernel_rfl) (by kernel_rfl) (fun _ _ _ h => h) (Or.inl ⟨by rfl, ?_⟩) (by assumption) ?_
          rotate_left
          · (intro w hSw; (try dsimp only at hSw); go_simp) <;> with_reducible rfl
          (try simp only [List.getElem_toArray, List.getElem_cons_zero, List.getElem_cons_succ, Act.put, List.setIfInBounds_toArray, List.set_cons_zero, List.set_cons_succ])
          refine wpAnyH_take (i := 10) (oi := _) (v := ?_) rfl (by kernel_rfl) (by kernel_rfl) (by kernel_rfl) (fun _ _ _ h => h) (Or.inl ⟨by rfl, ?_⟩) (by assumption) ?_
          rotate_left
          · (intro w hSw; (try dsimp only at hSw); go_simp) <;> with_reducible rfl
          (try simp only [List.getElem_toArray, List.getElem_cons_zero, List.getElem_cons_succ, Act.put, List.setIfInBounds_toArray, List.set_cons_zero, List.set_cons_succ])
          refine wpAnyH_ready (rs := [3]) (by kernel_rfl) (by simp) ?_; refine AllReadyH.cons (o := _) rfl (fun K hK => ?_) AllReadyH.nil
          go_simp
          refine Calls.mono (itoa_any (HGB.out.keep (show Keep (fun _ => False) wb _ by repeat (first | exact HKR.out | exact Keep.refl _ _ | apply Keep.drew | apply Keep.drewN | apply Keep.alloc))) (by omega) (by omega)) ?_
          rintro e' Wc ⟨rfl, hkc⟩
          have HKRC := Lib.hid (Keep.trans (show Keep (fun _ => False) wb _ by repeat (first | exact HKR.out | exact Keep.refl _ _ | apply Keep.drew | apply Keep.drewN | apply Keep.alloc)) hkc (fun _ _ h => h))
          have HKR := HKRC
          clear HKRC hkc
          (try dsimp only)
          refine hK.out _ _ ?_ (fun hHeld => ?_)
          · ((try dsimp only); refine HSA.out _ ?_; repeat (first | exact HKR.out | exact Keep.refl _ _ | apply Keep.drew | apply Keep.drewN | apply Keep.alloc))
          clear hK K
          (try simp only [List.getElem_toArray, List.getElem_cons_zero, List.getElem_cons_succ, Act.put, List.setIfInBounds_toArray, List.set_cons_zero, List.set_cons_succ])
          refine wpAnyH_ready (rs := [8]) (by kernel_rfl) (by simp) ?_; refine AllReadyH.cons (o := _) rfl (fun K hK => ?_) AllReadyH.nil
          go_simp
          refine Calls.mono (itoa_any (HGB.out.keep (show Keep (fun _ => False) wb _ by repeat (first | exact HKR.out | exact Keep.refl _ _ | apply Keep.drew | apply Keep.drewN | apply Keep.alloc))) HGR.out.1 HGR.out.2) ?_
          rintro e' Wc ⟨rfl, hkc⟩
          have HKRC := Lib.hid (Keep.trans (show Keep (fun _ => False) wb _ by repeat (first | exact HKR.out | exact Keep.refl _ _ | apply Keep.drew | apply Keep.drewN | apply Keep.alloc)) hkc (fun _ _ h => h))
          have HKR := HKRC
          clear HKRC hkc
          (try dsimp only)
          refine hK.out _ _ ?_ (fun hHeld => ?_)
          · ((try dsimp only); refine HSA.out _ ?_; repeat (first | exact HKR.out | exact Keep.refl _ _ | apply Keep.drew | apply Keep.drewN | apply Keep.alloc))
          clear hK K
          (try simp only [List.getElem_toArray, List.getElem_cons_zero, List.getElem_cons_succ, Act.put, List.setIfInBounds_toArray, List.set_cons_zero, List.set_cons_succ])
          refine wpAnyH_ready (rs := [11]) (by kernel_rfl) (by simp) ?_; refine AllReadyH.cons (o := _) rfl (fun K hK => ?_) AllReadyH.nil
          go_simp
          refine hK.out _ _ ?_ (fun hHeld => ?_)
          · ((try dsimp only); refine HSA.out _ ?_; repeat (first | exact HKR.out | exact Keep.refl _ _ | apply Keep.drew | apply Keep.drewN | apply Keep.alloc))
          clear hK K
          (try simp only [List.getElem_toArray, List.getElem_cons_zero, List.getElem_cons_succ, Act.put, List.setIfInBounds_toArray, List.set_cons_zero, List.set_cons_succ])
          refine wpAnyH_ready (rs := [12]) (by kernel_rfl) (by simp) ?_; refine AllReadyH.cons (o := _) rfl (fun K hK => ?_) AllReadyH.nil
          go_simp
          refine Calls.mono (join_row (xs := [itoaB ((k : Int) + 1), sp, itoaB gr, bay, is]) (ownsRow_one (base := 0) (Blk.new _ _ 9) (Nat.zero_le _) rfl (by unfold maxLen; omega)) (by simp) HJZ.out) ?_
          rintro e' Wj ⟨rfl, hkc⟩
          have HKRC := Lib.hid (Keep.trans (show Keep (fun _ => False) wb _ by repeat (first | exact HKR.out | exact Keep.refl _ _ | apply Keep.drew | apply Keep.drewN | apply Keep.alloc)) hkc (fun _ _ h => h))
          have HKR := HKRC
          clear HKRC hkc
          rw [show jbs [itoaB ((k : Int) + 1), sp, itoaB gr, bay, is] ⟨#[58]⟩ = jb from HJ.out]
          (try dsimp only)
          refine hK.out _ _ ?_ (fun hHeld => ?_)
          · ((try dsimp only); refine HSA.out _ ?_; repeat (first | exact HKR.out | exact Keep.refl _ _ | apply Keep.drew | apply Keep.drewN | apply Keep.alloc))
          clear hK K
          (try simp only [List.getElem_toArray, List.getElem_cons_zero, List.getElem_cons_succ, Act.put, List.setIfInBounds_toArray, List.set_cons_zero, List.set_cons_succ])
          refine wpAnyH_take (i := 13) (oi := _) (v := ?_) rfl (by kernel_rfl) (by kernel_rfl) (by kernel_rfl) (fun _ _ _ h => h) (Or.inl ⟨by rfl, ?_⟩) (by assumption) ?_
          rotate_left
          · (intro w hSw; (try dsimp only at hSw); go_simp) <;> with_reducible rfl
          (try simp only [List.getElem_toArray, List.getElem_cons_zero, List.getElem_cons_succ, Act.put, List.setIfInBounds_toArray, List.set_cons_zero, List.set_cons_succ])
          refine wpAnyH_take (i := 14) (oi := _) (v := ?_) rfl (by kernel_rfl) (by kernel_rfl) (by kernel_rfl) (fun _ _ _ h => h) (Or.inl ⟨by rfl, ?_⟩) (by assumption) ?_
          rotate_left
          · (intro w hSw; (try dsimp only at hSw); go_simp) <;> with_reducible rfl
          (try simp only [List.getElem_toArray, List.getElem_cons_zero, List.getElem_cons_succ, Act.put, List.setIfInBounds_toArray, List.set_cons_zero, List.set_cons_succ])
          refine wpAnyH_ready (rs := [15]) (by kernel_rfl) (by simp) ?_; refine AllReadyH.cons (o := _) rfl (fun K hK => ?_) AllReadyH.nil
          go_simp
          refine hK.out _ _ ?_ (fun hHeld => ?_)
          · ((try dsimp only); refine HSA.out _ ?_; repeat (first | exact HKR.out | exact Keep.refl _ _ | apply Keep.drew | apply Keep.drewN | apply Keep.alloc))
          clear hK K
          (try simp only [List.getElem_toArray, List.getElem_cons_zero, List.getElem_cons_succ, Act.put, List.setIfInBounds_toArray, List.set_cons_zero, List.set_cons_succ])
          refine wpAnyH_done (by kernel_rfl) ?_ _
          refine NoPanic.normal ?_
          go_wp2
          go_roundg (S.lots.length - (k + 1))
          case measure => omega
          case rel => exact ⟨k + 1, rfl, by omega, by rw [HNX.out]; rfl, by go_num, HK1.out.trans HKR.out (fun _ _ h => h)⟩
    · have hje : k = S.lots.length := by omega
      subst hje
      have hjl : ((S.lots.length : Int) < (S.lots.length : Int)) = False := by simp
      go_wp2
      go_ret
      exact ⟨by rw [← HACC.out]; rfl, HK.out⟩
set_option maxHeartbeats 2000000 in
set_option maxRecDepth 100000 in
theorem text_any {w : World} {V : StV} {S : St} {m : Nat} (hG : Glob w) (h : StAt w V S) (hI : Inv m S) (hm : m ≤ 100000000) : Calls Tryz.prog 63 #[.pointer (some ⟨V.b, 0, none⟩)] w (IdxPost w (.string (textF S))) := by
  obtain ⟨no, nc, hve, hnc, _⟩ := h.rn.shape
  have HST := Lib.hid h
  have HSA : Hid (∀ W, Keep (fun _ => False) w W → W.cell? ⟨V.b, 4, none⟩ = some (.slice no S.notes.length nc)) := Lib.hid fun W hk => by
    have := (HST.out.keep hk (fun _ _ h => h)).blk.cell 4
    simp [StV.cells] at this
    rw [hve] at this
    exact this
  have hrn := h.rn
  rw [hve] at hrn
  have HRN := Lib.hid hrn
  have hnl := hI.n
  have HI := Lib.hid hI; have HGB := Lib.hid hG
  obtain ⟨lf, hlf⟩ : ∃ lf, listF S.lots = lf := ⟨_, rfl⟩
  have HLF := Lib.hid hlf
  obtain ⟨jb, hjb⟩ : ∃ jb, jbs (lf :: S.notes) (bs [10]) = jb := ⟨_, rfl⟩
  have hjz := textF_size hI hm
  rw [hlf, hjb] at hjz
  have HJ := Lib.hid hjb
  have HJZ : Hid ((jbs (lf :: S.notes) (bs [10])).size ≤ 140737488355328) := Lib.hid (by rw [hjb]; omega)
  have hs1 : (9223372036854775807 < jb.size + 1) = False := eq_false (by omega)
  have HF := Lib.hid (show textF S = jb ++ bs [10] by unfold textF; rw [hlf, hjb])
  clear h hve hrn hI hG hlf hjb
  obtain ⟨wb, hwb⟩ : ∃ wb, w = wb := ⟨_, rfl⟩
  subst hwb
  rename World => wb
  go_enter Tryz.func63, Tryz.ntmps63
  go_wp2
  refine wp_region_noPanic ?_
  refine wp_region_held_drew (S := fun W => W.cell? ⟨V.b, 4, none⟩ = some (.slice no S.notes.length nc)) (by kernel_rfl) (HSA.out _ (Keep.refl (fun _ => False) wb).drew) (fun hHeld => ?_)
  refine wpAnyH_take (i := 0) (oi := _) (v := ?_) rfl (by kernel_rfl) (by kernel_rfl) (by kernel_rfl) (fun _ _ _ h => h) (Or.inl ⟨by rfl, ?_⟩) (by assumption) ?_
  rotate_left
  · (intro w hSw; (try dsimp only at hSw); go_simp) <;> with_reducible rfl
  (try simp only [List.getElem_toArray, List.getElem_cons_zero, List.getElem_cons_succ, Act.put, List.setIfInBounds_toArray, List.set_cons_zero, List.set_cons_succ])
  refine wpAnyH_take (i := 3) (oi := _) (v := ?_) rfl (by kernel_rfl) (by kernel_rfl) (by kernel_rfl) (fun _ _ _ h => h) (Or.inl ⟨by rfl, ?_⟩) (by assumption) ?_
  rotate_left
  · (intro w hSw; (try dsimp only at hSw); go_simp) <;> with_reducible rfl
  (try simp only [List.getElem_toArray, List.getElem_cons_zero, List.getElem_cons_succ, Act.put, List.setIfInBounds_toArray, List.set_cons_zero, List.set_cons_succ])
  refine wpAnyH_take (i := 4) (oi := _) (v := ?_) rfl (by kernel_rfl) (by kernel_rfl) (by kernel_rfl) (fun _ _ _ h => h) (Or.inl ⟨by rfl, ?_⟩) (by assumption) ?_
  rotate_left
  · (intro w hSw; (try dsimp only at hSw); go_simp) <;> with_reducible rfl
  (try simp only [List.getElem_toArray, List.getElem_cons_zero, List.getElem_cons_succ, Act.put, List.setIfInBounds_toArray, List.set_cons_zero, List.set_cons_succ])
  refine wpAnyH_take (i := 5) (oi := _) (v := ?_) rfl (by kernel_rfl) (by kernel_rfl) (by kernel_rfl) (fun _ _ _ h => h) (Or.inl ⟨by rfl, ?_⟩) (by assumption) ?_
  rotate_left
  · (intro w hSw; (try dsimp only at hSw); go_simp) <;> with_reducible rfl
  (try simp only [List.getElem_toArray, List.getElem_cons_zero, List.getElem_cons_succ, Act.put, List.setIfInBounds_toArray, List.set_cons_zero, List.set_cons_succ])
  refine wpAnyH_take (i := 6) (oi := _) (v := ?_) rfl (by kernel_rfl) (by kernel_rfl) (by kernel_rfl) (fun _ _ _ h => h) (Or.inl ⟨by rfl, ?_⟩) (by assumption) ?_
  rotate_left
  · (intro w hSw; (try dsimp only at hSw); go_simp) <;> with_reducible rfl
  (try simp only [List.getElem_toArray, List.getElem_cons_zero, List.getElem_cons_succ, Act.put, List.setIfInBounds_toArray, List.set_cons_zero, List.set_cons_succ])
  refine wpAnyH_ready (rs := [1]) (by kernel_rfl) (by simp) ?_; refine AllReadyH.cons (o := _) rfl (fun K hK => ?_) AllReadyH.nil
  go_simp
  refine Calls.mono (list_any (HGB.out.keep (show Keep (fun _ => False) wb _ by repeat (first | exact HKR.out | exact Keep.refl _ _ | apply Keep.drew | apply Keep.drewN | apply Keep.alloc))) (HST.out.keep (show Keep (fun _ => False) wb _ by repeat (first | exact HKR.out | exact Keep.refl _ _ | apply Keep.drew | apply Keep.drewN | apply Keep.alloc)) (fun _ _ h => h)) HI.out) ?_
  rintro e' Wc ⟨rfl, hkc⟩
  have HKRC := Lib.hid (Keep.trans (show Keep (fun _ => False) wb _ by repeat (first | exact HKR.out | exact Keep.refl _ _ | apply Keep.drew | apply Keep.drewN | apply Keep.alloc)) hkc (fun _ _ h => h))
  have HKR := HKRC
  clear HKRC hkc
  rw [HLF.out]
  (try dsimp only)
  refine hK.out _ _ ?_ (fun hHeld => ?_)
  · ((try dsimp only); refine HSA.out _ ?_; repeat (first | exact HKR.out | exact Keep.refl _ _ | apply Keep.drew | apply Keep.drewN | apply Keep.alloc))
  clear hK K
  (try simp only [List.getElem_toArray, List.getElem_cons_zero, List.getElem_cons_succ, Act.put, List.setIfInBounds_toArray, List.set_cons_zero, List.set_cons_succ])
  refine wpAnyH_ready (rs := [2]) (by kernel_rfl) (by simp) ?_; refine AllReadyH.cons (o := _) rfl (fun K hK => ?_) AllReadyH.nil
  go_simp
  refine hK.out _ _ ?_ (fun hHeld => ?_)
  · ((try dsimp only); refine HSA.out _ ?_; repeat (first | exact HKR.out | exact Keep.refl _ _ | apply Keep.drew | apply Keep.drewN | apply Keep.alloc))
  clear hK K
  (try simp only [List.getElem_toArray, List.getElem_cons_zero, List.getElem_cons_succ, Act.put, List.setIfInBounds_toArray, List.set_cons_zero, List.set_cons_succ])
  refine wpAnyH_ready (rs := [7]) (by kernel_rfl) (by simp) ?_; refine AllReadyH.cons (o := _) rfl (fun K hK => ?_) AllReadyH.nil
  rw [if_pos (by rfl)]
  refine oper_app (base := wb.heap.size) (.tmp 5) (.tmp 9) 44 44 rfl 9 (.string ⟨#[]⟩) 1 16 Tryz.underlying44 info9 rfl (n := 1) (xs := strCells [lf]) (ownsRow_one (Blk.new Wc #[.string lf] 9) HKR.out.size rfl (by unfold maxLen; omega)) rfl (m := S.notes.length) (news := strCells S.notes) ((HRN.out.keep (HKR.out.alloc _) (fun _ _ h => h)).src Tryz.underlying44) rfl (by unfold maxLen; omega) (by omega) (by have := HKR.out.size; first | exact this | (simp; omega)) (fun v' w8 happ => ?_)
  have HOA : Hid (w8.ownsRow wb.heap.size 9 1 v' (1 + S.notes.length) (strCells (lf :: S.notes))) := Lib.hid happ.own
  have HKRC := Lib.hid (Keep.trans (show Keep (fun _ => False) wb _ by repeat (first | exact HKR.out | exact Keep.refl _ _ | apply Keep.drew | apply Keep.drewN | apply Keep.alloc)) happ.keep (fun k hk e => by have e2 : Wc.heap.size = k := Option.some.inj e; have := HKR.out.size; omega))
  have HKR := HKRC
  clear HKRC happ
  (try dsimp only)
  refine hK.out _ _ ?_ (fun hHeld => ?_)
  · ((try dsimp only); refine HSA.out _ ?_; repeat (first | exact HKR.out | exact Keep.refl _ _ | apply Keep.drew | apply Keep.drewN | apply Keep.alloc))
  clear hK K
  (try simp only [List.getElem_toArray, List.getElem_cons_zero, List.getElem_cons_succ, Act.put, List.setIfInBounds_toArray, List.set_cons_zero, List.set_cons_succ])
  refine wpAnyH_ready (rs := [8]) (by kernel_rfl) (by simp) ?_; refine AllReadyH.cons (o := _) rfl (fun K hK => ?_) AllReadyH.nil
  go_simp
  refine Calls.mono (join_row HOA.out (by simp; omega) HJZ.out) ?_
  rintro e' Wj ⟨rfl, hkc⟩
  have HKRC := Lib.hid (Keep.trans (show Keep (fun _ => False) wb _ by repeat (first | exact HKR.out | exact Keep.refl _ _ | apply Keep.drew | apply Keep.drewN | apply Keep.alloc)) hkc (fun _ _ h => h))
  have HKR := HKRC
  clear HKRC hkc
  rw [show jbs (lf :: S.notes) ⟨#[10]⟩ = jb from HJ.out]
  (try dsimp only)
  refine hK.out _ _ ?_ (fun hHeld => ?_)
  · ((try dsimp only); refine HSA.out _ ?_; repeat (first | exact HKR.out | exact Keep.refl _ _ | apply Keep.drew | apply Keep.drewN | apply Keep.alloc))
  clear hK K
  (try simp only [List.getElem_toArray, List.getElem_cons_zero, List.getElem_cons_succ, Act.put, List.setIfInBounds_toArray, List.set_cons_zero, List.set_cons_succ])
  refine wpAnyH_take (i := 9) (oi := _) (v := ?_) rfl (by kernel_rfl) (by kernel_rfl) (by kernel_rfl) (fun _ _ _ h => h) (Or.inl ⟨by rfl, ?_⟩) (by assumption) ?_
  rotate_left
  · (intro w hSw; (try dsimp only at hSw); go_simp) <;> with_reducible rfl
  (try simp only [List.getElem_toArray, List.getElem_cons_zero, List.getElem_cons_succ, Act.put, List.setIfInBounds_toArray, List.set_cons_zero, List.set_cons_succ])
  refine wpAnyH_ready (rs := [10]) (by kernel_rfl) (by simp) ?_; refine AllReadyH.cons (o := _) rfl (fun K hK => ?_) AllReadyH.nil
  go_simp
  refine hK.out _ _ ?_ (fun hHeld => ?_)
  · ((try dsimp only); refine HSA.out _ ?_; repeat (first | exact HKR.out | exact Keep.refl _ _ | apply Keep.drew | apply Keep.drewN | apply Keep.alloc))
  clear hK K
  (try simp only [List.getElem_toArray, List.getElem_cons_zero, List.getElem_cons_succ, Act.put, List.setIfInBounds_toArray, List.set_cons_zero, List.set_cons_succ])
  refine wpAnyH_done (by kernel_rfl) ?_ _
  refine NoPanic.normal ?_
  go_wp2
  go_ret
  exact ⟨by rw [HF.out]; rfl, HKR.out⟩
theorem state_any {base : Nat} {w : World} {H : HV} {D : Dsk} {S : St} {ls : List ByteArray} {lost : Bool} {m : Nat} (hG : Glob w) (h : HouseAt base w H D S ls lost) (hI : Inv m S) (hm : m ≤ 100000000) :
    Calls Tryz.prog 30 #[.pointer (some ⟨H.h, 0, none⟩)] w (IdxPost w (.string (textF S))) := by
  have c1 := h.blk.cell 1
  simp at c1
  have HH := Lib.hid h
  have HT := Lib.hid (text_any hG h.st hI hm)
  clear h hI hG
  go_enter Tryz.func30, Tryz.ntmps30
  go_wp2_with (first
    | (go_at_call 52; refine (hnone_any HH.out).mono ?_; rintro e w' ⟨rfl, rfl⟩)
    | (go_at_call 63; refine Calls.mono HT.out ?_; rintro e w' ⟨rfl, hk⟩; have HK := Lib.hid hk; clear hk))
  go_ret
  exact ⟨rfl, HK.out⟩
end Go.Proofs.YthdkamnclbfehaaGreatDoor
