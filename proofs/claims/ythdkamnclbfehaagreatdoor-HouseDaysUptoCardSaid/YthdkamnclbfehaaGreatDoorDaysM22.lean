/- A part of the proof. -/
import Derived.Test.YthdkamnclbfehaaGreatDoorDaysM17
import Derived.Test.YthdkamnclbfehaaGreatDoorDaysM21
set_option linter.all false
set_option maxHeartbeats 20000000
set_option maxRecDepth 100000
namespace Go.Proofs.YthdkamnclbfehaaGreatDoor
open Go.RowKit Tryz
def gn (g:List Int) (i:Nat):Nat:=(g.getD i 0).toNat
def offB (g:List Int) (s i:Nat):Bool:=sdiff (sdiff s (gn g i)) (2 ^ i) != 0
def cliqueB (g:List Int) (s:Nat):Bool:=!(elems s).any (offB g s)
theorem Graph.bound {g:List Int} (h:Graph g) {i:Nat} (hi:i < g.length):g.getD i 0=(gn g i:Int)∧gn g i < 2 ^ g.length:=by
 have h1:=(h.2.2 i hi).1;have h2:=(h.2.2 i hi).2.1;unfold gn;refine ⟨by omega,?_⟩;have:((2:Int) ^ g.length)=((2 ^ g.length:Nat):Int):=(by push_cast;rfl);omega
theorem z_k {n:Nat} (h:n≤12):2 ^ n≤4096:=Nat.pow_le_pow_right (n:=2) (by decide) h
theorem clique1_any {w:World} {v:Value} {g:List Int} {s i b2 b3:Nat} (hg:Graph g) (hv:Rd w 1 v g.length (icells g)) (hs:s < 4096) (hi:i < g.length) (h2:w.cell? ⟨b2,0,none⟩=some v) (h3:w.cell? ⟨b3,0,none⟩=some (.int .i64 s)):Calls prog 125 #[.int .i64 i,.pointer (some ⟨b3,0,none⟩),.pointer (some ⟨b2,0,none⟩)] w (DrawPost w (.bool (offB g s i))):=by
 have hn:=hg.2.1
 obtain ⟨b,o,G,X,A⟩:∃ b o G,v = .slice (some ⟨b,o,none⟩) g.length G∧w.cell? ⟨b,o+i,none⟩=some (.int .i64 (g.getD i 0)):=by
  rcases hv.2.2 with ⟨h,h'⟩ | ⟨b,o,c,h,_,_,hx⟩
  ·omega
  ·exact ⟨b,o,c,h,hx i _ (y_f g i hi)⟩
 subst X;obtain ⟨J,M⟩:=hg.bound hi;have h4:=z_k hn;rw [J] at A;have O:gn g i < 9223372036854775808:=Nat.lt_of_lt_of_le M (Nat.le_trans h4 (by decide));have R:s < 9223372036854775808:=Nat.lt_of_lt_of_le hs (by decide);have e1:=v_k s (gn g i) R O;have C:i≤62:=(by omega);have U:2 ^ i≤4096:=z_k (by omega);have e2:IntKind.i64.wrap ((2:Int) ^ i)=((2 ^ i:Nat):Int):=(by have:=shl_one i C;rwa [Nat.min_eq_left (by omega)] at this);have W:sdiff s (gn g i) < 2 ^ 12:=sdiff_lt (by omega);have e3:=v_k (sdiff s (gn g i)) (2 ^ i) (by omega) (by omega);have e4:(((sdiff (sdiff s (gn g i)) (2 ^ i):Nat):Int) != 0)=offB g s i:=(by unfold offB;rw [Bool.eq_iff_iff,bne_iff_ne,bne_iff_ne];omega);obtain ⟨q,hq⟩:∃ q:Nat,2 ^ i=q:=⟨_,rfl⟩;rw [hq] at e2 e3 e4;generalize sdiff s (gn g i)=sd at *;generalize gn g i=gi at *;generalize sdiff sd q=sr at *;generalize offB g s i=res at *;have Y:(i:Int) < g.length:=(by omega);clear J M h4 W U hq hv O R;go_enter func125,ntmps125;go_wp2
 go_quiet (fail)
 go_wp2
 go_ret;exact ⟨rfl,_,rfl⟩
theorem elems_lt {s n i:Nat} (hs:s < 2 ^ n) (h:i∈elems s):i < n:=by
 unfold elems at h;obtain ⟨_,h2⟩:=List.mem_filter.1 h;rcases Nat.lt_or_ge i n with hl | hl
 ·exact hl
 ·have:s.testBit i=false:=Nat.testBit_lt_two_pow (Nat.lt_of_lt_of_le hs (Nat.pow_le_pow_right (by decide) hl));rw [this] at h2;cases h2
theorem clique_any {w:World} {v:Value} {g:List Int} {s:Nat} (hg:Graph g) (hv:Rd w 1 v g.length (icells g)) (hs:s < 2 ^ g.length) (hT:TabAt 3 Lib.deBruijn64tab w) (hw3:3 < w.heap.size):Calls prog 83 #[v,.int .i64 s] w (IdxPost w (.bool (cliqueB g s))):=by
 have h4:s < 4096:=Nat.lt_of_lt_of_le hs (z_k hg.2.1);have M:Keep kF w ((w.alloc (.cells #[v] 53)).alloc (.cells #[.int .i64 s] 3)):=((Keep.refl _ _).alloc _).alloc _;have HT:=hD (show TabAt 3 Lib.deBruijn64tab ((w.alloc (.cells #[v] 53)).alloc (.cells #[.int .i64 s] 3)) from fun j hj=>(M.cell (p:=⟨3,j,none⟩) hw3 (fun h=>h)).trans (hT j hj));have HV:=hD (hv.keep M n3);have X:=hD M;clear M;have HG:=hD hg;have HS:=hD hs;clear hs;obtain ⟨ao,J,ad,_⟩:=hv.shape;clear hv hT hg;subst ad
 have HC:Hid (∀ w3 v',Keep kF ((w.alloc (.cells #[Value.slice ao g.length J] 53)).alloc (.cells #[.int .i64 s] 3)) w3→w3.ownsRow ((w.alloc (.cells #[Value.slice ao g.length J] 53)).alloc (.cells #[.int .i64 s] 3)).heap.size 3 1 v' (elems s).length (ncells (elems s))→
     Calls prog 85 #[v',.func (.func 125) #[] #[.pointer (some ⟨w.heap.size+1,0,none⟩),.pointer (some ⟨w.heap.size,0,none⟩)]] w3 (IdxPost w3 (.bool ((elems s).any (offB g s))))):=hD (by
   intro w3 v' O A
   have aa:Rd w3 1 v' ((elems s).map Int.ofNat).length (icells ((elems s).map Int.ofNat)):=by
     have:=x_g A (by intro u hu;obtain ⟨_,_,rfl⟩:=List.mem_map.1 hu;rfl)
     rw [ncells_icells] at this
     simpa using this
   have W:((elems s).map Int.ofNat).any (fun x=>offB g s x.toNat)=(elems s).any (offB g s):=by
     rw [List.any_map];rfl
   have:=u_k (p:=fun x=>offB g s x.toNat) (F:=125) (capt:=#[.pointer (some ⟨w.heap.size+1,0,none⟩),.pointer (some ⟨w.heap.size,0,none⟩)]) aa (enters_of func125 (by kernel_rfl) rfl) (by
     intro w4 R x hx
     obtain ⟨i,hi,rfl⟩:=List.mem_map.1 hx
     have C:=O.trans R n3
     have c2:w4.cell? ⟨w.heap.size,0,none⟩=some (Value.slice ao g.length J):=by
       rw [C.cell (p:=⟨w.heap.size,0,none⟩) (by simp;omega) (fun h=>h)]
       rw [World.cell?_alloc_past _ _ _ (by simp)]
       rw [World.cell?_alloc_new];rfl
     have c3:w4.cell? ⟨w.heap.size+1,0,none⟩=some (.int .i64 s):=by
       rw [C.cell (p:=⟨w.heap.size+1,0,none⟩) (by simp) (fun h=>h)]
       have:=World.cell?_alloc_new (w.alloc (.cells #[Value.slice ao g.length J] 53)) #[.int .i64 s] 3 0
       simpa using this
     refine (clique1_any HG.out (HV.out.keep C n3) h4 (elems_lt HS.out hi) c2 c3).mono ?_
     intro e w5 h5
     exact h5.keep) (by
       have:(elems s).length≤12:=by
         have:=List.length_filter_le (s.testBit ·) (List.range 12)
         simpa [elems] using this
       simp;omega)
   rw [W] at this
   exact this)
 go_enter func83,ntmps83;go_wp2_with (first | (go_at_call 86;refine (nodes_any s h4 _ HT.out (by simp;omega)).mono ?_;rintro e w3 ⟨v',rfl,A,O⟩;have HO:=hD A;clear A;have U:=hD O;clear O;have G:=x_a HO.out;obtain ⟨ae,Z,ac,_⟩:=G;subst ac;have c3:w3.cell? ⟨w.heap.size+1,0,none⟩=some (.int .i64 s):=by rw [U.out.cell (p:=⟨w.heap.size+1,0,none⟩) (by simp) (fun h=>h)];simpa using World.cell?_alloc_new (w.alloc (.cells #[Value.slice ao g.length J] 53)) #[.int .i64 s] 3 0) | (go_at_call 85;refine (HC.out _ _ U.out HO.out).mono ?_;rintro e w4 ⟨rfl,R⟩;have Y:=hD R;clear R))
 go_ret;exact ⟨by unfold cliqueB;rfl,(X.out.trans U.out n3).trans Y.out n3⟩
theorem all_any {w:World} {ao:Option Addr} {n c:Nat} (hn:n≤12):Calls prog 124 #[.slice ao n c] w fun e w'=>e = .returned (.int .i64 (((2 ^ n:Nat):Int) - 1))∧w=w':=by
 have hp:=z_k hn;have h1:1≤2 ^ n:=Nat.one_le_two_pow;have e1:wrap64 ((2:Int) ^ n)=((2 ^ n:Nat):Int):=(by rw [wrap64_pow hn];push_cast;rfl);obtain ⟨q,hq⟩:∃ q:Nat,2 ^ n=q:=⟨_,rfl⟩;rw [hq] at hp h1 e1 ⊢;have HQ:=hD hq;clear hq;go_enter func124,ntmps124;go_wp2
 go_ret;exact ⟨rfl,rfl⟩
def bestStep (g:List Int) (b s:Nat):Nat:=if cnt12 b < cnt12 s∧cliqueB g s=true then s else b
def bestTo (g:List Int) (k:Nat):Nat:=(List.range k).foldl (bestStep g) 0
def bestF (g:List Int):Nat:=bestTo g (2 ^ g.length)
theorem bestTo_succ (g:List Int) (k:Nat):bestTo g (k+1)=bestStep g (bestTo g k) k:=by simp [bestTo,List.range_succ]
theorem bestTo_lt (g:List Int):∀ (k N:Nat),k≤N→0 < N→bestTo g k < N
  | 0,N,_,h=>by simpa [bestTo] using h
  | k+1,N,h,h'=>by
    rw [bestTo_succ];unfold bestStep
    have:=bestTo_lt g k N (by omega) h'
    split <;> omega
theorem best_any {w:World} {v:Value} {g:List Int} (hg:Graph g) (hv:Rd w 1 v g.length (icells g)) (hT:TabAt 3 Lib.deBruijn64tab w) (hw3:3 < w.heap.size):Calls prog 82 #[v,.func (.func 83) #[v] #[]] w (IdxPost w (.int .i64 (bestF g))):=by
 obtain ⟨ao,O,X,_⟩:=hv.shape;have hn:=hg.2.1;have hp:=z_k hn;have h1:1≤2 ^ g.length:=Nat.one_le_two_pow;have HT:=hD hT;clear hT;have HG:=hD hg;clear hg;subst X;have HV:=hD hv;clear hv;have J:=hD (show bestF g=bestTo g (2 ^ g.length) from rfl);obtain ⟨N,hN⟩:∃ N:Nat,2 ^ g.length=N:=⟨_,rfl⟩;have HN:=hD hN;rw [hN] at hp h1 J;clear hN;have C:Hid (∀ w1,Calls prog 124 #[.slice ao g.length O] w1 fun e w'=>e = .returned (.int .i64 ((N:Int) - 1))∧w1=w'):=hD (fun w1=>by have:=all_any (w:=w1) (ao:=ao) (c:=O) hn;rwa [HN.out] at this);go_enter func82,ntmps82;go_wp2_with (go_at_call 124;refine (C.out _).mono ?_;rintro e w' ⟨rfl,rfl⟩)
 go_loopw [5,10] (fun b i wr=>∃ k m:Nat,k≤N∧i = .int .i64 k∧b = .int .i64 m∧m=bestTo g k∧m < N∧Keep (fun _=>False) w wr) (fun _ i _=>N - (intOf i).toNat)
 case atStart=>exact ⟨0,0,by omega,rfl,rfl,rfl,by omega,Keep.refl _ _⟩
 case round=>
  obtain ⟨k,m,hk,rfl,rfl,hm,W,A⟩:=hrel;have HM:=hD hm;clear hm;have HK:=hD A;clear A;by_cases U:k < N
  ·have G:=hD (bestTo_succ g k);have Y:=hD (bestTo_lt g (k+1) N (by omega) (by omega));by_cases hc:cnt12 m < cnt12 k
   ·have hd:decide ((cnt12 m:Int) < cnt12 k)=true:=(by simpa using hc);cases hq:cliqueB g k
    focus
     have HE:=hD (show bestTo g (k+1)=m by rw [G.out,← HM.out];simp [bestStep,hq])
    rotate_left
    focus
     have HE:=hD (show bestTo g (k+1)=k by rw [G.out,← HM.out];simp [bestStep,hq,hc])
    rotate_left
    all_goals
     have HQ:=hD hq;clear hq;have HC:=hD hc;clear hc;go_wp2_with (first | (go_at_call 81;refine (u_q _ (by omega) _).mono ?_;rintro e w' ⟨rfl,rfl⟩) | (go_at_call 83;refine (clique_any (s:=k) HG.out (HV.out.keep HK.out n3) (by rw [HN.out];exact U) (fun j hj=>(HK.out.cell (p:=⟨3,j,none⟩) hw3 (fun h=>h)).trans (HT.out j hj)) (Nat.lt_of_lt_of_le hw3 HK.out.size)).mono ?_;rintro e w4 ⟨he,R⟩;rw [HQ.out] at he;subst he;have M:=hD R;clear R))
    ·go_roundw
     case rel=>exact ⟨k+1,m,by omega,by go_num,rfl,HE.out.symm,W,HK.out.trans M.out n3⟩
     case measure=>simp [intOf];omega
    ·go_roundw
     case rel=>exact ⟨k+1,k,by omega,by go_num,rfl,HE.out.symm,U,HK.out.trans M.out n3⟩
     case measure=>simp [intOf];omega
   ·have hd:decide ((cnt12 m:Int) < cnt12 k)=false:=(by simp;omega);have HE:=hD (show bestTo g (k+1)=m by rw [G.out,← HM.out];simp [bestStep,hc]);have HC:=hD hc;clear hc;go_wp2_with (go_at_call 81;refine (u_q _ (by omega) _).mono ?_;rintro e w' ⟨rfl,rfl⟩)
    go_roundw
    case rel=>exact ⟨k+1,m,by omega,by go_num,rfl,HE.out.symm,W,HK.out⟩
    case measure=>simp [intOf];omega
  ·have HE:=hD (show bestF g=m by rw [J.out,HM.out,show k=N by omega]);go_wp2
   go_ret;exact ⟨by rw [HE.out];rfl,HK.out⟩
def cliqueE (g:List Int):Int:=if validB g then 0 else 2
theorem chClique_any {w:World} {v:Value} {g:List Int} (hv:Rd w 1 v g.length (icells g)) (hlen:g.length < 9223372036854775807) (hT:TabAt 3 Lib.deBruijn64tab w) (hw3:3 < w.heap.size):Calls prog 78 #[v] w (IdxPost w (.tuple #[.int .i64 (if validB g then bestF g else 0),.int .i64 (cliqueE g)])):=by
 obtain ⟨ao,O,M,_⟩:=hv.shape;subst M;have HT:=hD hT;clear hT;have HV:=hD hv;clear hv;cases hb:validB g
 ·have HB:=hD hb;clear hb;go_enter func78,ntmps78;go_wp2_with (go_at_call 116;refine (valid_any HV.out hlen).mono ?_;rintro e w1 h;have h:=h.keep;rw [HB.out] at h;obtain ⟨rfl,C⟩:=h;have A:=hD C;clear C)
  go_ret2;exact ⟨by unfold cliqueE;rw [HB.out];rfl,A.out⟩
 ·have HB:=hD hb;clear hb;go_enter func78,ntmps78;go_wp2_with (first | (go_at_call 116;refine (valid_any HV.out hlen).mono ?_;rintro e w1 h;have h:=h.keep;rw [HB.out] at h;obtain ⟨rfl,C⟩:=h;have A:=hD C;clear C) | (go_at_call 82;refine (best_any (v_m.1 HB.out) (HV.out.keep A.out n3) (fun j hj=>(A.out.cell (p:=⟨3,j,none⟩) hw3 (fun h=>h)).trans (HT.out j hj)) (Nat.lt_of_lt_of_le hw3 A.out.size)).mono ?_;rintro e w2 ⟨rfl,G⟩;have J:=hD G;clear G))
  go_ret2;exact ⟨by unfold cliqueE;rw [HB.out];rfl,A.out.trans J.out n3⟩
def baysB (g:List Int):Bool:=validB g && (g.length == 8)
theorem bays_any {w:World} {v:Value} {g:List Int} (hv:Rd w 1 v g.length (icells g)) (hlen:g.length < 9223372036854775807) (hT:TabAt 3 Lib.deBruijn64tab w) (hw3:3 < w.heap.size):Calls prog 54 #[v] w (IdxPost w (.bool (baysB g))):=by
 obtain ⟨ao,J,G,_⟩:=hv.shape;subst G;have HC:=hD (chClique_any hv hlen hT hw3);clear hT hv;cases hb:validB g
 ·have HB:=hD hb;clear hb;go_enter func54,ntmps54;go_wp2_with (go_at_call 78;refine HC.out.mono ?_;rintro e w1 h;unfold cliqueE at h;rw [HB.out] at h;obtain ⟨rfl,A⟩:=h;have C:=hD A;clear A)
  go_ret;exact ⟨by unfold baysB;rw [HB.out];rfl,C.out⟩
 ·have HB:=hD hb;clear hb;have HE:=hD (show baysB g=((g.length:Int) == 8) by unfold baysB;rw [HB.out,Bool.true_and,Bool.eq_iff_iff,beq_iff_eq,beq_iff_eq];omega);go_enter func54,ntmps54;go_wp2_with (go_at_call 78;refine HC.out.mono ?_;rintro e w1 h;unfold cliqueE at h;rw [HB.out] at h;obtain ⟨rfl,A⟩:=h;have C:=hD A;clear A)
  go_ret;exact ⟨by rw [HE.out];rfl,C.out⟩
end Go.Proofs.YthdkamnclbfehaaGreatDoor
