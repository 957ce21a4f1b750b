/- A part of the proof. -/
import Derived.Test.YthdkamnclbfehaaGreatDoorDaysM28
import Derived.Test.YthdkamnclbfehaaGreatDoorDaysM30
set_option linter.all false
set_option maxHeartbeats 20000000
set_option maxRecDepth 100000
namespace Go.Proofs.YthdkamnclbfehaaGreatDoor
open Go.RowKit
theorem runF_err (f:Nat) (S:St) (a:FA):(runF f S a).err≠10:=by
 unfold runF;split
 ·unfold takeF;repeat' split
  all_goals (dsimp only;decide)
 split
 ·unfold blendF;repeat' split
  all_goals (dsimp only;decide)
 split
 ·unfold putF;repeat' split
  all_goals (dsimp only;decide)
 split
 ·unfold touchF;repeat' split
  all_goals (dsimp only;decide)
 split
 ·unfold testF;repeat' split
  all_goals (dsimp only;decide)
 unfold shutF;repeat' split
 all_goals (dsimp only;decide)
theorem doF_err (S:St) (s:ByteArray):(doF runF S s).err≠10:=by
 unfold doF;split
 ·dsimp only;decide
 ·split
  ·split
   ·exact runF_err _ _ _
   ·exact runF_err _ _ _
  ·dsimp only;decide
def bang:ByteArray:=bs [33]
inductive Dayed:St→List ByteArray→List ByteArray→List ByteArray→St→Prop
  | nil (S:St):Dayed S [] [] [] S
  | ok {S S':St} {s:ByteArray} {ls os ds:List ByteArray}:(doF runF S s).err=0→Dayed (doF runF S s).st ls os ds S'→Dayed S (s::ls) ((doF runF S s).out::os) (s::ds) S'
  | bad {S S':St} {s:ByteArray} {ls os ds:List ByteArray}:(doF runF S s).err≠0→Dayed S ls os ds S'→Dayed S (s::ls) (bang::os) ds S'
theorem Dayed.snoc {S S':St} {ls os ds:List ByteArray} (h:Dayed S ls os ds S'):∀ {s:ByteArray},(doF runF S' s).err=0→Dayed S (ls++[s]) (os++[(doF runF S' s).out]) (ds++[s]) (doF runF S' s).st:=by
 induction h with
 | nil S=>intro s e;exact .ok e (.nil _)
 | ok e _ ih=>intro s e2;exact .ok e (ih e2)
 | bad e _ ih=>intro s e2;exact .bad e (ih e2)
theorem Dayed.snoc_bad {S S':St} {ls os ds:List ByteArray} (h:Dayed S ls os ds S'):∀ {s:ByteArray},(doF runF S' s).err≠0→Dayed S (ls++[s]) (os++[bang]) ds S':=by
 induction h with
 | nil S=>intro s e;exact .bad e (.nil _)
 | ok e _ ih=>intro s e2;exact .ok e (ih e2)
 | bad e _ ih=>intro s e2;exact .bad e (ih e2)
theorem Dayed.sub {S S':St} {ls os ds:List ByteArray} (h:Dayed S ls os ds S'):(∀ x∈ds,x∈ls)∧os.length=ls.length∧ds.length≤ls.length:=by
 induction h with
 | nil S=>exact ⟨fun x h=>h,rfl,Nat.le_refl _⟩
 | ok e _ ih=>exact ⟨fun x hx=>by rcases List.mem_cons.1 hx with rfl | hx;exact List.mem_cons_self;exact List.mem_cons_of_mem _ (ih.1 x hx),by simp [ih.2.1],by simp [ih.2.2]⟩
 | bad e _ ih=>exact ⟨fun x hx=>List.mem_cons_of_mem _ (ih.1 x hx),by simp [ih.2.1],by have:=ih.2.2;simp;omega⟩
theorem Dayed.rep {S S':St} {ls os ds:List ByteArray} (h:Dayed S ls os ds S'):Rep runF S ds S':=by
 induction h with
 | nil S=>exact .nil _
 | ok e _ ih=>exact .cons e ih
 | bad e _ ih=>exact ih
structure Of (Q:LOp→Prop) (s:LS):Prop where
  done:∀ o∈s.done,Q o
  wt:∀ t,∀ p∈s.wt t,Q p.1
theorem Of.upd {Q:LOp→Prop} {s:LS} (h:Of Q s) {t:Int} {l:List (LOp × Int)} (hl:∀ p∈l,Q p.1):∀ u,∀ p∈updW s.wt t l u,Q p.1:=fun u p hp=>by
  unfold updW at hp
  by_cases e:u=t
  · rw [if_pos e] at hp;exact hl p hp
  · rw [if_neg e] at hp;exact h.wt u p hp
theorem Of.goOn {Q:LOp→Prop} (hab:∀ t,Q (t,3,0)):∀ (n:Nat) (s:LS) (t:Int),Of Q s→Of Q (goOnS n s t).1:=by
 intro n;induction n with
 | zero=>intro s t h;exact h
 | succ n ih=>
  intro s t h;cases e:s.wt t with
  | nil=>rw [y_e e];exact h
  | cons p rest=>
   obtain ⟨o,a⟩:=p;have hq:=h.wt t (o,a) (by rw [e];exact List.mem_cons_self);by_cases hh:Hdd s o
   ·by_cases hr:Reach s t t
    ·rw [x_x e hh hr];refine ⟨fun x hx=>?_,h.upd (fun p hp=>by cases hp)⟩;rcases List.mem_append.1 hx with hx | hx
     ·exact h.done x hx
     ·simp at hx;rw [hx];exact hab t
    ·rw [y_b e hh hr];exact h
   ·rw [y_g e hh];refine ih _ t ⟨fun x hx=>?_,h.upd (fun p hp=>h.wt t p (by rw [e];exact List.mem_cons_of_mem _ hp))⟩;rcases List.mem_append.1 hx with hx | hx
    ·exact h.done x hx
    ·simp at hx;rw [hx];exact hq
theorem Of.goOnT {Q:LOp→Prop} (hab:∀ t,Q (t,3,0)) {s:LS} (t:Int) (h:Of Q s):Of Q (Go.Proofs.YthdkamnclbfehaaGreatDoor.goOnT s t):=Of.goOn hab _ s t h
theorem Of.retry {Q:LOp→Prop} (hab:∀ t,Q (t,3,0)) {s s':LS} (h:RetryR s s'):Of Q s→Of Q s':=by
 induction h with
 | stop _=>exact id
 | go _ _ _ ih=>exact fun q=>ih (q.goOnT hab _)
theorem Of.enq {Q:LOp→Prop} {s:LS} (h:Of Q s) {o:LOp} (i:Int) (ho:Q o):Of Q (Go.Proofs.YthdkamnclbfehaaGreatDoor.enq s o i):=
  ⟨h.done,h.upd (fun p hp=>by rcases List.mem_append.1 hp with hp | hp;exact h.wt _ p hp;simp at hp;rw [hp];exact ho)⟩
theorem Of.step {Q:LOp→Prop} (hab:∀ t,Q (t,3,0)) {s s':LS} {o:LOp} {i:Int} (h:LStep s o i s') (hs:Of Q s) (ho:Q o):Of Q s':=by
 cases h with
 | gone _=>exact hs
 | wait _ _=>exact hs.enq i ho
 | go _ _ _=>exact (hs.enq i ho).goOnT hab _
 | re _ _ _ hr=>exact ((hs.enq i ho).goOnT hab _).retry hab hr
theorem Of.run {Q:LOp→Prop} (hab:∀ t,Q (t,3,0)) {i:Nat} {s s':LS} {l:List LOp} (h:LRun i s l s'):Of Q s→(∀ o∈l,Q o)→Of Q s':=by
 induction h with
 | nil=>exact fun q _=>q
 | cons h1 _ ih=>exact fun q hl=>ih (Of.step hab h1 q (hl _ List.mem_cons_self)) (fun o ho=>hl o (List.mem_cons_of_mem _ ho))
theorem Of.start (Q:LOp→Prop):Of Q s0L:=⟨fun o h=>(by cases h),fun t p h=>(by cases h)⟩
end Go.Proofs.YthdkamnclbfehaaGreatDoor
namespace Go.Proofs.YthdkamnclbfehaaGreatDoor
open Go.RowKit Tryz
def endS (x:Lot):ByteArray:=if x.closed then bs [58,99,108,111,115,101,100] else bs [58,111,112,101,110]
theorem endS_size (x:Lot):(endS x).size≤7:=by unfold endS;split <;> simp [bs,ByteArray.size]
theorem endS_eq (x:Lot):endS x=bs [58]++isS x:=by unfold endS isS;split <;> exact ByteArray.ext (by simp [bs])
theorem rlot_eq (k:Nat) (x:Lot):((((((((bs [32]++itoaB ((k:Int)+1))++bs [58])++x.spice)++bs [58])++itoaB x.grams)++bs [58])++bayS x)++endS x)=bs [32]++lotS k x:=by
 rw [endS_eq];unfold lotS jbs;exact ByteArray.ext (by apply Array.toList_inj.1;simp [bs,join_two,Lib.join_one,List.append_assoc])
def RLsRel (w:World) (l:List Lot) (gh:Nat) (s3 s11:Value) (wx:World):Prop:=
  ∃ k:Nat,gh=l.length - k∧k≤l.length∧s3 = .string (listN l k)∧s11 = .int .i64 k∧Keep kF w wx
theorem rlots_any {w:World} {vl vc vt vn:Value} {S:St} {m:Nat} (hG:Glob w) (hrl:Rd w 4 vl S.lots.length (lotCells S.lots)) (hI:Inv m S):Calls prog 98 #[.agg #[vl,vc,vt,vn]] w (IdxPost w (.string (listF S.lots))):=by
 obtain ⟨lo,lc,aT,aU,_⟩:=hrl.shape;subst aT;have aS:=hI.l;have aJ:=hD hrl;have HI:=hD hI;have HG:=hD hG;clear hrl hI hG;go_enter func98,ntmps98;go_wp2
 go_loopg [3,11] S.lots.length (fun gh s3 s11 wx=>RLsRel w S.lots gh s3 s11 wx)
 case atStart=>exact ⟨0,rfl,Nat.zero_le _,rfl,rfl,(Keep.refl _ _).alloc _⟩
 case round=>
  obtain ⟨k,rfl,hk,rfl,rfl,aD⟩:=hrel;have HK:=hD aD;clear aD;obtain ⟨ag,U⟩:∃ ag,listN S.lots k=ag:=⟨_,rfl⟩;have ar:=z_s HI.out.lo k hk (by omega);rw [U] at ar;rw [U];have ac:=hD U;clear U;by_cases aE:k < S.lots.length
  ·have aQ:((k:Int) < (S.lots.length:Int))=True:=(by simp;omega);have aG:=aJ.out.keep HK.out n3
   obtain ⟨b,o,aM,C⟩:∃ b o,lo=some ⟨b,o,none⟩∧∀ i,i < 4→wr.cell? ⟨b,o+(k * 4+i),none⟩=(lotCell S.lots[k])[i]?:=by
    rcases aG.2.2 with ⟨h,h'⟩ | ⟨b,o,c,h,_,_,hx⟩
    ·omega
    ·injection h with h1 h2 h3;refine ⟨b,o,h1,fun i hi=>?_⟩;have e:=y_z S.lots k i aE hi;have:∃ u,(lotCell S.lots[k])[i]?=some u:=⟨(lotCell S.lots[k])[i]'(by simp [lotCell];omega),List.getElem?_eq_getElem _⟩;obtain ⟨u,hu⟩:=this;rw [hu];exact hx _ u (e.trans hu)
   subst aM;have Z:=HI.out.lo S.lots[k] (by simp);obtain ⟨A,hA⟩:∃ A,S.lots[k]=A:=⟨_,rfl⟩;have Y:listN S.lots (k+1)=ag++(bs [32]++lotS k A):=(by simp only [listN,ac.out];rw [show S.lots.getD k ⟨bs [],0,0,false⟩=A by rw [← hA];simp [List.getD,List.getElem?_eq_getElem aE]]);rw [hA] at C Z;obtain ⟨sp,gr,O,cl⟩:=A;have c0:=C 0 (by omega);have c1:=C 1 (by omega);have c2:=C 2 (by omega);have c3:=C 3 (by omega);simp [lotCell] at c0 c1 c2 c3;simp only [← Nat.add_assoc] at c1 c2 c3;have az:=hD Z.g;obtain ⟨bay,X⟩:∃ s,bayS ⟨sp,gr,O,cl⟩=s:=⟨_,rfl⟩;obtain ⟨is,ak⟩:∃ s,endS ⟨sp,gr,O,cl⟩=s:=⟨_,rfl⟩;have aL:=x_r ((k:Int)+1) (by omega) (by omega);have aK:=x_r gr Z.g.1 Z.g.2;have au:=bayS_size Z;have av:=endS_size ⟨sp,gr,O,cl⟩;have aw:=Z.s;have aO:=Z.b;simp only at aO aw;have aF:listN S.lots (k+1)=ag++((((((((bs [32]++itoaB ((k:Int)+1))++bs [58])++sp)++bs [58])++itoaB gr)++bs [58])++bay)++is):=(by rw [Y,← X,← ak];congr 1;exact (rlot_eq k _).symm);have an:=hD aF;have ae:=hD X;have a1:=hD ak;rw [X] at au;rw [ak] at av;obtain ⟨I,aq⟩:∃ I,itoaB ((k:Int)+1)=I:=⟨_,rfl⟩;obtain ⟨G,ao⟩:∃ G,itoaB gr=G:=⟨_,rfl⟩;rw [aq] at aL an;rw [ao] at aK an;have aI:=hD aq;have aH:=hD ao;have q1:(9223372036854775807 < 1+I.size)=False:=eq_false (by omega);have q2:(9223372036854775807 < 1+I.size+1)=False:=eq_false (by omega);have q3:(9223372036854775807 < 1+I.size+1+sp.size)=False:=eq_false (by omega);have q4:(9223372036854775807 < 1+I.size+1+sp.size+1)=False:=eq_false (by omega);have q5:(9223372036854775807 < 1+I.size+1+sp.size+1+G.size)=False:=eq_false (by omega);have q6:(9223372036854775807 < 1+I.size+1+sp.size+1+G.size+1)=False:=eq_false (by omega);have q7:(9223372036854775807 < 1+I.size+1+sp.size+1+G.size+1+bay.size)=False:=eq_false (by omega);have q8:(9223372036854775807 < 1+I.size+1+sp.size+1+G.size+1+bay.size+is.size)=False:=eq_false (by omega);have q9:(9223372036854775807 < ag.size+(1+I.size+1+sp.size+1+G.size+1+bay.size+is.size))=False:=eq_false (by omega);clear C hA aG Z Y X ak aF aq ao;have al:=hD (Blk.new wr #[.string sp,.int .i64 gr,.int .i64 O,.bool cl] 174);have am:=hD (HK.out.alloc (.cells #[.string sp,.int .i64 gr,.int .i64 O,.bool cl] 174));go_upto_if 18 with fail
   clear c0 c1 c2 c3;go_cut [6] (fun s6 wx=>s6 = .string bay∧Blk wx wr.heap.size #[.string sp,.int .i64 gr,.int .i64 O,.bool cl] 174∧Keep (fun _=>False) w wx)
   case first=>
    have c2:=al.out.cell 2;simp at c2;by_cases aj:0≤O
    ·have aN:((0:Int)≤O)=True:=eq_true aj;have M:bay=itoaB O:=(by rw [← ae.out];unfold bayS;rw [if_pos (by exact aj)]);have aa:=hD M;clear M;go_wp2_with (go_at_call 96;refine Calls.mono (x_y (HG.out.keep am.out) (by omega) (by omega)) ?_;rintro e w2 ⟨rfl,aC⟩;have a7:=hD aC;clear aC)
     go_meet
     exact ⟨by rw [aa.out],al.out.keep a7.out (fun h=>h),am.out.trans a7.out n3⟩
    ·have aN:((0:Int)≤O)=False:=eq_false aj;have M:bay=bs [45]:=(by rw [← ae.out];unfold bayS;rw [if_neg (by exact aj)]);have aa:=hD M;clear M;go_wp2
     go_meet
     exact ⟨by rw [aa.out];rfl,al.out,am.out⟩
   case rest=>
    obtain ⟨rfl,a8,aB⟩:=hcut;have ad:=hD a8;have a6:=hD aB;clear a8 aB;have c0:=ad.out.cell 0;have c1:=ad.out.cell 1;have c3:=ad.out.cell 3;simp at c0 c1 c3;obtain ⟨wb,ax⟩:∃ wb,wb=wc:=⟨_,rfl⟩;go_upto_if 23 with fail
    go_cut [7] (fun s7 wx=>s7 = .string is∧wb=wx)
    case first=>
     cases aA:cl
     ·subst aA;have M:is=bs [58,111,112,101,110]:=(by rw [← a1.out];rfl);have aa:=hD M;clear M;go_wp2
      go_meet
      exact ⟨by rw [aa.out];rfl,ax⟩
     ·subst aA;have M:is=bs [58,99,108,111,115,101,100]:=(by rw [← a1.out];rfl);have aa:=hD M;clear M;go_wp2
      go_meet
      exact ⟨by rw [aa.out];rfl,ax⟩
    case rest=>
     subst ax;obtain ⟨rfl,rfl⟩:=hcut;have ay:=hD (HG.out.keep a6.out);have ai:Hid (∀ W,Keep kF wb W→(W.cell? ⟨wr.heap.size,0,none⟩=some (.string sp)∧W.cell? ⟨wr.heap.size,1,none⟩=some (.int .i64 gr))):=hD fun W hk=>(by have h1:=(ad.out.keep hk (fun h=>h)).cell 0;have h2:=(ad.out.keep hk (fun h=>h)).cell 1;simp at h1 h2;exact ⟨h1,h2⟩);clear c3;have aV:IntKind.i64.wrap ((k:Int)+1)=(k:Int)+1:=IntWalk.i64_in _ (by omega);go_upto_region 10 with fail
     refine wp_region_noPanic ?_;refine wp_region_held_drew (S:=fun W=>W.cell? ⟨wr.heap.size,0,none⟩=some (.string sp)∧W.cell? ⟨wr.heap.size,1,none⟩=some (.int .i64 gr)) (by kernel_rfl) (ai.out _ (Keep.refl kF wb).drew) fun hHeld=>?_;refine wS 0 ?_;refine wS 1 ?_;refine wS 2 ?_;refine wS 6 ?_;refine wS 7 ?_;refine wS 10 ?_;refine wS 11 ?_;refine wS 15 ?_;refine wS 17 ?_;refine wA 3 fun K hK=>?_;go_simp;refine Calls.mono (x_y (ay.out.keep (show Keep kF wb _ by first | exact kX R.out | exact kW)) (by omega) (by omega)) ?_;rintro e' Wc ⟨rfl,ah⟩;have J:=hD (Keep.trans (show Keep kF wb _ by first | exact kX R.out | exact kW) ah n3);have R:=J;clear J ah;rw [aI.out];(try dsimp only);refine hK.out _ _ ?_ fun hHeld=>?_
     ·((try dsimp only);refine ai.out _ ?_;first | exact kX R.out | exact kW)
     clear hK K;(try simp only [tA]);refine wS 4 ?_;refine wS 5 ?_;refine wS 8 ?_;refine wS 9 ?_;refine wA 12 fun K hK=>?_;go_simp;refine Calls.mono (x_y (ay.out.keep (show Keep kF wb _ by first | exact kX R.out | exact kW)) az.out.1 az.out.2) ?_;rintro e' Wc ⟨rfl,ah⟩;have J:=hD (Keep.trans (show Keep kF wb _ by first | exact kX R.out | exact kW) ah n3);have R:=J;clear J ah;rw [aH.out];(try dsimp only);refine hK.out _ _ ?_ fun hHeld=>?_
     ·((try dsimp only);refine ai.out _ ?_;first | exact kX R.out | exact kW)
     clear hK K;(try simp only [tA]);refine wS 13 ?_;refine wS 14 ?_;refine wS 16 ?_;refine wS 18 ?_;refine wS 19 ?_;refine wA 20 fun K hK=>?_;go_simp;refine hK.out _ _ ?_ fun hHeld=>?_
     ·((try dsimp only);refine ai.out _ ?_;first | exact kX R.out | exact kW)
     clear hK K;(try simp only [tA]);refine wpAnyH_done (by kernel_rfl) ?_ _;refine NoPanic.normal ?_;go_wp2
     go_roundg (S.lots.length - (k+1))
     case measure=>omega
     case rel=>exact ⟨k+1,rfl,by omega,by rw [an.out];rfl,by go_num,a6.out.trans R.out n3⟩
  ·have aP:k=S.lots.length:=(by omega);subst aP;have aQ:((S.lots.length:Int) < (S.lots.length:Int))=False:=(by simp);go_wp2
   go_ret;exact ⟨by rw [← ac.out];rfl,HK.out⟩
def textTo (S:St):Nat→ByteArray
  | 0=>listF S.lots++bs [10]
  | k+1=>textTo S k++(S.notes.getD k ByteArray.empty++bs [10])
theorem joinTail_snoc (sep:List UInt8) (r:List (List UInt8)) (y:List UInt8):Lib.joinTail sep (r++[y])=Lib.joinTail sep r++(sep++y):=by simp [Lib.joinTail]
theorem textTo_eq (S:St):∀ k,k≤S.notes.length→textTo S k=jbs (listF S.lots::S.notes.take k) (bs [10])++bs [10]:=by
 intro k;induction k with
 | zero=>intro _;unfold textTo jbs;exact ByteArray.ext (by apply Array.toList_inj.1;simp [bs,Lib.join_one])
 | succ k ih=>
  intro hk;have e:S.notes.take (k+1)=S.notes.take k++[S.notes.getD k ByteArray.empty]:=(by rw [List.take_add_one,List.getElem?_eq_getElem (by omega)];simp [List.getD,List.getElem?_eq_getElem (show k < S.notes.length by omega)]);show textTo S k++_=_;rw [ih (by omega),e];unfold jbs;rw [List.map_cons,List.map_cons,List.map_append,List.map_cons,List.map_nil,Lib.join_cons,Lib.join_cons,joinTail_snoc];exact ByteArray.ext (by apply Array.toList_inj.1;simp [bs,List.append_assoc])
theorem textTo_all (S:St):textTo S S.notes.length=textF S:=by rw [textTo_eq S _ (Nat.le_refl _),List.take_length];rfl
theorem textTo_size {m:Nat} {S:St} (h:Inv m S) (hm:m≤100000000):∀ k,k≤S.notes.length→(textTo S k).size≤2500+101 * k:=by
 intro k;have hl:=z_s h.lo S.lots.length (Nat.le_refl _) (by have:=h.l;omega);have A:=h.l;induction k with
 | zero=>intro _;unfold textTo listF;rw [ByteArray.size_append,show (bs [10]).size=1 from rfl];omega
 | succ k ih=>
  intro hk;have h1:=ih (by omega);have h2:=h.no (S.notes.getD k ByteArray.empty) (by simp [List.getD,List.getElem?_eq_getElem (show k < S.notes.length by omega)]);show (textTo S k++(S.notes.getD k ByteArray.empty++bs [10])).size≤_;rw [ByteArray.size_append,ByteArray.size_append,show (bs [10]).size=1 from rfl];omega
theorem rtext_any {w:World} {vl vc vt vn:Value} {S:St} {m:Nat} (hG:Glob w) (hrl:Rd w 4 vl S.lots.length (lotCells S.lots)) (hrn:Rd w 1 vn S.notes.length (strCells S.notes)) (hI:Inv m S) (hm:m≤100000000):Calls prog 68 #[.agg #[vl,vc,vt,vn]] w (IdxPost w (.string (textF S))):=by
 obtain ⟨no,nc,ak,al,_⟩:=hrn.shape;subst ak;have am:=hI.n;have hl:=z_s hI.lo S.lots.length (Nat.le_refl _) (by have:=hI.l;omega);have ah:=hI.l;have aa:=hD hrn;have HI:=hD hI;have M:Hid (∀ W,Keep kF w W→Calls prog 98 #[.agg #[vl,vc,vt,.slice no S.notes.length nc]] W (IdxPost W (.string (listF S.lots)))):=hD fun W hk=>rlots_any (hG.keep hk) (hrl.keep hk n3) hI;have HZ:=hD (textTo_size hI hm);have C:=hD (textTo_all S);have O:=hD (show textTo S 0=listF S.lots++bs [10] from rfl);have ac:=hD (fun k=>show textTo S (k+1)=textTo S k++(S.notes.getD k ByteArray.empty++bs [10]) from rfl);have ai:(listF S.lots).size≤2424:=(by unfold listF;omega);obtain ⟨lf,U⟩:∃ lf,listF S.lots=lf:=⟨_,rfl⟩;rw [U] at M O ai;have an:(9223372036854775807 < lf.size+1)=False:=eq_false (by omega);clear hrn hrl hI hG hl U;go_enter func68,ntmps68;go_wp2_with (go_at_call 98;refine (M.out _ ((Keep.refl _ _).alloc _)).mono ?_;rintro e w2 ⟨rfl,J⟩;have Z:=hD (((Keep.refl kF w).alloc (.cells #[vl,vc,vt,.slice no S.notes.length nc] 74)).trans J n3);have c3:=((Blk.new w #[vl,vc,vt,.slice no S.notes.length nc] 74).keep J (fun h=>h)).cell 3;simp at c3;clear J)
 clear c3;go_loopg [3,12] S.notes.length (fun gh s3 s12 wx=>∃ k:Nat,gh=S.notes.length - k∧k≤S.notes.length∧s3 = .string (textTo S k)∧s12 = .int .i64 (k:Nat)∧Keep (fun _=>False) w wx)
 case atStart=>exact ⟨0,rfl,Nat.zero_le _,by rw [O.out];rfl,rfl,Z.out⟩
 case round=>
  obtain ⟨k,rfl,hk,rfl,rfl,R⟩:=hrel;have HK:=hD R;clear R;have hz:=HZ.out k hk;by_cases X:k < S.notes.length
  ·have ae:((k:Int) < (S.notes.length:Int))=True:=(by simp;omega);have Y:=aa.out.keep HK.out n3
   obtain ⟨b,o,ad,A⟩:∃ b o,no=some ⟨b,o,none⟩∧wr.cell? ⟨b,o+k,none⟩=some (.string (S.notes.getD k ByteArray.empty)):=by
    rcases Y.2.2 with ⟨h,h'⟩ | ⟨b,o,c,h,_,_,hx⟩
    ·omega
    ·injection h with h1 h2 h3;exact ⟨b,o,h1,hx _ _ (y_c S.notes k X)⟩
   subst ad;have aj:=HI.out.no (S.notes.getD k ByteArray.empty) (by simp [List.getD,List.getElem?_eq_getElem X]);have G:=hD (ac.out k);obtain ⟨x,hx⟩:∃ x,S.notes.getD k ByteArray.empty=x:=⟨_,rfl⟩;obtain ⟨t,ht⟩:∃ t,textTo S k=t:=⟨_,rfl⟩;rw [hx] at A aj G;rw [ht] at G hz ⊢;have h1:(9223372036854775807 < x.size+1)=False:=eq_false (by omega);have h2:(9223372036854775807 < t.size+(x.size+1))=False:=eq_false (by omega);clear hx ht Y;go_wp2
   go_roundg (S.notes.length - (k+1))
   case measure=>omega
   case rel=>exact ⟨k+1,rfl,by omega,by rw [G.out];rfl,by go_num,HK.out⟩
  ·have ag:k=S.notes.length:=(by omega);subst ag;have ae:((S.notes.length:Int) < (S.notes.length:Int))=False:=(by simp);go_wp2
   go_ret;exact ⟨by rw [← C.out];rfl,HK.out⟩
def LsRel (w:World) (l:List Lot) (gh:Nat) (s3 s13:Value) (wx:World):Prop:=
  ∃ k:Nat,gh=l.length - k∧k≤l.length∧s3 = .string (listN l k)∧s13 = .int .i64 k∧Keep kF w wx
theorem list_any {w:World} {V:StV} {S:St} {m:Nat} (hG:Glob w) (h:StAt w V S) (hI:Inv m S):Calls prog 93 #[.pointer (some ⟨V.b,0,none⟩)] w (IdxPost w (.string (listF S.lots))):=by
 obtain ⟨lo,lc,ar,aN,_⟩:=h.rl.shape;have c1:=h.blk.cell 1;simp [StV.cells] at c1;rw [ar] at c1;have aq:=h.rl;rw [ar] at aq;have aM:=hI.l;have aF:=hD aq;have HI:=hD hI;have HG:=hD hG;clear h ar aq hI hG;go_enter func93,ntmps93;go_wp2
 go_loopg [3,13] S.lots.length (fun gh s3 s13 wx=>LsRel w S.lots gh s3 s13 wx)
 case atStart=>exact ⟨0,rfl,Nat.zero_le _,rfl,rfl,Keep.refl _ _⟩
 case round=>
  obtain ⟨k,rfl,hk,rfl,rfl,aA⟩:=hrel;have HK:=hD aA;clear aA;obtain ⟨ah,U⟩:∃ ah,listN S.lots k=ah:=⟨_,rfl⟩;have al:=z_s HI.out.lo k hk (by omega);rw [U] at al;rw [U];have ac:=hD U;clear U;by_cases aB:k < S.lots.length
  ·have aK:((k:Int) < (S.lots.length:Int))=True:=(by simp;omega);have aC:=aF.out.keep HK.out n3
   obtain ⟨b,o,aG,C⟩:∃ b o,lo=some ⟨b,o,none⟩∧∀ i,i < 4→wr.cell? ⟨b,o+(k * 4+i),none⟩=(lotCell S.lots[k])[i]?:=by
    rcases aC.2.2 with ⟨h,h'⟩ | ⟨b,o,c,h,_,_,hx⟩
    ·omega
    ·injection h with h1 h2 h3;refine ⟨b,o,h1,fun i hi=>?_⟩;have e:=y_z S.lots k i aB hi;have:∃ u,(lotCell S.lots[k])[i]?=some u:=⟨(lotCell S.lots[k])[i]'(by simp [lotCell];omega),List.getElem?_eq_getElem _⟩;obtain ⟨u,hu⟩:=this;rw [hu];exact hx _ u (e.trans hu)
   subst aG;have ag:=HI.out.lo S.lots[k] (by simp);obtain ⟨A,hA⟩:∃ A,S.lots[k]=A:=⟨_,rfl⟩;have O:listN S.lots (k+1)=ah++(bs [32]++lotS k A):=(by simp only [listN,ac.out];rw [show S.lots.getD k ⟨bs [],0,0,false⟩=A by rw [← hA];simp [List.getD,List.getElem?_eq_getElem aB]]);rw [hA] at C ag;obtain ⟨sp,gr,R,cl⟩:=A;have c0:=C 0 (by omega);have c1:=C 1 (by omega);have c2:=C 2 (by omega);have c3:=C 3 (by omega);simp [lotCell] at c0 c1 c2 c3;simp only [← Nat.add_assoc] at c1 c2 c3;have aw:=hD ag.g;obtain ⟨bay,Z⟩:∃ s,bayS ⟨sp,gr,R,cl⟩=s:=⟨_,rfl⟩;obtain ⟨is,am⟩:∃ s,isS ⟨sp,gr,R,cl⟩=s:=⟨_,rfl⟩;obtain ⟨jb,ao⟩:∃ s,lotS k ⟨sp,gr,R,cl⟩=s:=⟨_,rfl⟩;have aL:=lotS_size ag (i:=k) (by omega);have aI:=ag.b;simp only at aI;rw [ao] at aL O;have an:jbs [itoaB ((k:Int)+1),sp,itoaB gr,bay,is] (bs [58])=jb:=(by rw [← ao,← Z,← am];rfl);have HJ:=hD an;have aD:Hid ((jbs [itoaB ((k:Int)+1),sp,itoaB gr,bay,is] (bs [58])).size≤140737488355328):=hD (by rw [an];omega);have aE:=hD O;have ae:=hD Z;have ax:=hD am;have aO:(9223372036854775807 < 1+jb.size)=False:=eq_false (by omega);have aP:(9223372036854775807 < ah.size+(1+jb.size))=False:=eq_false (by omega);clear C hA aC ag an ao O Z am;have aj:=hD (Blk.new wr #[.string sp,.int .i64 gr,.int .i64 R,.bool cl] 214);have ak:=hD (HK.out.alloc (.cells #[.string sp,.int .i64 gr,.int .i64 R,.bool cl] 214));go_upto_if 20 with fail
   clear c0 c1 c2 c3;go_cut [6] (fun s6 wx=>s6 = .string bay∧Blk wx wr.heap.size #[.string sp,.int .i64 gr,.int .i64 R,.bool cl] 214∧Keep (fun _=>False) w wx)
   case first=>
    have c2:=aj.out.cell 2;simp at c2;by_cases ai:0≤R
    ·have aH:((0:Int)≤R)=True:=eq_true ai;have M:bay=itoaB R:=(by rw [← ae.out];unfold bayS;rw [if_pos (by exact ai)]);have Y:=hD M;clear M;go_wp2_with (go_at_call 96;refine Calls.mono (x_y (HG.out.keep ak.out) (by omega) (by omega)) ?_;rintro e w2 ⟨rfl,a8⟩;have az:=hD a8;clear a8)
     go_meet
     exact ⟨by rw [Y.out],aj.out.keep az.out (fun h=>h),ak.out.trans az.out n3⟩
    ·have aH:((0:Int)≤R)=False:=eq_false ai;have M:bay=bs [45]:=(by rw [← ae.out];unfold bayS;rw [if_neg (by exact ai)]);have Y:=hD M;clear M;go_wp2
     go_meet
     exact ⟨by rw [Y.out];rfl,aj.out,ak.out⟩
   case rest=>
    obtain ⟨rfl,a1,a7⟩:=hcut;have ad:=hD a1;have ay:=hD a7;clear a1 a7;have c0:=ad.out.cell 0;have c1:=ad.out.cell 1;have c3:=ad.out.cell 3;simp at c0 c1 c3;obtain ⟨wb,au⟩:∃ wb,wb=wc:=⟨_,rfl⟩;go_upto_if 25 with fail
    go_cut [7] (fun s7 wx=>s7 = .string is∧wb=wx)
    case first=>
     cases a6:cl
     ·subst a6;have M:is=bs [111,112,101,110]:=(by rw [← ax.out];rfl);have Y:=hD M;clear M;go_wp2
      go_meet
      exact ⟨by rw [Y.out];rfl,au⟩
     ·subst a6;have M:is=bs [99,108,111,115,101,100]:=(by rw [← ax.out];rfl);have Y:=hD M;clear M;go_wp2
      go_meet
      exact ⟨by rw [Y.out];rfl,au⟩
    case rest=>
     subst au;obtain ⟨rfl,rfl⟩:=hcut;have av:=hD (HG.out.keep ay.out);have aa:Hid (∀ W,Keep kF wb W→(W.cell? ⟨wr.heap.size,0,none⟩=some (.string sp)∧W.cell? ⟨wr.heap.size,1,none⟩=some (.int .i64 gr))):=hD fun W hk=>(by have h1:=(ad.out.keep hk (fun h=>h)).cell 0;have h2:=(ad.out.keep hk (fun h=>h)).cell 1;simp at h1 h2;exact ⟨h1,h2⟩);clear c3;have aQ:IntKind.i64.wrap ((k:Int)+1)=(k:Int)+1:=IntWalk.i64_in _ (by omega);go_upto_region 10 with fail
     refine wp_region_noPanic ?_;refine wp_region_held_drew (S:=fun W=>W.cell? ⟨wr.heap.size,0,none⟩=some (.string sp)∧W.cell? ⟨wr.heap.size,1,none⟩=some (.int .i64 gr)) (by kernel_rfl) (aa.out _ (Keep.refl kF wb).drew) fun hHeld=>?_;refine wS 0 ?_;refine wS 1 ?_;refine wS 2 ?_;refine wS 4 ?_;refine wS 5 ?_;refine wS 6 ?_;refine wS 7 ?_;refine wS 9 ?_;refine wS 10 ?_;refine wA 3 fun K hK=>?_;go_simp;refine Calls.mono (x_y (av.out.keep (show Keep kF wb _ by first | exact kX J.out | exact kW)) (by omega) (by omega)) ?_;rintro e' Wc ⟨rfl,X⟩;have G:=hD (Keep.trans (show Keep kF wb _ by first | exact kX J.out | exact kW) X n3);have J:=G;clear G X;(try dsimp only);refine hK.out _ _ ?_ fun hHeld=>?_
     ·((try dsimp only);refine aa.out _ ?_;first | exact kX J.out | exact kW)
     clear hK K;(try simp only [tA]);refine wA 8 fun K hK=>?_;go_simp;refine Calls.mono (x_y (av.out.keep (show Keep kF wb _ by first | exact kX J.out | exact kW)) aw.out.1 aw.out.2) ?_;rintro e' Wc ⟨rfl,X⟩;have G:=hD (Keep.trans (show Keep kF wb _ by first | exact kX J.out | exact kW) X n3);have J:=G;clear G X;(try dsimp only);refine hK.out _ _ ?_ fun hHeld=>?_
     ·((try dsimp only);refine aa.out _ ?_;first | exact kX J.out | exact kW)
     clear hK K;(try simp only [tA]);refine wA 11 fun K hK=>?_;go_simp;refine hK.out _ _ ?_ fun hHeld=>?_
     ·((try dsimp only);refine aa.out _ ?_;first | exact kX J.out | exact kW)
     clear hK K;(try simp only [tA]);refine wA 12 fun K hK=>?_;go_simp;refine Calls.mono (join_row (xs:=[itoaB ((k:Int)+1),sp,itoaB gr,bay,is]) (ownsRow_one (base:=0) (Blk.new _ _ 9) (Nat.zero_le _) rfl (by unfold maxLen;omega)) (by simp) aD.out) ?_;rintro e' Wj ⟨rfl,X⟩;have G:=hD (Keep.trans (show Keep kF wb _ by first | exact kX J.out | exact kW) X n3);have J:=G;clear G X;rw [show jbs [itoaB ((k:Int)+1),sp,itoaB gr,bay,is] ⟨#[58]⟩=jb from HJ.out];(try dsimp only);refine hK.out _ _ ?_ fun hHeld=>?_
     ·((try dsimp only);refine aa.out _ ?_;first | exact kX J.out | exact kW)
     clear hK K;(try simp only [tA]);refine wS 13 ?_;refine wS 14 ?_;refine wA 15 fun K hK=>?_;go_simp;refine hK.out _ _ ?_ fun hHeld=>?_
     ·((try dsimp only);refine aa.out _ ?_;first | exact kX J.out | exact kW)
     clear hK K;(try simp only [tA]);refine wpAnyH_done (by kernel_rfl) ?_ _;refine NoPanic.normal ?_;go_wp2
     go_roundg (S.lots.length - (k+1))
     case measure=>omega
     case rel=>exact ⟨k+1,rfl,by omega,by rw [aE.out];rfl,by go_num,ay.out.trans J.out n3⟩
  ·have aJ:k=S.lots.length:=(by omega);subst aJ;have aK:((S.lots.length:Int) < (S.lots.length:Int))=False:=(by simp);go_wp2
   go_ret;exact ⟨by rw [← ac.out];rfl,HK.out⟩
theorem text_any {w:World} {V:StV} {S:St} {m:Nat} (hG:Glob w) (h:StAt w V S) (hI:Inv m S) (hm:m≤100000000):Calls prog 63 #[.pointer (some ⟨V.b,0,none⟩)] w (IdxPost w (.string (textF S))):=by
 obtain ⟨no,nc,U,ah,_⟩:=h.rn.shape;have X:=hD h;have G:Hid (∀ W,Keep kF w W→W.cell? ⟨V.b,4,none⟩=some (.slice no S.notes.length nc)):=hD fun W hk=>(by have:=(X.out.keep hk n3).blk.cell 4;simp [StV.cells] at this;rw [U] at this;exact this);have R:=h.rn;rw [U] at R;have ad:=hD R;have ai:=hI.n;have HI:=hD hI;have Y:=hD hG;obtain ⟨lf,O⟩:∃ lf,listF S.lots=lf:=⟨_,rfl⟩;have aa:=hD O;obtain ⟨jb,J⟩:∃ jb,jbs (lf::S.notes) (bs [10])=jb:=⟨_,rfl⟩;have ae:=textF_size hI hm;rw [O,J] at ae;have HJ:=hD J;have Z:Hid ((jbs (lf::S.notes) (bs [10])).size≤140737488355328):=hD (by rw [J];omega);have aj:(9223372036854775807 < jb.size+1)=False:=eq_false (by omega);have HF:=hD (show textF S=jb++bs [10] by unfold textF;rw [O,J]);clear h U R hI hG O J;obtain ⟨wb,ag⟩:∃ wb,w=wb:=⟨_,rfl⟩;subst ag;rename World=>wb;go_enter func63,ntmps63;go_wp2
 refine wp_region_noPanic ?_;refine wp_region_held_drew (S:=fun W=>W.cell? ⟨V.b,4,none⟩=some (.slice no S.notes.length nc)) (by kernel_rfl) (G.out _ (Keep.refl kF wb).drew) fun hHeld=>?_;refine wS 0 ?_;refine wS 3 ?_;refine wS 4 ?_;refine wS 5 ?_;refine wS 6 ?_;refine wA 1 fun K hK=>?_;go_simp;refine Calls.mono (list_any (Y.out.keep (show Keep kF wb _ by first | exact kX A.out | exact kW)) (X.out.keep (show Keep kF wb _ by first | exact kX A.out | exact kW) n3) HI.out) ?_;rintro e' Wc ⟨rfl,M⟩;have C:=hD (Keep.trans (show Keep kF wb _ by first | exact kX A.out | exact kW) M n3);have A:=C;clear C M;rw [aa.out];(try dsimp only);refine hK.out _ _ ?_ fun hHeld=>?_
 ·((try dsimp only);refine G.out _ ?_;first | exact kX A.out | exact kW)
 clear hK K;(try simp only [tA]);refine wA 2 fun K hK=>?_;go_simp;refine hK.out _ _ ?_ fun hHeld=>?_
 ·((try dsimp only);refine G.out _ ?_;first | exact kX A.out | exact kW)
 clear hK K;(try simp only [tA]);refine wB 7 fun K hK=>?_;refine x_q (base:=wb.heap.size) (.tmp 5) (.tmp 9) 44 44 rfl 9 (.string ⟨#[]⟩) 1 16 underlying44 y_t rfl (n:=1) (xs:=strCells [lf]) (ownsRow_one (Blk.new Wc #[.string lf] 9) A.out.size rfl (by unfold maxLen;omega)) rfl (m:=S.notes.length) (news:=strCells S.notes) ((ad.out.keep (A.out.alloc _) n3).src underlying44) rfl (by unfold maxLen;omega) (by omega) (by have:=A.out.size;first | exact this | (simp;omega)) (fun v' w8 happ=>?_);have ac:Hid (w8.ownsRow wb.heap.size 9 1 v' (1+S.notes.length) (strCells (lf::S.notes))):=hD happ.own;have C:=hD (Keep.trans (show Keep kF wb _ by first | exact kX A.out | exact kW) happ.keep (fun k hk e=>by have e2:Wc.heap.size=k:=Option.some.inj e;have:=A.out.size;omega));have A:=C;clear C happ;(try dsimp only);refine hK.out _ _ ?_ fun hHeld=>?_
 ·((try dsimp only);refine G.out _ ?_;first | exact kX A.out | exact kW)
 clear hK K;(try simp only [tA]);refine wA 8 fun K hK=>?_;go_simp;refine Calls.mono (join_row ac.out (by simp;omega) Z.out) ?_;rintro e' Wj ⟨rfl,M⟩;have C:=hD (Keep.trans (show Keep kF wb _ by first | exact kX A.out | exact kW) M n3);have A:=C;clear C M;rw [show jbs (lf::S.notes) ⟨#[10]⟩=jb from HJ.out];(try dsimp only);refine hK.out _ _ ?_ fun hHeld=>?_
 ·((try dsimp only);refine G.out _ ?_;first | exact kX A.out | exact kW)
 clear hK K;(try simp only [tA]);refine wS 9 ?_;refine wA 10 fun K hK=>?_;go_simp;refine hK.out _ _ ?_ fun hHeld=>?_
 ·((try dsimp only);refine G.out _ ?_;first | exact kX A.out | exact kW)
 clear hK K;(try simp only [tA]);refine wpAnyH_done (by kernel_rfl) ?_ _;refine NoPanic.normal ?_;go_wp2
 go_ret;exact ⟨by rw [HF.out];rfl,A.out⟩
theorem state_any {base:Nat} {w:World} {H:HV} {D:Dsk} {S:St} {ls:List ByteArray} {lost:Bool} {m:Nat} (hG:Glob w) (h:HouseAt base w H D S ls lost) (hI:Inv m S) (hm:m≤100000000):Calls prog 30 #[.pointer (some ⟨H.h,0,none⟩)] w (IdxPost w (.string (textF S))):=by
 have c1:=h.blk.cell 1;simp at c1;have HH:=hD h;have HT:=hD (text_any hG h.st hI hm);clear h hI hG;go_enter func30,ntmps30
 go_wp2_with (first
   | (go_at_call 52;refine (y_d HH.out).mono ?_;rintro e w' ⟨rfl,rfl⟩)
   | (go_at_call 63;refine Calls.mono HT.out ?_;rintro e w' ⟨rfl,hk⟩;have HK:=hD hk;clear hk))
 go_ret;exact ⟨rfl,HK.out⟩
end Go.Proofs.YthdkamnclbfehaaGreatDoor
