/- A part of the proof. -/
import Derived.Test.YthdkamnclbfehaaGreatDoorDaysM37
import Derived.Test.YthdkamnclbfehaaGreatDoorDaysM38
set_option linter.all false
set_option maxHeartbeats 20000000
set_option maxRecDepth 100000
namespace Go.Proofs.YthdkamnclbfehaaGreatDoor
open Go.RowKit Tryz
theorem calmN_open {n:Nat} {g:List Int} (hg:baysB g=true):openF runF (newD n) g=⟨0,gN n [],S0 g,[]⟩:=by
 have hl:openLoop runF ((newD n).bytes.length+1) (newD n).bytes (S0 g) [] 0=(S0 g,[],0):=u_c (by simp [newD]) (by rfl);unfold openF;rw [hg,if_pos rfl,if_neg (by simp [newD]),hl];unfold openEnd;rw [if_neg (by simp [newD])];simp [syncF,onF,newD,gN,cat]
theorem baysB_take {g:List Int}:baysB (g.take 10)=baysB g:=by
 by_cases h:g.length≤10
 ·rw [List.take_of_length_le h]
 ·have h1:baysB g=false:=(by unfold baysB;simp;omega);have h2:baysB (g.take 10)=false:=(by unfold baysB;simp;omega);rw [h1,h2]
theorem baysB_all {g:List Int} (h:baysB g=true):g.take 10=g:=by
 have:=u_v h;exact List.take_of_length_le (by omega)
theorem RRows.low {base b:Nat} {w:World} {vl vc vt vn ln:Value} {S:St} {ls:List ByteArray} (h:RRows b w vl vc vt vn ln S ls) (hb:base≤b):RRows base w vl vc vt vn ln S ls:=
  ⟨x_i h.l hb,x_i h.c hb,x_i h.t hb,x_i h.n hb,x_i h.lr hb,h.sep⟩
theorem Duo.start {w w6 w7 w8:World} {n:Nat} {H:HV} {x hb:Nat} {u8 gv vl vc vt vn ln:Value} {g:List Int} (h1:HouseAt w.heap.size w8 H (gN n []) (S0 g) [] false) (hl7:∀ k,H.tp k→k < w7.heap.size) (hf7:∀ k,H.V.fp k→k < w7.heap.size) (hf6:∀ k,H.V.fp k→w6.heap.size≤k) (h6:w6.heap.size≤H.h) (hv6:∀ k,H.vl.ownBlock=some k→w6.heap.size≤k) (hdx:H.d≠x) (hvx:H.v.ownBlock≠some x) (hx6:x < w6.heap.size) (hw6:w.heap.size≤w6.heap.size) (h67:w6.heap.size≤w7.heap.size) (hd8:RDiskAt w.heap.size w8 x (gN n []) u8) (hf8:u8.ownBlock=none∨∃ k,u8.ownBlock=some k∧w7.heap.size≤k) (hblk:Blk w8 hb #[.pointer (some ⟨x,0,none⟩),gv,vl,vc,vt,vn,ln,.bool false] 76) (hrows:RRows w7.heap.size w8 vl vc vt vn ln (S0 g) []) (hge:w7.heap.size≤hb) (hg:Rd w8 1 gv g.length (icells g)) (hgl:∀ k,gv.ownBlock=some k→k < w.heap.size) (hk:Keep kF w w8):Duo w n H ⟨hb,x,u8,gv,vl,vc,vt,vn,ln⟩ (S0 g) [] w8:=by
 have A:∀ k,RHV.fp ⟨hb,x,u8,gv,vl,vc,vt,vn,ln⟩ k→w7.heap.size≤k:=fun k hk=>by
  rcases hk with e | e | e | e | e
  ·exact (x_d hrows.l k e).1
  ·exact (x_d hrows.c k e).1
  ·exact (x_d hrows.t k e).1
  ·exact (x_d hrows.n k e).1
  ·exact (x_d hrows.lr k e).1
 have hu:∀ k,u8.ownBlock=some k→w7.heap.size≤k:=fun k e=>by
  rcases hf8 with q | ⟨i,q,h⟩
  ·rw [q] at e;cases e
  ·rw [q] at e;have:i=k:=Option.some.inj e;omega
 refine ⟨h1,⟨hblk,hd8,hrows.low (by omega),by show _≤hb;omega,hg,hgl⟩,fun k e=>by have:=hf6 k e;omega,fun k hk=>⟨fun e=>?_,fun e=>?_⟩,fun k hk e=>?_,hk⟩
 ·have G:=hl7 k hk;rcases e with e | e | e
  ·have e':k=hb:=e;omega
  ·have e':k=x:=e;rcases hk with q | q | q | q
   ·omega
   ·exact hdx (q.symm.trans e')
   ·exact hvx (e' ▸ q)
   ·have:=hv6 k q;omega
  ·have:=hu k e;omega
 ·have:=A k e;have:=hl7 k hk;omega
 ·have h7:=hf7 k e;have C:=hf6 k e;rcases hk with q | q | q
  ·have q':k=hb:=q;omega
  ·have q':k=x:=q;omega
  ·have:=hu k q;omega
def DayR (S:St) (l:List CallR) (ee:Int) (os ds:List ByteArray) (S':St):Prop:=
  (dayBad l=true∧ee=2∧os=[]∧ds=[]∧S'=S)∨(dayBad l=false∧ee=0∧∃ s',LRun 0 s0L (dayF l).h s'∧Dayed S (linesOf s'.done (dayF l).all) os ds S')
theorem DayR.det {S S1 S2:St} {l:List CallR} {e1 e2:Int} {o1 o2 d1 d2:List ByteArray} (h1:DayR S l e1 o1 d1 S1) (h2:DayR S l e2 o2 d2 S2):e1=e2∧o1=o2∧d1=d2∧S1=S2:=by
 rcases h1 with ⟨b1,rfl,rfl,rfl,rfl⟩ | ⟨b1,rfl,s1,r1,y1⟩
 ·rcases h2 with ⟨b2,rfl,rfl,rfl,rfl⟩ | ⟨b2,_⟩
  ·exact ⟨rfl,rfl,rfl,rfl⟩
  ·rw [b1] at b2;cases b2
 ·rcases h2 with ⟨b2,_⟩ | ⟨b2,rfl,s2,r2,y2⟩
  ·rw [b1] at b2;cases b2
  ·have e:=lock_one r1 r2;subst e;obtain ⟨a,b,c⟩:=y1.det y2;exact ⟨rfl,a,b,c⟩
theorem DayR.take {S S':St} {l:List CallR} {e:Int} {os ds:List ByteArray} (h:DayR S (l.take 14) e os ds S'):DayR S l e os ds S':=by
 by_cases hl:l.length≤14
 ·rwa [List.take_of_length_le hl] at h
 ·have b1:dayBad l=true:=(by unfold dayBad;rw [decide_eq_true (show 12 < l.length by omega)];rfl);have b2:dayBad (l.take 14)=true:=(by unfold dayBad;rw [decide_eq_true (show 12 < (l.take 14).length by rw [List.length_take];omega)];rfl);rcases h with ⟨_,h⟩ | ⟨h,_⟩
  ·exact .inl ⟨b1,h⟩
  ·rw [b2] at h;cases h
theorem DayR.len {S S':St} {l:List CallR} {e:Int} {os ds:List ByteArray} (h:DayR S l e os ds S'):os.length≤36∧ds.length≤36:=by
 rcases h with ⟨_,_,rfl,rfl,_⟩ | ⟨b,_,s',r,y⟩
 ·exact ⟨Nat.zero_le _,Nat.zero_le _⟩
 ·have h1:=day_lines b r;have h2:=y.sub;omega
theorem DayR.rep {S S':St} {l:List CallR} {e:Int} {os ds:List ByteArray} (h:DayR S l e os ds S'):Rep runF S ds S':=by
 rcases h with ⟨_,_,_,rfl,rfl⟩ | ⟨_,_,s',_,y⟩
 ·exact .nil _
 ·exact y.rep
def PDayPost (base n:Nat) (w:World) (H:HV) (S:St) (ls:List ByteArray) (l:List CallR) (e:Ending) (w':World):Prop:=
  ∃ H' ee os ds S' ao cap,DayR S l ee os ds S'∧e = .returned (.tuple #[.slice ao os.length cap,.int .i64 ee])∧HouseAt base w' H' (gN n (ls++ds)) S' (ls++ds) false∧HChg w H H' w'∧
    w'.ownsRow w.heap.size 9 1 (.slice ao os.length cap) os.length (strCells os)
def QDayPost (base n:Nat) (w:World) (H:RHV) (S:St) (ls:List ByteArray) (l:List CallR) (e:Ending) (w':World):Prop:=
  ∃ H' ee os ds S' ao cap,DayR S l ee os ds S'∧e = .returned (.tuple #[.slice ao os.length cap,.int .i64 ee])∧RHouseAt base w' H' (gN n (ls++ds)) S' (ls++ds)∧RHChg w H H' w'∧
    w'.ownsRow w.heap.size 9 1 (.slice ao os.length cap) os.length (strCells os)
theorem pday_any {base n:Nat} {w:World} {H:HV} {S:St} {g:List Int} {ls:List ByteArray} {l:List CallR} {v:Value} (hG:GW base w) (h:HouseAt base w H (gN n ls) S ls false) (hg:g.length=8) (hrep:Rep runF (S0 g) ls S) (hls:ls.length≤40) (hr:Rd w 2 v l.length (callsC l)) (hl:l.length≤14) (hsz:∀ c∈l,c.2.size≤9223372036854775807) (hn:16000≤n) (hn1:n≤1000000):Calls prog 36 #[.pointer (some ⟨H.h,0,none⟩),v] w (PDayPost base n w H S ls l):=by
 have hc:=y_r hrep;refine Calls.mono (dayW_any hG h hg hrep (by omega) hr hl hsz hn1 (fun hb s' hs _=>by have:=day_lines hb hs;omega)) ?_;rintro e w' (⟨hb,rfl,hk⟩ | ⟨hb,s',H',S',os,ds,vo,A,U,rfl,O,J,M,C,R⟩)
 ·exact ⟨H,2,[],[],S,none,0,.inl ⟨hb,rfl,rfl,rfl,rfl⟩,rfl,by rw [List.append_nil];exact h.idle hk,HChg.idle H hk,World.ownsRow_nil _ _ _ _⟩
 ·obtain ⟨ao,G,rfl,_⟩:=x_a C;exact ⟨H',0,os,ds,S',ao,G,.inr ⟨hb,rfl,s',A,O⟩,rfl,J,M,C⟩
theorem qday_any {base n:Nat} {w:World} {Q:RHV} {S:St} {g:List Int} {ls:List ByteArray} {l:List CallR} {v:Value} (hG:GW base w) (h:RHouseAt base w Q (gN n ls) S ls) (hg:g.length=8) (hrep:Rep runF (S0 g) ls S) (hls:ls.length≤40) (hr:Rd w 2 v l.length (callsC l)) (hsz:∀ c∈l,c.2.size≤1048576) (hn:16000≤n):Calls prog 41 #[.pointer (some ⟨Q.h,0,none⟩),v] w (QDayPost base n w Q S ls l):=by
 have hc:=y_r hrep;refine Calls.mono (rday_any hG h hg hrep (by omega) hr hsz (fun hb s' hs=>by have:=day_lines hb hs;omega)) ?_;rintro e w' (⟨hb,rfl,hk⟩ | ⟨hb,s',H',S',os,ds,vo,A,rfl,O,J,M,C,R⟩)
 ·exact ⟨Q,2,[],[],S,none,0,.inl ⟨hb,rfl,rfl,rfl,rfl⟩,rfl,by rw [List.append_nil];exact h.idle hk,RHChg.idle Q hk,World.ownsRow_nil _ _ _ _⟩
 ·obtain ⟨ao,G,rfl,_⟩:=x_a C;exact ⟨H',0,os,ds,S',ao,G,.inr ⟨hb,rfl,s',A,O⟩,rfl,J,M,C⟩
theorem eqL_refl (l:List ByteArray):eqL l l=true:=by
 induction l with
 | nil=>rfl
 | cons x l ih=>simp [eqL,ih]
theorem house_past2 {base B:Nat} {w w':World} {H:HV} {D:Dsk} {S:St} {ls:List ByteArray} {x:Nat} {u:Value} (h:HouseAt base w H D S ls false) (k:Keep (fun k=>k=x∨u.ownBlock=some k) w w') (hx:x < B) (hu:∀ k,u.ownBlock=some k→k < B) (hh:B≤H.h) (hl:∀ k,H.vl.ownBlock=some k→B≤k) (hf:∀ k,H.V.fp k→B≤k) (hd:H.d≠x) (hdu:u.ownBlock≠some H.d) (hv:H.v.ownBlock≠some x) (hvu:∀ k,H.v.ownBlock=some k→u.ownBlock≠some k):HouseAt base w' H D S ls false:=by
 refine h.keep k (fun i hi e=>?_) fun i hi e=>?_
 ·rcases hi with e1 | e1 | e1 | e1 <;> rcases e with e2 | e2
  ·omega
  ·have:=hu i e2;omega
  ·exact hd (e1.symm.trans e2)
  ·exact hdu (e1 ▸ e2)
  ·exact hv (e2 ▸ e1)
  ·exact hvu i e1 e2
  ·have:=hl i e1;omega
  ·have:=hl i e1;have:=hu i e2;omega
 ·have h1:=hf i hi;rcases e with e2 | e2
  ·omega
  ·have:=hu i e2;omega
theorem rd_low {w:World} {v:Value} {g:List Int} (h:Rd w 1 v g.length (icells g)) (hg:g.length=8):∀ k,v.ownBlock=some k→k < w.heap.size:=by
 intro k e;rcases h.2.2 with ⟨rfl,_⟩ | ⟨b,o,c,rfl,_,_,hx⟩
 ·cases e
 ·have hb:b=k:=Option.some.inj e;obtain ⟨u,hu⟩:∃ u,(icells g)[0]?=some u:=⟨_,List.getElem?_eq_getElem (by rw [icells_length];omega)⟩;have:=World.block_lt_of_cell? _ _ (hx 0 u hu);rw [← hb];exact this
theorem callsC_ones (l:List CallR):∀ u∈callsC l,u.oneCell'=true:=by
 intro u hu;simp only [callsC,List.mem_flatMap] at hu;obtain ⟨o,_,h⟩:=hu;simp [callC] at h;rcases h with rfl | rfl <;> rfl
def DyRel (w:World) (g:List Int) (b1 b2 m gh:Nat) (s60:Value) (wx:World):Prop:=
  ∃ (j:Nat) (H:HV) (Q:RHV) (S:St) (ls:List ByteArray),gh=m - j∧j≤m∧s60 = .int .i64 j∧H.h=b1∧Q.h=b2∧Duo w 20000 H Q S ls wx∧Rep runF (S0 g) ls S∧ls.length≤j
theorem houseDays_any {w:World} {gv lv cv:Value} {g:List Int} {l:List ByteArray} {cl:List CallR} (hG:Glob w) (hg:Rd w 1 gv g.length (icells g)) (hgl:g.length < 9223372036854775807) (hv:Rd w 1 lv l.length (strCells l)) (hl:∀ s∈l,s.size≤1048576) (hln:l.length≤9223372036854775807) (hcv:Rd w 2 cv cl.length (callsC cl)) (hcs:∀ c∈cl,c.2.size≤1048576) (hcn:cl.length≤9223372036854775806):Calls prog 11 #[gv,lv,cv] w (IdxPost w (.bool true)):=by
 obtain ⟨lo,lc,dw,dD,_⟩:=hv.shape;subst dw;obtain ⟨dB,gc,dq,dC,_⟩:=hg.shape;subst dq;obtain ⟨co,cc,dp,dn,_⟩:=hcv.shape;subst dp;have ce:=hD (disks_any (base:=w.heap.size) (w:=w) 20000 (Nat.le_refl _));have bI:=hD (rd_low hg);have HG:=hD hG;clear hG;have aZ:=hD hg;clear hg;have HV:=hD hv;clear hv;have HL:=hD hl;clear hl;have cg:=hD hcv;clear hcv;have cf:=hD hcs;clear hcs;cases hb:baysB g
 ·have HP:=hD (open_badBays (by rw [baysB_take];exact hb) (newD 20000):openF runF (newD 20000) (g.take 10)=_);have HQ:=hD (open_badBays hb (newD 20000):openF runF (newD 20000) g=_);clear hb;go_enter func11,ntmps11;go_wp2_with (first | (go_at_call 13;refine Calls.mono (awake_new (HG.out.keep cj.out.keep)) ?_;rintro e w5 ⟨rfl,b5⟩;have cE:=hD b5;clear b5) | (go_at_call 34;have hh:=ropen_emp (HG.out.keep aj.out.keep) rfl rfl (by rfl) aj.out.pair.b (aZ.out.keep aj.out.keep n3) hgl (by decide);rw [HQ.out] at hh;(try dsimp only at hh);refine Calls.mono hh ?_;clear hh;rintro e w4 ⟨u4,aT,aU,aW,aD,_⟩;obtain rfl:=aD (show (2:Int)≠0 by decide);have cj:=hD (aj.out.b aW aT aU);clear aT aU aW aD) | (go_at_call 24;have hh:=open_emp (F:=runF) (I:=Inv) (g:=g.take 10) (HG.out.keep ak.out.keep) rfl rfl (by rfl) ak.out.pair.a (x_g bg.out (x_l _)) (by rw [List.length_take];omega) (fun k e=>(x_d bg.out k e).2) ak.out.keep.size (fun e=>inv_S0 (u_v e)) (sys_all (by decide));rw [HP.out] at hh;(try dsimp only at hh);refine Calls.mono hh ?_;clear hh;rintro e w3 ⟨v3,br,bz,aV,aC,_⟩;obtain rfl:=aC (show (2:Int)≠0 by decide);have aj:=hD (ak.out.a aV br bz);clear br bz aV aC) | (go_at_call 25;have hh:=graph_any (aZ.out.keep bh.out.keep n3) (Nat.le_of_lt hgl);refine Calls.mono hh ?_;clear hh;rintro e w2 ⟨di,rfl,b6,b4⟩;have bg:=hD b6;have ak:=hD (bh.out.idle b4);clear b6 b4) | (go_at_call 12;refine ce.out.mono ?_;rintro e w1 ⟨b3,bq,_⟩;obtain ⟨d,x,rfl,hd,hx,bu,bB,bQ⟩:=bq (by omega);have bh:Hid (Twin w w1 d x (newD 20000) (newD 20000) (.slice none 0 0) (.slice none 0 0)):=hD ⟨⟨hd,hx,fun k e=>by cases e⟩,(fun k hk=>hk.elim (fun e=>e.elim (fun e=>e ▸ bu) (fun e=>by cases e)) (fun e=>e.elim (fun e=>e ▸ bB) (fun e=>by cases e))),b3⟩;clear b3 bq hd hx bu bB bQ))
  go_ret;exact ⟨rfl,cj.out.keep.trans cE.out n3⟩
 ·have HP:Hid (openF runF (newD 20000) (g.take 10)=⟨0,gN 20000 [],S0 g,[]⟩):=hD (by rw [baysB_all hb];exact calmN_open hb);have HQ:Hid (openF runF (newD 20000) g=⟨0,gN 20000 [],S0 g,[]⟩):=hD (calmN_open hb);have HB:=hD hb;clear hb;obtain ⟨m,hm⟩:∃ m,(min (l.length:Int) 40).toNat=m:=⟨_,rfl⟩;have dv:m≤l.length:=(by omega);have bP:m≤40:=(by omega);have dt:(0:Int)≤min (l.length:Int) 40:=(by omega);have du:min (l.length:Int) 40≤(lc:Int):=(by omega);go_enter func11,ntmps11;go_wp2_with (first | (go_at_call 34;have hh:=ropen_emp (HG.out.keep aj.out.keep) rfl rfl (by rfl) aj.out.pair.b (aZ.out.keep aj.out.keep n3) hgl (by decide);rw [HQ.out] at hh;(try dsimp only at hh);refine Calls.mono hh ?_;clear hh;rintro e w4 ⟨u4,aT,aU,aW,_,b8⟩;obtain ⟨dm,vl,vc,vt,vn,ln,rfl,aE,a6,b2⟩:=b8 rfl;have ca:=aj.out.b aW aT aU;have cx:=house_past2 (B:=w2.heap.size) bH.out aW ak.out.pair.b.blk.lt (fun k e=>by cases e) a7.out.2.2.2.1 a7.out.2.2.2.2 a7.out.2.2.1 (by rw [a7.out.1];exact aj.out.pair.dx) (fun e=>by cases e) (by rw [a7.out.2.1];exact aj.out.pair.vx) (fun k _ e=>by cases e);have aY:=hD (Duo.start (w6:=w2) (w7:=w3) cx (fun k hk=>bH.out.tp_lt k hk) (fun k hk=>bH.out.fp_lt k hk) a7.out.2.2.1 a7.out.2.2.2.1 a7.out.2.2.2.2 (by rw [a7.out.1];exact aj.out.pair.dx) (by rw [a7.out.2.1];exact aj.out.pair.vx) ak.out.pair.b.blk.lt ak.out.keep.size cL.out aT aU aE a6 b2 (aZ.out.keep ca.keep n3) (bI.out (u_v HB.out)) ca.keep);clear ca aT aU aW b8 aE a6 b2 cx) | (go_at_call 24;have hh:=open_emp (F:=runF) (I:=Inv) (g:=g.take 10) (HG.out.keep ak.out.keep) rfl rfl (by rfl) ak.out.pair.a (x_g bg.out (x_l _)) (by rw [List.length_take];omega) (fun k e=>(x_d bg.out k e).2) ak.out.keep.size (fun e=>inv_S0 (u_v e)) (sys_all (by decide));rw [HP.out] at hh;(try dsimp only at hh);refine Calls.mono hh ?_;clear hh;rintro e w3 ⟨v3,br,bz,aV,_,b7⟩;obtain ⟨H,rfl,ck,cn,cw,b0,bl,bA⟩:=b7 rfl;have aj:=hD (ak.out.a aV br bz);have bH:=hD cw;have cL:=hD aV.size;have a7:=hD (And.intro ck (And.intro cn (And.intro b0 (And.intro bl bA))));clear br bz aV b7 ck cn cw b0 bl bA) | (go_at_call 25;have hh:=graph_any (aZ.out.keep bh.out.keep n3) (Nat.le_of_lt hgl);refine Calls.mono hh ?_;clear hh;rintro e w2 ⟨di,rfl,b6,b4⟩;have bg:=hD b6;have ak:=hD (bh.out.idle b4);clear b6 b4) | (go_at_call 12;refine ce.out.mono ?_;rintro e w1 ⟨b3,bq,_⟩;obtain ⟨d,x,rfl,hd,hx,bu,bB,bQ⟩:=bq (by omega);have bh:Hid (Twin w w1 d x (newD 20000) (newD 20000) (.slice none 0 0) (.slice none 0 0)):=hD ⟨⟨hd,hx,fun k e=>by cases e⟩,(fun k hk=>hk.elim (fun e=>e.elim (fun e=>e ▸ bu) (fun e=>by cases e)) (fun e=>e.elim (fun e=>e ▸ bB) (fun e=>by cases e))),b3⟩;clear b3 bq hd hx bu bB bQ))
  obtain ⟨b1,bM⟩:∃ x,H.h=x:=⟨_,rfl⟩;rw [bM];have HE:=hD bM;clear bM;go_loopg [60] m (fun gh s60 wx=>DyRel w g b1 dm m gh s60 wx)
  case atStart=>exact ⟨0,H,_,S0 g,[],rfl,Nat.zero_le _,rfl,HE.out,rfl,aY.out,.nil _,Nat.le_refl _⟩
  case round=>
   obtain ⟨j,⟨x1,y1,v1,V1,dG⟩,⟨qh,qd,qv,qb,ql,qc,qt,qn,qs⟩,S,ls,rfl,hj,rfl,e1,e2,bx,aS,bO⟩:=hrel;simp only at e1 e2;subst e1 e2;have bn:=y_r aS;have aB:=hD bx;have ai:=hD aS;clear bx aS aY HE;by_cases bF:j < m
   ·have cy:((j:Int) < (m:Int))=True:=(by simp;omega);have cz:j < l.length:=(by omega);have c8:=HV.out.keep aB.out.keep n3
    obtain ⟨b,o,dl,bp⟩:∃ b o,lo=some ⟨b,o,none⟩∧wr.cell? ⟨b,o+j,none⟩=some (.string (l.getD j ByteArray.empty)):=by
     rcases c8.2.2 with ⟨h,h'⟩ | ⟨b,o,c,h,_,_,hx⟩
     ·omega
     ·injection h with h1 h2 h3;exact ⟨b,o,h1,hx _ _ (y_c l j cz)⟩
    subst dl;have cA:=HL.out (l.getD j ByteArray.empty) (by simp [List.getD,List.getElem?_eq_getElem cz]);obtain ⟨s,hs⟩:∃ s,l.getD j ByteArray.empty=s:=⟨_,rfl⟩;rw [hs] at bp cA;clear hs c8;have aa:=v_e (n:=20000) (S:=S) (ls:=ls) (by omega) s;have bG:Hid ((cat ls).length+201≤20000):=hD (by omega);have am:=hD (rep_inv (u_v HB.out) ai.out);obtain ⟨R,hR⟩:∃ R,doF runF S s=R:=⟨_,rfl⟩;rw [hR] at aa;have HR:=hD hR;clear hR bn;obtain ⟨re,rs,ro⟩:=R;by_cases he:re=0
    focus
     subst he;rw [if_pos rfl] at aa
    rotate_left
    focus
     rw [if_neg he] at aa
    rotate_left
    all_goals
     have ci:=hD aa;clear aa;go_wp2_with (first | (go_at_call 40;have hh:=rhdo_any (HG.out.keep bJ.out.2.2.2.2) bJ.out.2.2.2.2.size bJ.out.1 am.out (by omega) cA (by omega) bG.out;rw [ci.out] at hh;refine Calls.mono hh ?_;clear hh;rintro e w6 ⟨⟨bU,bT,bZ,bR,bV,bS,bY,bW,bX⟩,rfl,h6,bN⟩;obtain rfl:qh=bU:=bN.h.symm;have aX:=hD (aB.out.step cC.out H3.out bN h6);clear h6 bN) | (go_at_call 20;have hh:=hdo_any (F:=runF) (HG.out.keep aB.out.keep) aB.out.keep.size aB.out.h1 (am.out.small (by omega)) (by omega) (by omega) (run_ok am.out (by omega) s);rw [ci.out] at hh;refine Calls.mono hh ?_;clear hh;rintro e w5 ⟨⟨x3,y3,v3,V3,cb⟩,rfl,h3,bD⟩;obtain rfl:x1=x3:=bD.h.symm;have bJ:=hD (aB.out.p bD);have H3:=hD h3;have cC:=hD bD;clear h3 bD))
    ·go_roundg (m - (j+1))
     case measure=>omega
     case rel=>exact ⟨j+1,⟨x1,y3,v3,V3,cb⟩,⟨qh,bT,bZ,bR,bV,bS,bY,bW,bX⟩,rs,ls++[s],rfl,by omega,by go_num,rfl,rfl,aX.out,by have h:=ai.out.snoc (s:=s) (by rw [HR.out]);rw [HR.out] at h;exact h,by simp;omega⟩
    ·go_roundg (m - (j+1))
     case measure=>omega
     case rel=>exact ⟨j+1,⟨x1,y3,v3,V3,cb⟩,⟨qh,bT,bZ,bR,bV,bS,bY,bW,bX⟩,S,ls,rfl,by omega,by go_num,rfl,rfl,aX.out,ai.out,by omega⟩
   ·have dr:j=m:=(by omega);subst dr;have cy:((j:Int) < (j:Int))=False:=(by simp);clear bn;go_upto_region 18 with (first | (go_at_call 41;have hh:=qday_any ((GW.start HG.out).keep bK.out.2.2.2.2 n3) bK.out.1 (u_v HB.out) ai.out (by omega) (cg.out.keep bK.out.2.2.2.2 n3) cf.out (by decide);refine Calls.mono hh ?_;clear hh;rintro e w7 ⟨⟨bU,bT,bZ,bR,bV,bS,bY,bW,bX⟩,dA,dF,dz,S2,cM,bL,aF,rfl,bk,aA,b9⟩;obtain ⟨rfl,rfl,rfl,rfl⟩:=bC.out.det aF;obtain rfl:qh=bU:=aA.h.symm;have X:=hD (al.out.step cD.out cB.out aA bk);have cI:=hD ((x_g ch.out (x_p _)).keep aA.keep (fun k hk e=>by have h1:=al.out.h2.tp_lt k e;have h2:=(x_d ch.out k hk).1;omega));have cJ:=hD (x_g b9 (x_p _));clear aF bk aA b9) | (go_at_call 36;have hh:=pday_any ((GW.start HG.out).keep al.out.keep n3) al.out.h1 (u_v HB.out) ai.out (by omega) (x_g cG.out (callsC_ones _)) (by rw [List.length_take];omega) (fun c hc=>by have:=cf.out c (List.mem_of_mem_take hc);omega) (by decide) (by decide);refine Calls.mono hh ?_;clear hh;rintro e w6 ⟨⟨x3,y3,v3,V3,cb⟩,ee,os,ds,S',ao,cN,bt,rfl,cp,bE,c7⟩;obtain rfl:x1=x3:=bE.h.symm;have bK:=hD (al.out.p bE);have bC:=hD bt.take;have cB:=hD cp;have cD:=hD bE;have ch:=hD c7;clear bt cp bE c7) | (go_at_call 37;have hh:=calls_any (cg.out.keep aB.out.keep n3) hcn;refine Calls.mono hh ?_;clear hh;rintro e w5 ⟨v5,rfl,c6,b5⟩;have cG:=hD c6;have al:=hD (aB.out.idle b5);clear c6 b5))
    have ba:Hid (Inv (ls++ds).length S'∧(ls++ds).length≤100):=hD ⟨rep_inv (u_v HB.out) (ai.out.append bC.out.rep),by have:=bC.out.len.2;rw [List.length_append];omega⟩;have dE:=bC.out.len.1;clear hm dv dt du bP hgl hln hcn bO hj bF cy;have aH:=X;have am:=ba;clear X ba;obtain ⟨lt,bF⟩:∃ lt,ls++ds=lt:=⟨_,rfl⟩;rw [bF] at aH am;have X:=aH;clear aH bF;obtain ⟨ro,rc,hln,_⟩:=x_a X.out.h2.rows.lr;simp only at hln;have aI:Hid (∀ W,Keep (fun _=>False) w7 W→W.cell? ⟨qh,6,none⟩=some (.slice ro lt.length rc)):=hD fun W hk=>(by have h:=(X.out.h2.blk.keep hk (fun h=>h)).cell 6;rw [← hln];simpa using h);have cK:Hid (Rd w7 1 (.slice ro lt.length rc) lt.length (strCells lt)):=hD (by rw [← hln];exact x_g X.out.h2.rows.lr (x_p _));clear hln;have U:Hid (Keep (fun _=>False) w7 w7.drew):=hD (Keep.refl _ _).drew;go_cut [6] from 99 to 125 (fun s6 wx=>s6 = .bool true∧Keep (fun _=>False) w7 wx)
    case first=>
     rename_i Jq Kq dj dk;refine x_m fun Q1 hQ1=>?_;have cH:=hD hQ1;clear hQ1;refine wp_region_noPanic ?_;refine wp_region_held_drew (S:=(fun W=>W.cell? ⟨qh,6,none⟩=some (.slice ro lt.length rc))) (by kernel_rfl) (aI.out _ U.out) fun hHeld=>?_;refine wL fun ac0 Z0=>?_;have HS:Hid (ac0.tmps.size=126):=hD (by rw [Z0.out];kernel_rfl);have aP:ac0.tmps[21]?.getD undef = .slice ao os.length cN:=(by rw [Z0.out];kernel_rfl);have aQ:ac0.tmps[22]?.getD undef = .slice cM os.length bL:=(by rw [Z0.out];kernel_rfl);have ad:ac0.tmps[11]?.getD undef = .int .i64 ee:=(by rw [Z0.out];kernel_rfl);have ah:ac0.tmps[13]?.getD undef = .int .i64 ee:=(by rw [Z0.out];kernel_rfl);have G:ac0.tmps[10]?.getD undef = .pointer (some ⟨x1,0,none⟩):=(by rw [Z0.out];kernel_rfl);have J:ac0.tmps[12]?.getD undef = .pointer (some ⟨qh,0,none⟩):=(by rw [Z0.out];kernel_rfl);refine wU 0 HS fun ac1 Z1 bj HS=>?_;obtain ⟨aP,aQ,ad,ah,G,J⟩:=p6 Z1 aP aQ ad ah G J;refine wU 1 HS fun ac2 Z2 aJ HS=>?_;obtain ⟨aP,aQ,ad,ah,G⟩:=p5 Z2 aP aQ ad ah G;obtain ⟨J,bj⟩:=p2 Z2 J bj;refine wA 2 fun K hK=>?_;go_simp;have M:=eqS_any (cI.out.keep U.out n3) (cJ.out.keep U.out n3) (by omega);refine Calls.mono M ?_;clear M;rintro e cd ⟨rfl,nq,hq⟩;have U:Hid (Keep kF w7 cd):=hD (by rw [hq];exact U.out.drewN nq);clear hq;rw [eqL_refl];(try dsimp only);refine hK.out _ _ ?_ fun hHeld=>?_
     ·exact aI.out _ U.out
     clear hK K;refine wL fun ac3 Z3=>?_;obtain ⟨aP,aQ,ad,ah,G,J⟩:=p6 Z3 aP aQ ad ah G J;obtain ⟨bj,aJ⟩:=p2 Z3 bj aJ;have aK:=pA Z3 HS;replace HS:=pS Z3 HS;clear aP;clear aQ;clear bj;clear aJ;refine wU 3 HS fun ac4 Z4 O HS=>?_;obtain ⟨ad,ah,G,J,aK⟩:=p5 Z4 ad ah G J aK;replace O:ac4.tmps[102]?.getD undef = .bool true:=O;clear aK;refine wV 4 (x_t (b':=true) (b:=true) rfl rfl rfl O) HS fun ac5 Z5 an HS=>?_;obtain ⟨ad,ah,G,J,O⟩:=p5 Z5 ad ah G J O;refine wV 5 (x_t (b':=true) (b:=true) rfl rfl rfl O) HS fun ac6 Z6 aL HS=>?_;obtain ⟨ad,ah,G,J,O,an⟩:=p6 Z6 ad ah G J O an;refine wV 6 (x_t (b':=true) (b:=true) rfl rfl rfl O) HS fun ac7 Z7 ac HS=>?_;obtain ⟨ad,ah,G,J,O⟩:=p5 Z7 ad ah G J O;obtain ⟨an,aL⟩:=p2 Z7 an aL;clear ad;clear ah;clear an;clear aL;replace ac:ac7.tmps[105]?.getD undef = .bool true:=ac.trans (by simp);refine wU 7 HS fun ac8 Z8 aq HS=>?_;obtain ⟨G,J,O,ac⟩:=p4 Z8 G J O ac;replace aq:ac8.tmps[106]?.getD undef = .bool true:=aq;refine wU 8 HS fun ac9 Z9 C HS=>?_;obtain ⟨G,J,O,ac,aq⟩:=p5 Z9 G J O ac aq;replace C:ac9.tmps[107]?.getD undef = .bool true:=C;clear O;clear ac;clear aq;refine wV 9 (x_t (b':=true) (b:=true) rfl rfl rfl C) HS fun ac10 Z10 ar HS=>?_;obtain ⟨G,J,C⟩:=p3 Z10 G J C;refine wV 11 (x_t (b':=true) (b:=true) rfl rfl rfl C) HS fun ac11 Z11 av HS=>?_;obtain ⟨G,J,C,ar⟩:=p4 Z11 G J C ar;refine wA 10 fun K hK=>?_;rw [if_pos (by exact x_t (b':=true) (b:=true) rfl rfl rfl C)];go_simp;have M:=state_any (HG.out.keep (X.out.keep.trans U.out n3)) (X.out.h1.idle U.out) am.out.1 (by have:=am.out.2;omega);refine Calls.mono M ?_;clear M;rintro e wq ⟨rfl,hk⟩;have U:=hD (U.out.trans hk n3);clear hk;(try dsimp only);refine hK.out _ _ ?_ fun hHeld=>?_
     ·exact aI.out _ U.out
     clear hK K;refine wL fun ac12 Z12=>?_;obtain ⟨G,J,C,ar,av⟩:=p5 Z12 G J C ar av;have au:=pA Z12 HS;replace HS:=pS Z12 HS;clear ar;refine wA 12 fun K hK=>?_;rw [if_pos (by exact x_t (b':=true) (b:=true) rfl rfl rfl C)];go_simp;have M:=rstate_any (HG.out.keep (X.out.keep.trans U.out n3)) (X.out.h2.idle U.out).blk (X.out.h2.idle U.out).rows am.out.1 (by have:=am.out.2;omega);refine Calls.mono M ?_;clear M;rintro e wq ⟨rfl,hk⟩;have U:=hD (U.out.trans hk n3);clear hk;(try dsimp only);refine hK.out _ _ ?_ fun hHeld=>?_
     ·exact aI.out _ U.out
     clear hK K;refine wL fun ac13 Z13=>?_;obtain ⟨G,J,C,av,au⟩:=p5 Z13 G J C av au;have aM:=pA Z13 HS;replace HS:=pS Z13 HS;clear av;refine wV 13 (x_t (b':=true) (b:=true) rfl rfl rfl C) HS fun ac14 Z14 ae HS=>?_;obtain ⟨G,J,C,au,aM⟩:=p5 Z14 G J C au aM;replace ae:ac14.tmps[112]?.getD undef = .bool true:=ae.trans (by simp);clear au;clear aM;refine wU 14 HS fun ac15 Z15 aw HS=>?_;obtain ⟨G,J,C,ae⟩:=p4 Z15 G J C ae;replace aw:ac15.tmps[113]?.getD undef = .bool true:=aw;refine wU 15 HS fun ac16 Z16 A HS=>?_;obtain ⟨G,J,C,ae,aw⟩:=p5 Z16 G J C ae aw;replace A:ac16.tmps[114]?.getD undef = .bool true:=A;clear C;clear ae;clear aw;refine wV 16 (x_t (b':=true) (b:=true) rfl rfl rfl A) HS fun ac17 Z17 Y HS=>?_;obtain ⟨G,J,A⟩:=p3 Z17 G J A;refine wV 18 (x_t (b':=true) (b:=true) rfl rfl rfl A) HS fun ac18 Z18 ag HS=>?_;obtain ⟨G,J,A,Y⟩:=p4 Z18 G J A Y;refine wV 19 (x_t (b':=true) (b:=true) rfl rfl rfl A) HS fun ac19 Z19 ax HS=>?_;obtain ⟨G,J,A,Y,ag⟩:=p5 Z19 G J A Y ag;refine wV 20 (x_t (b':=true) (b:=true) rfl rfl rfl A) HS fun ac20 Z20 aO HS=>?_;obtain ⟨G,J,A,Y,ag,ax⟩:=p6 Z20 G J A Y ag ax;refine wV 21 (x_t (b':=true) (b:=true) rfl rfl rfl A) HS fun ac21 Z21 ay HS=>?_;obtain ⟨G,J,A,Y,ag⟩:=p5 Z21 G J A Y ag;obtain ⟨ax,aO⟩:=p2 Z21 ax aO;clear G;clear J;clear ag;clear ax;clear aO;refine wA 17 fun K hK=>?_;rw [if_pos (by exact x_t (b':=true) (b:=true) rfl rfl rfl A)];go_simp;have M:=journal_any (X.out.h1.idle U.out) (by have:=am.out.2;omega);refine Calls.mono M ?_;clear M;rintro e wq ⟨dy,rfl,aG,hk⟩;have U:=hD (U.out.trans hk n3);have bf:=hD aG;clear aG hk;(try dsimp only);refine hK.out _ _ ?_ fun hHeld=>?_
     ·exact aI.out _ U.out
     clear hK K;refine wL fun ac22 Z22=>?_;obtain ⟨A,Y,ay⟩:=p3 Z22 A Y ay;have aN:=pA Z22 HS;replace HS:=pS Z22 HS;clear Y;refine wA 22 fun K hK=>?_;rw [if_pos (by exact x_t (b':=true) (b:=true) rfl rfl rfl A)];go_simp;have cq:=x_g bf.out (x_p lt);have cr:=cK.out.keep U.out n3;have cu:lt.length < 9223372036854775807:=(by have:=am.out.2;omega);have M:=eqS_any cq cr cu;clear cq cr cu;refine Calls.mono M ?_;clear M;rintro e cd ⟨rfl,nq,hq⟩;have U:Hid (Keep kF w7 cd):=hD (by rw [hq];exact U.out.drewN nq);clear hq;rw [eqL_refl];(try dsimp only);refine hK.out _ _ ?_ fun hHeld=>?_
     ·exact aI.out _ U.out
     clear hK K;refine wL fun ac23 Z23=>?_;obtain ⟨A,ay,aN⟩:=p3 Z23 A ay aN;have az:=pA Z23 HS;replace HS:=pS Z23 HS;clear aN;clear ay;refine wU 23 HS fun ac24 Z24 a1 HS=>?_;obtain ⟨A,az⟩:=p2 Z24 A az;replace a1:ac24.tmps[122]?.getD undef = .bool true:=a1;refine wU 24 HS fun ac25 Z25 Z HS=>?_;obtain ⟨A,az,a1⟩:=p3 Z25 A az a1;replace Z:ac25.tmps[123]?.getD undef = .bool true:=Z;clear A;clear az;clear a1;refine wA 25 fun K hK=>?_;rw [if_pos (by exact x_t (b':=true) (b:=true) rfl rfl rfl Z)];go_simp;have M:=awake_new (HG.out.keep (X.out.keep.trans U.out n3));refine Calls.mono M ?_;clear M;rintro e wq ⟨rfl,hk⟩;have U:=hD (U.out.trans hk n3);clear hk;(try dsimp only);refine hK.out _ _ ?_ fun hHeld=>?_
     ·exact aI.out _ U.out
     clear hK K;refine wL fun ac26 Z26=>?_;replace Z:=po Z26 Z;have a8:=pA Z26 HS;replace HS:=pS Z26 HS;refine wU 26 HS fun ac27 Z27 bi HS=>?_;obtain ⟨Z,a8⟩:=p2 Z27 Z a8;refine wU 27 HS fun ac28 Z28 e6 HS=>?_;obtain ⟨Z,a8,bi⟩:=p3 Z28 Z a8 bi;refine wpAnyH_done (by kernel_rfl) ?_ _;refine NoPanic.normal ?_;rw [cH.out];have g0:=uE0 ac0 [6,99,100,101,102,103,104,105,106,107,108,109,110,111,112,113,114,115,116,117,118,119,120,121,122,123,124,125];have g1:=uF Z1 g0;have g2:=uF Z2 g1;have g3:=uF Z3 g2;have g4:=uF Z4 g3;have g5:=uF Z5 g4;have g6:=uF Z6 g5;have g7:=uF Z7 g6;have g8:=uF Z8 g7;have g9:=uF Z9 g8;have cO:=uF Z10 g9;have cP:=uF Z11 cO;have cQ:=uF Z12 cP;have cR:=uF Z13 cQ;have cS:=uF Z14 cR;have cT:=uF Z15 cS;have cU:=uF Z16 cT;have cV:=uF Z17 cU;have cW:=uF Z18 cV;have cX:=uF Z19 cW;have cY:=uF Z20 cX;have cZ:=uF Z21 cY;have da:=uF Z22 cZ;have db:=uF Z23 da;have dc:=uF Z24 db;have dd:=uF Z25 dc;have de:=uF Z26 dd;have df:=uF Z27 de;have dh:=uF Z28 df;obtain ⟨f,hf⟩:=dh;rw [Z0.out] at hf;have v6:=(v_o (k:=6) (n:=126) (by kernel_rfl) (by rfl)).symm.trans ((congrArg (fun a:Act=>a.tmps[6]?.getD undef) hf.symm).trans e6);refine dk _ _ (Met.intro (dj _ _ ?_));refine ⟨f 6,f 99,f 100,f 101,f 102,f 103,f 104,f 105,f 106,f 107,f 108,f 109,f 110,f 111,f 112,f 113,f 114,f 115,f 116,f 117,f 118,f 119,f 120,f 121,f 122,f 123,f 124,f 125,⟨v6.trans rfl,U.out⟩,hf.trans (by kernel_rfl)⟩
    case rest=>
     obtain ⟨rfl,hk⟩:=hcut;have cF:=hD (X.out.keep.trans hk n3);clear hk;go_wp2_with fail
     go_ret;exact ⟨rfl,cF.out⟩
end Go.Proofs.YthdkamnclbfehaaGreatDoor
