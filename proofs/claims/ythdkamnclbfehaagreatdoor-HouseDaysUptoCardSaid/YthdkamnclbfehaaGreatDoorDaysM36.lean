/- A part of the proof. -/
import Derived.Test.YthdkamnclbfehaaGreatDoorDaysM34
import Derived.Test.YthdkamnclbfehaaGreatDoorDaysM18
set_option linter.all false
set_option maxHeartbeats 20000000
set_option maxRecDepth 100000
namespace Go.Proofs.YthdkamnclbfehaaGreatDoor
open Go.RowKit Tryz
structure LkT (base b:Nat) (h:List LOp) (wx:World) (V:TV) (B:TB) (s:LS):Prop where
  tab:TabAt base wx b V B h s
  ok:Ok s
  sok:SOk s
  hds:∀ t,Hds s t
  wo:∀ k:Nat,1≤k→k < 7→B.wts k=decide (s.wt (k:Int)≠[])
theorem LkT.idle {base b:Nat} {h:List LOp} {wx wy:World} {V:TV} {B:TB} {s:LS} (g:LkT base b h wx V B s) (k:Keep kF wx wy):LkT base b h wy V B s:=⟨g.tab.idle k,g.ok,g.sok,g.hds,g.wo⟩
theorem sok_start:SOk s0L:=⟨fun i _=>⟨Int.le_refl _,by show (0:Int)≤6;decide⟩,fun i y _ h=>(by cases h)⟩
theorem AppW.val {w w':World} {base:Nat} {e:TypeId} {size:Nat} {v v2 v':Value} {n m:Nat} {xs news:List Value} (a:AppW w base e size v n xs m news v' w') (q:v2=v):AppW w base e size v2 n xs m news v' w':=q ▸ a
theorem next_zero {s:LS} {v:Nat} (h:Still s) (q:(v=0∧Still s)∨((1≤v∧v≤6)∧∃ a,Ready s (v:Int) a∧∀ u c,Ready s u c→a≤c)):v=0:=by
 rcases q with q | ⟨_,a,hr,_⟩
 ·exact q.1
 ·exact absurd hr (h _ _)
theorem next_some {s:LS} {v:Nat} (h:¬ Still s) (q:(v=0∧Still s)∨((1≤v∧v≤6)∧∃ a,Ready s (v:Int) a∧∀ u c,Ready s u c→a≤c)):(1≤v∧v≤6)∧∃ a,Ready s (v:Int) a∧∀ u c,Ready s u c→a≤c:=by
 rcases q with q | q
 ·exact absurd q.2 h
 ·exact q
theorem next_pos {s:LS} {v:Nat} (h:¬ Still s) (q:(v=0∧Still s)∨((1≤v∧v≤6)∧∃ a,Ready s (v:Int) a∧∀ u c,Ready s u c→a≤c)):0 < v:=(next_some h q).1.1
theorem retry_still {s s':LS} (h:RetryR s s') (hs:Still s):s'=s:=by
 cases h with
 | stop _=>rfl
 | go hr _ _=>exact absurd hr (hs _ _)
def LockTPost (w:World) (h:List LOp) (e:Ending) (w':World):Prop:=
  Keep kF w w'∧∃ s' vd va,e = .returned (.tuple #[vd,va])∧LRun 0 s0L h s'∧Ok s'∧w'.ownsRow w.heap.size 209 3 vd s'.done.length (opsC s'.done)
theorem lockT_any {w:World} {v:Value} {h:List LOp} (hr:Rd w 3 v h.length (opsC h)) (hl:h.length≤40) (hall:∀ o∈h,OpOK o) (hvb:∀ g,v.ownBlock=some g→g < w.heap.size):Calls prog 113 #[v] w (LockTPost w h):=by
 have Y:=TabAt.new hr hvb;rw [← tab_zero v] at Y;obtain ⟨ao,b0,rfl,_⟩:=hr.shape;obtain ⟨w1,aa⟩:∃ w1,w1=w.alloc (.cells (Tryz.zeroCells246.setIfInBounds 100 (.slice ao h.length b0)) 246):=⟨_,rfl⟩;have a1:Keep kF w w1:=(by rw [aa];exact (Keep.refl _ _).alloc _);rw [← aa] at Y;obtain ⟨b,hb⟩:∃ b,b=w.heap.size:=⟨_,rfl⟩;have aC:Hid (LkT w.heap.size b h w1 (V0T (.slice ao h.length b0)) B0T s0L):=hD ⟨by rw [hb];exact Y,ok_s0.1,sok_start,fun t x o a rest _ e=>(by cases e),fun k _ _=>rfl⟩;have au:=hD a1;have ah:=hD hall;have HR:=hD hr;have cx:=hD hb;clear Y hr hall hvb a1;go_enter func113,ntmps113;go_wp2_with fail
 rw [← aa,← hb];clear aa hb;go_loopg [15] h.length (fun gh v wx=>∃ (i:Nat) (V:TV) (B:TB) (s:LS),gh=h.length - i∧i≤h.length∧v = .int .i64 (i:Int)∧LkT w.heap.size b h wx V B s∧Still s∧tot s≤i∧LRun 0 s0L (h.take i) s∧Keep (fun _=>False) w wx)
 case atStart=>exact ⟨0,_,_,s0L,rfl,Nat.zero_le _,rfl,aC.out,still_start,by rw [ok_s0.2];exact Nat.zero_le _,.nil,au.out⟩
 case round=>
  clear aC au;obtain ⟨i,V,B,s,rfl,hi,rfl,bQ,hst,aV,aT,hk⟩:=hrel;have ad:=hD bQ;have aI:=hD hst;have ay:=hD aV;have bf:=hD aT;have HK:=hD hk;clear bQ hst aV aT hk;by_cases bh:i < h.length
  ·obtain ⟨b1,b4,c7,p,cv,hp,e0,e1,e2⟩:=rd_op (HR.out.keep HK.out n3) bh;injection cv with q1 q2 q3;subst q1;have M:=ah.out p (List.mem_of_getElem? hp);obtain ⟨txn,kind,bA⟩:=p;obtain ⟨kk,bP⟩:=Int.eq_ofNat_of_zero_le M.2.2.2.2.1;have cq:bA=(kk:Int):=bP;subst cq;obtain ⟨tn,bT⟩:=Int.eq_ofNat_of_zero_le (show 0≤txn by have:=M.1;simp at this;omega);have b7:txn=(tn:Int):=bT;subst b7;have b5:1≤tn:=(by have h9:(1:Int)≤(tn:Int):=M.1;omega);have an:tn < 7:=(by have h9:(tn:Int)≤6:=M.2.1;omega);have cp:((i:Int) < (h.length:Int))=True:=eq_true (by omega);have cA:(0:Int)≤(i:Int):=(by omega);have cB:IntKind.i64.wrap ((i:Int)+1)=((i+1:Nat):Int):=(by rw [show ((i:Int)+1)=((i+1:Nat):Int) by omega];exact IntWalk.i64_in _ (by omega));have f0:wr.cell? ⟨b1,b4+i * 3,none⟩=some (.int .i64 (tn:Int)):=(by rw [Nat.mul_comm i 3];exact e0);have f1:wr.cell? ⟨b1,b4+i * 3+1,none⟩=some (.int .i64 kind):=(by rw [Nat.mul_comm i 3,Nat.add_assoc];exact e1);have f2:wr.cell? ⟨b1,b4+i * 3+2,none⟩=some (.int .i64 (kk:Int)):=(by rw [Nat.mul_comm i 3,Nat.add_assoc];exact e2);have HP:=hD hp;have bt:Hid (h.take (i+1)=h.take i++[((tn:Int),kind,(kk:Int))]):=hD (by rw [List.take_add_one,hp];rfl);have bF:Hid (((0+(h.take i).length:Nat):Int)=(i:Int)):=hD (by rw [List.length_take];omega);have ar:=hD bh;have bq:=hD M;clear hp M q2 q3 e0 e1 e2 bP bT bh;go_upto_region 5 with fail
   obtain ⟨w1,aa⟩:∃ w1,w1=wr.alloc (.cells #[.int .i64 (tn:Int),.int .i64 kind,.int .i64 (kk:Int)] 209):=⟨_,rfl⟩;obtain ⟨r,Z⟩:∃ r,r=wr.heap.size:=⟨_,rfl⟩;have a1:Keep kF wr w1:=(by rw [aa];exact (Keep.refl _ _).alloc _);have au:Hid (Keep kF w w1):=hD (HK.out.trans a1 n3);have ai:Hid (Blk w1 r #[.int .i64 (tn:Int),.int .i64 kind,.int .i64 (kk:Int)] 209):=hD (by rw [aa,Z];exact Blk.new _ _ _);have A:=hD (ad.out.idle a1);rw [← aa,← Z];clear aa Z f0 f1 f2 a1 ad HK;have d0:w1.cell? ⟨r,0,none⟩=some (.int .i64 (tn:Int)):=ai.out.cell 0;have d1:w1.cell? ⟨r,1,none⟩=some (.int .i64 kind):=ai.out.cell 1;have d2:w1.cell? ⟨r,2,none⟩=some (.int .i64 (kk:Int)):=ai.out.cell 2;obtain ⟨ci,bz,ag,_⟩:=x_a A.out.tab.ab;obtain ⟨ca,_⟩:=x_k A.out.tab.blk (k:=99) (by decide);rw [tc_a,ag] at ca;have c8:s.ab.length≤1000:=(by have h1:=A.out.ok.ab;have h2:=A.out.ok.tot;unfold tot at h2;omega);have bB:Hid (Rd w1 1 (.slice ci s.ab.length bz) s.ab.length (icells s.ab)):=hD (by rw [← ag];exact x_g A.out.tab.ab (x_l _));clear ag;go_wp2_with fail
   go_loopg [25,7] s.ab.length (fun gh v25 v7 wx=>∃ k:Nat,gh=s.ab.length - k∧k≤s.ab.length∧v25 = .int .i64 (k:Int)∧v7 = .bool (decide ((tn:Int)∈s.ab.take k))∧wx=w1)
   case atStart=>exact ⟨0,rfl,Nat.zero_le _,rfl,rfl,rfl⟩
   case round=>
    obtain ⟨k,rfl,hk,rfl,rfl,rfl⟩:=hrel;by_cases aN:k < s.ab.length
    ·obtain ⟨ga,oa,c6,ag,cn⟩:=rd_int bB.out aN;injection ag with q1 q2 q3;subst q1;obtain ⟨x,hx⟩:∃ x,s.ab[k]?=some x:=⟨_,List.getElem?_eq_getElem aN⟩;rw [show s.ab.getD k 0=x by simp [List.getD,hx]] at cn;have br:Hid (s.ab.take (k+1)=s.ab.take k++[x]):=hD (by rw [List.take_add_one,hx];rfl);have k1:((k:Int) < (s.ab.length:Int))=True:=eq_true (by omega);have k0:(0:Int)≤(k:Int):=(by omega);have cC:IntKind.i64.wrap ((k:Int)+1)=((k+1:Nat):Int):=(by rw [show ((k:Int)+1)=((k+1:Nat):Int) by omega];exact IntWalk.i64_in _ (by omega));have av:=hD aN;obtain ⟨gb,b3⟩:∃ gb,decide ((tn:Int)∈s.ab.take k)=gb:=⟨_,rfl⟩;have bD:=hD b3;rw [b3];clear q2 q3 hx aN b3;cases gb
     ·have bR:¬ (tn:Int)∈s.ab.take k:=of_decide_eq_false bD.out;have bZ:=hD bR;clear bR;cases bW:(x == (tn:Int))
      ·have bx:Hid (x≠(tn:Int)):=hD (by simpa using bW);go_wp2_with fail
       go_roundg (s.ab.length - (k+1))
       case measure=>have:=av.out;omega
       case rel=>exact ⟨k+1,rfl,av.out,by go_num,by
        rw [br.out,decide_eq_false (fun q=>by
         rcases List.mem_append.1 q with q | q
         ·exact bZ.out q
         ·exact bx.out (List.mem_singleton.1 q).symm)],rfl⟩
      ·have bx:Hid (x=(tn:Int)):=hD (by simpa using bW);go_wp2_with fail
       go_roundg (s.ab.length - (k+1))
       case measure=>have:=av.out;omega
       case rel=>exact ⟨k+1,rfl,av.out,by go_num,by rw [br.out,bx.out,decide_eq_true (List.mem_append_right _ (List.mem_singleton.2 rfl))],rfl⟩
     ·go_wp2_with fail
      go_roundg (s.ab.length - (k+1))
      case measure=>have:=av.out;omega
      case rel=>exact ⟨k+1,rfl,av.out,by go_num,by have h1:(tn:Int)∈s.ab.take k:=of_decide_eq_true bD.out;rw [br.out,decide_eq_true (List.mem_append_left _ h1)],rfl⟩
    ·have k1:((k:Int) < (s.ab.length:Int))=False:=eq_false (by omega);rw [List.take_of_length_le (by omega)];clear aN bB ca;by_cases az:(tn:Int)∈s.ab
     ·have ba:=hD az;rw [decide_eq_true az];clear az;go_wp2_with fail
      go_roundg (h.length - (i+1))
      case measure=>have:=ar.out;omega
      case rel=>exact ⟨i+1,V,B,s,rfl,ar.out,by go_num,A.out,aI.out,by have:=ay.out;omega,by rw [bt.out];exact bf.out.snoc (.gone ba.out),au.out⟩
     ·have ba:=hD az;rw [decide_eq_false az];clear az
      obtain ⟨qo,qc,b9⟩:∃ qo qc,V.vq tn = .slice qo (s.wt (tn:Int)).length qc:=by
       have hw:=A.out.tab.q tn an;rcases hw.shape with ⟨e,e2⟩ | ⟨g,o,b0,e,_⟩
       ·exact ⟨none,0,by rw [e,e2]⟩
       ·exact ⟨_,_,e⟩
      have bg:=hD b9;have cD:(s.wt (tn:Int)).length≤100:=(by have h2:=A.out.ok.tot;have:=tot_wt (s:=s) (x:=(tn:Int)) ⟨by omega,by omega⟩;omega);obtain ⟨a0,_⟩:=x_k A.out.tab.blk (k:=85+tn) (by omega);rw [tc_q _ _ (by omega),b9] at a0;have ch:(wr.alloc (.cells #[.int .i64 (i:Int)] 3)).cell? ⟨b,85+tn,none⟩=some (.slice qo (s.wt (tn:Int)).length qc):=(((Keep.refl kF wr).alloc _).cell (p:=⟨b,85+tn,none⟩) A.out.tab.blk.lt (fun e=>e)).trans a0;have t0:(0:Int)≤(tn:Int):=(by omega);have t7:((tn:Int) < 7)=True:=eq_true (by omega);have ax:Hid (∀ W,Keep (fun k=>k≠r) wr W→W.cell? ⟨r,0,none⟩=some (.int .i64 (tn:Int))∧W.cell? ⟨r,1,none⟩=some (.int .i64 kind)∧W.cell? ⟨r,2,none⟩=some (.int .i64 (kk:Int))):=hD fun W k=>(by have:=ai.out.keep k (fun e=>e rfl);exact ⟨this.cell 0,this.cell 1,this.cell 2⟩);have aw:Hid (b≠r):=hD (blk_ne A.out.tab.blk ai.out (by decide));have bG:Hid (∀ k,(Value.slice qo (s.wt (tn:Int)).length qc).ownBlock=some k→k≠r):=hD (fun k e q=>z_d (A.out.tab.q tn an) ai.out (by decide) (by rw [bg.out,e,q]));have bJ:Hid (∀ W,Keep kF wr W→Win W w.heap.size 3 1 (.slice qo (s.wt (tn:Int)).length qc) (s.wt (tn:Int)).length (icells ((s.wt (tn:Int)).map Prod.snd))):=hD fun W k=>(by rw [← bg.out];exact (A.out.tab.q tn an).keep k n3);have bK:=hD A.out.tab;have bC:Hid (w.heap.size≤wr.heap.size):=hD au.out.size;clear b9;go_upto_region 12 with fail
      go_cut [38] from 38 to 53 (fun s38 wx=>∃ V',TabAt w.heap.size wx b V' B h (enq s ((tn:Int),kind,(kk:Int)) (i:Int))∧Keep (fun _=>False) w wx∧Blk wx r #[.int .i64 (tn:Int),.int .i64 kind,.int .i64 (kk:Int)] 209)
      case first=>
       rename_i Jq Kq cj ck;refine wp_region_noPanic ?_;refine wp_region_held_drew (S:=fun W=>W.cell? ⟨r,0,none⟩=some (.int .i64 (tn:Int))∧W.cell? ⟨r,1,none⟩=some (.int .i64 kind)∧W.cell? ⟨r,2,none⟩=some (.int .i64 (kk:Int))) (by kernel_rfl) (ax.out _ ((Keep.refl _ _).drew)) fun hHeld=>?_;refine wS 0 ?_;refine wS 1 ?_;refine wS 2 ?_;refine wS 3 ?_;refine wS 4 ?_;refine wS 5 ?_;refine wS 6 ?_;refine wS 7 ?_;refine wS 8 ?_;refine wS 10 ?_;refine wS 13 ?_;refine wS 14 ?_;refine wR (rs:=[9,11]) ?_;refine AllReadyH.cons (o:=_) rfl (fun K hK=>?_) (AllReadyH.cons (o:=_) rfl (fun K hK=>?_) AllReadyH.nil)
       all_goals
        go_simp;refine hK.out _ _ ?_ fun hHeld=>?_
        ·((try dsimp only);refine ax.out _ ?_;repeat (first | exact aA.out | exact Keep.refl _ _ | apply Keep.drew | apply Keep.alloc | refine Keep.setCell ?_ _ _ (fun _=>aw.out)))
        clear hK K;(try simp only [tA])
       focus
        refine wR (rs:=[11]) ?_
       rotate_left
       focus
        refine wR (rs:=[9]) ?_
       rotate_left
       all_goals
        refine aR rfl fun K hK=>?_;go_simp;refine hK.out _ _ ?_ fun hHeld=>?_
        ·((try dsimp only);refine ax.out _ ?_;repeat (first | exact aA.out | exact Keep.refl _ _ | apply Keep.drew | apply Keep.alloc | refine Keep.setCell ?_ _ _ (fun _=>aw.out)))
        clear hK K;(try simp only [tA]);refine wB 12 fun K hK=>?_;refine oper_win (base:=w.heap.size) (.tmp 47) (.tmp 49) 34 34 rfl 3 (.int .i64 0) 1 8 underlying34 v_h rfl (v:=.slice qo (s.wt (tn:Int)).length qc) (n:=(s.wt (tn:Int)).length) (xs:=icells ((s.wt (tn:Int)).map Prod.snd)) (bJ.out _ kW) rfl (m:=1) (news:=[.int .i64 (i:Int)]) (by first | exact (Rd.new wr 1 1 [.int .i64 (i:Int)] 3 rfl (by simp [Value.oneCell']) (by unfold maxLen;omega)).src underlying34 | exact (Rd.new wr 1 1 [.int .i64 (i:Int)] 3 rfl (by simp [Value.oneCell']) (by unfold maxLen;omega)).drew.src underlying34 | exact ((Rd.new wr 1 1 [.int .i64 (i:Int)] 3 rfl (by simp [Value.oneCell']) (by unfold maxLen;omega)).keep ((Keep.refl kF _).drew) n3).src underlying34) rfl (by unfold maxLen;omega) (by omega) (Nat.le_trans bC.out (Keep.size (show Keep kF wr _ from kW))) (fun v' w7 happ=>?_);obtain ⟨bM,aJ,rfl⟩:∃ a c,v' = .slice a ((s.wt (tn:Int)).length+1) c:=(by rcases happ.own.shape with ⟨_,h0⟩ | ⟨g,o,c,e,_⟩ <;> first | omega | exact ⟨_,c,e⟩);have aQ:=bK.out.idleAppW happ kW;have R:=happ.val bg.out;have bN:=aQ.blk.keep R.keep (fun e=>z_d (aQ.q tn an) aQ.blk (by decide) e);obtain ⟨y1,y0⟩:=x_k bN (k:=85+tn) (by omega);rw [tc_q _ _ (by omega),bg.out] at y1;have bE:=hD (aQ.qpush an HP.out R);have aA:Hid (Keep (fun k=>k≠r) wr w7):=hD (Keep.trans (show Keep (fun k=>k≠r) wr _ from kW) happ.keep (fun k _ e=>bG.out k e));have bY:Hid (Keep kF w (w7.setCell ⟨b,85+tn,none⟩ (.slice bM ((s.wt (tn:Int)).length+1) aJ))):=hD ((au.out.trans (show Keep kF wr _ from kW) n3).trans bE.out.2 (fun k hk e=>by omega));have cb:Hid (Blk (w7.setCell ⟨b,85+tn,none⟩ (.slice bM ((s.wt (tn:Int)).length+1) aJ)) r #[.int .i64 (tn:Int),.int .i64 kind,.int .i64 (kk:Int)] 209):=hD ((ai.out.keep aA.out (fun e=>e rfl)).setOther _ _ (fun e=>aw.out e.symm));clear happ R aQ bN;refine hK.out _ _ ?_ fun hHeld=>?_
        ·((try dsimp only);refine ax.out _ ?_;repeat (first | exact aA.out | exact Keep.refl _ _ | apply Keep.drew | apply Keep.alloc | refine Keep.setCell ?_ _ _ (fun _=>aw.out)))
        clear hK K;(try simp only [tA]);refine wS 15 ?_;refine wA 16 fun K hK=>?_;go_simp;refine hK.out _ _ ?_ fun hHeld=>?_
        ·((try dsimp only);refine ax.out _ ?_;repeat (first | exact aA.out | exact Keep.refl _ _ | apply Keep.drew | apply Keep.alloc | refine Keep.setCell ?_ _ _ (fun _=>aw.out)))
        clear hK K;(try simp only [tA]);refine wpAnyH_done (by kernel_rfl) ?_ _;refine NoPanic.normal ?_;refine ck _ _ (Met.intro (cj _ _ ?_));exact ⟨_,_,_,_,_,_,_,_,_,_,_,_,_,_,_,_,⟨_,bE.out.1,bY.out,cb.out⟩,rfl⟩
      case rest=>
       obtain ⟨V2,b6,ae,b2⟩:=hcut;clear a0 ch ax aw bG bJ bK bC d0 d1 d2;have d0:wc.cell? ⟨r,0,none⟩=some (.int .i64 (tn:Int)):=b2.cell 0;obtain ⟨cw,_⟩:=x_k b6.blk (k:=92+tn) (by omega);rw [tc_w _ _ (by omega),A.out.wo tn b5 an] at cw;have bL:=hD b6;have O:=hD ae;have bX:=hD b2;have aD:=hD A.out.ok;have bU:tot s≤99:=(by have:=ay.out;omega);have X:=hD (A.out.ok.enq bq.out (i:Int) bU).1;have am:Hid (SOk (enq s ((tn:Int),kind,(kk:Int)) (i:Int))):=hD (A.out.sok.same rfl rfl);clear b6 ae b2 bU;cases ac:s.wt (tn:Int) with
       | nil=>
        rw [ac,show decide (([]:List (LOp × Int))≠[])=false from rfl] at cw;have bn:Hid (∀ s2,RetryR (goOnT (enq s ((tn:Int),kind,(kk:Int)) (i:Int)) (tn:Int)) s2→LStep s ((tn:Int),kind,(kk:Int)) (i:Int) s2):=hD (fun s2 q=>step_of aI.out ba.out ac q);have a6:Hid (Hds (enq s ((tn:Int),kind,(kk:Int)) (i:Int)) (tn:Int)):=hD (fun x o' a' rest' hx ex=>by rw [u_u (o:=((tn:Int),kind,(kk:Int))) hx] at ex;exact A.out.hds (x+1) x o' a' rest' (by omega) ex);have cg:Hid (∀ k:Nat,1≤k→k < 7→k≠tn→B.wts k=decide ((enq s ((tn:Int),kind,(kk:Int)) (i:Int)).wt (k:Int)≠[])):=hD (fun k h1 h2 h3=>by rw [u_u (o:=((tn:Int),kind,(kk:Int))) (show (k:Int)≠(tn:Int) by omega)];exact A.out.wo k h1 h2);clear ac;go_upto_region 13 with fail
        go_quiet (fail)
        obtain ⟨wq,aq⟩:∃ wq,wq=wc.drewN nq:=⟨_,rfl⟩;have ak:Hid (Keep kF wc wq):=hD (by rw [aq];exact (Keep.refl _ _).drewN nq);rw [← aq];clear aq cw d0;have d0:wq.cell? ⟨r,0,none⟩=some (.int .i64 (tn:Int)):=(bX.out.keep ak.out (fun e=>e)).cell 0;go_wp2_with (go_at_call 151;refine Calls.mono (goOnT_walk (bL.out.idle ak.out) ⟨b5,by omega⟩ X.out am.out a6.out (Nat.le_trans O.out.size ak.out.size) cg.out) ?_;rintro e w5 ⟨rfl,⟨V5,B5,bS,bV⟩,bO⟩;have aB:Hid (LkT w.heap.size b h w5 V5 B5 (goOnT (enq s ((tn:Int),kind,(kk:Int)) (i:Int)) (tn:Int))):=hD ⟨bS,y_l X.out _,SOk.goOn _ _ _ X.out am.out,Hds.goOn _ _ _ (Nat.le_refl _) a6.out,bV⟩;have a8:Hid (Keep kF w w5):=hD ((O.out.trans ak.out n3).trans bO (fun k hk e=>by omega));clear bS bV bO)
        go_loopg [] (wsum (goOnT (enq s ((tn:Int),kind,(kk:Int)) (i:Int)) (tn:Int))) (fun gh wx=>∃ (V2:TV) (B2:TB) (s2:LS),gh=wsum s2∧LkT w.heap.size b h wx V2 B2 s2∧(∀ s3,RetryR s2 s3→RetryR (goOnT (enq s ((tn:Int),kind,(kk:Int)) (i:Int)) (tn:Int)) s3)∧Keep (fun _=>False) w wx)
        case atStart=>exact ⟨_,_,(goOnT (enq s ((tn:Int),kind,(kk:Int)) (i:Int)) (tn:Int)),rfl,aB.out,fun _ q=>q,a8.out⟩
        case round=>
         clear aB a8;obtain ⟨V2,B2,s2,aK,aO,Z,ae⟩:=hrel;have C:=hD aO;have aF:=hD Z;have O:=hD ae;have bi:=hD aK;have al:Hid (∀ W,Keep kF wr W→Calls prog 152 #[.pointer (some ⟨b,0,none⟩)] W (NextPost s2 W)):=hD fun W hk=>nextT_any (C.out.idle hk).tab C.out.ok C.out.sok ah.out (by omega) C.out.wo;clear aO Z ae aK;by_cases hS:Still s2
         ·have aH:=hD hS;clear hS;go_wp2_with (go_at_call 152;refine Calls.mono (al.out _ (Keep.refl _ _)) ?_;rintro e w6 ⟨v,rfl,J,hv⟩;obtain rfl:v=0:=next_zero aH.out hv;have U:=hD (O.out.trans J n3);have bk:=hD (C.out.idle J);clear J hv)
          have G:=hD (bn.out s2 (aF.out s2 (.stop aH.out)));go_roundg (h.length - (i+1))
          case measure=>have:=ar.out;omega
          case rel=>exact ⟨i+1,V2,B2,s2,rfl,ar.out,by go_num,bk.out,G.out.still aI.out,by have h1:=(G.out.ok aD.out bq.out (by have:=ay.out;omega)).2;have:=ay.out;omega,by rw [bt.out];exact bf.out.snoc (by rw [bF.out];exact G.out),U.out⟩
         ·have aG:=hD hS;clear hS;go_upto_region 16 with (go_at_call 152;refine Calls.mono (al.out _ (Keep.refl _ _)) ?_;rintro e w6 ⟨v,rfl,J,hv⟩;have aW:=next_pos aG.out hv;have cr:0 < v:=aW;have cu:decide ((0:Int) < (v:Int))=true:=decide_eq_true (by omega);have U:=hD J;clear J hv aW)
          go_wp2_with (first
            | (go_at_call 152;refine Calls.mono (al.out _ U.out) ?_;rintro e w7 ⟨v7,rfl,aL,aX⟩;obtain ⟨aY,a7,aS,aP⟩:=next_some aG.out aX;have aj:=hD (U.out.trans aL n3);have aE:=hD aS;have bp:=hD aP;have bu:=hD aY;clear aL aX aS aP aY)
            | (go_at_call 151;refine Calls.mono (goOnT_walk (C.out.idle aj.out).tab bu.out C.out.ok C.out.sok (C.out.hds _) (Nat.le_trans O.out.size aj.out.size) (fun k h1 h2 _=>C.out.wo k h1 h2)) ?_;rintro e w8 ⟨rfl,⟨V8,B8,aU,aZ⟩,aM⟩;have bl:Hid (LkT w.heap.size b h w8 V8 B8 (goOnT s2 (v7:Int))):=hD ⟨aU,y_l C.out.ok _,SOk.goOn _ _ _ C.out.ok C.out.sok,Hds.goOn _ _ _ (Nat.le_refl _) (C.out.hds _),aZ⟩;have bj:Hid (Keep kF w w8):=hD ((O.out.trans aj.out n3).trans aM (fun k hk e=>by omega));clear aU aZ aM))
          go_roundg (wsum (goOnT s2 (v7:Int)))
          case measure=>rw [bi.out];exact goOnT_less C.out.ok aE.out
          case rel=>exact ⟨V8,B8,_,rfl,bl.out,fun s3 q=>aF.out s3 (.go aE.out bp.out q),bj.out⟩
       | cons p rest=>
        rw [ac,show decide (p::rest≠[])=true from decide_eq_true (by simp)] at cw;have cd:Hid (Still (enq s ((tn:Int),kind,(kk:Int)) (i:Int))):=hD (Plc.enqStill aI.out (by show s.wt (tn:Int)≠[];rw [ac];simp));have bn:Hid (∀ s2,RetryR (enq s ((tn:Int),kind,(kk:Int)) (i:Int)) s2→LStep s ((tn:Int),kind,(kk:Int)) (i:Int) s2):=hD (fun s2 q=>by rw [retry_still q cd.out];exact .wait ba.out (by show s.wt (tn:Int)≠[];rw [ac];simp));have bI:Hid ((enq s ((tn:Int),kind,(kk:Int)) (i:Int)).wt (tn:Int)=p::(rest++[(((tn:Int),kind,(kk:Int)),(i:Int))])):=hD (by show updW s.wt (tn:Int) (s.wt (tn:Int)++[(((tn:Int),kind,(kk:Int)),(i:Int))]) (tn:Int)=_;unfold updW;rw [if_pos rfl,ac];rfl);have bH:=hD ac;clear ac;go_upto_region 13 with fail
        go_quiet (fail)
        obtain ⟨wq,aq⟩:∃ wq,wq=wc.drewN nq:=⟨_,rfl⟩;have ak:Hid (Keep kF wc wq):=hD (by rw [aq];exact (Keep.refl _ _).drewN nq);rw [← aq];clear aq cw d0
        have aB:Hid (LkT w.heap.size b h wq V2 B (enq s ((tn:Int),kind,(kk:Int)) (i:Int))):=hD ⟨bL.out.idle ak.out,X.out,am.out,fun t x o' a' rest' hx ex=>by
         by_cases q:x=(tn:Int)
         ·rw [q,bI.out] at ex;injection ex with e1 e2;exact A.out.hds (x+1) x o' a' rest (by omega) (by rw [q,bH.out,e1])
         ·rw [u_u (o:=((tn:Int),kind,(kk:Int))) q] at ex;exact A.out.hds (x+1) x o' a' rest' (by omega) ex,fun k h1 h2=>by
         by_cases q:k=tn
         ·rw [q,bI.out,A.out.wo tn b5 an,bH.out];rfl
         ·rw [u_u (o:=((tn:Int),kind,(kk:Int))) (show (k:Int)≠(tn:Int) by omega)];exact A.out.wo k h1 h2⟩
        have a8:Hid (Keep kF w wq):=hD (O.out.trans ak.out n3);go_wp2_with fail
        go_loopg [] (wsum (enq s ((tn:Int),kind,(kk:Int)) (i:Int))) (fun gh wx=>∃ (V2:TV) (B2:TB) (s2:LS),gh=wsum s2∧LkT w.heap.size b h wx V2 B2 s2∧(∀ s3,RetryR s2 s3→RetryR (enq s ((tn:Int),kind,(kk:Int)) (i:Int)) s3)∧Keep (fun _=>False) w wx)
        case atStart=>exact ⟨_,_,(enq s ((tn:Int),kind,(kk:Int)) (i:Int)),rfl,aB.out,fun _ q=>q,a8.out⟩
        case round=>
         clear aB a8;obtain ⟨V2,B2,s2,aK,aO,Z,ae⟩:=hrel;have C:=hD aO;have aF:=hD Z;have O:=hD ae;have bi:=hD aK;have al:Hid (∀ W,Keep kF wr W→Calls prog 152 #[.pointer (some ⟨b,0,none⟩)] W (NextPost s2 W)):=hD fun W hk=>nextT_any (C.out.idle hk).tab C.out.ok C.out.sok ah.out (by omega) C.out.wo;clear aO Z ae aK;by_cases hS:Still s2
         ·have aH:=hD hS;clear hS;go_wp2_with (go_at_call 152;refine Calls.mono (al.out _ (Keep.refl _ _)) ?_;rintro e w6 ⟨v,rfl,J,hv⟩;obtain rfl:v=0:=next_zero aH.out hv;have U:=hD (O.out.trans J n3);have bk:=hD (C.out.idle J);clear J hv)
          have G:=hD (bn.out s2 (aF.out s2 (.stop aH.out)));go_roundg (h.length - (i+1))
          case measure=>have:=ar.out;omega
          case rel=>exact ⟨i+1,V2,B2,s2,rfl,ar.out,by go_num,bk.out,G.out.still aI.out,by have h1:=(G.out.ok aD.out bq.out (by have:=ay.out;omega)).2;have:=ay.out;omega,by rw [bt.out];exact bf.out.snoc (by rw [bF.out];exact G.out),U.out⟩
         ·have aG:=hD hS;clear hS;go_upto_region 16 with (go_at_call 152;refine Calls.mono (al.out _ (Keep.refl _ _)) ?_;rintro e w6 ⟨v,rfl,J,hv⟩;have aW:=next_pos aG.out hv;have cr:0 < v:=aW;have cu:decide ((0:Int) < (v:Int))=true:=decide_eq_true (by omega);have U:=hD J;clear J hv aW)
          go_wp2_with (first
            | (go_at_call 152;refine Calls.mono (al.out _ U.out) ?_;rintro e w7 ⟨v7,rfl,aL,aX⟩;obtain ⟨aY,a7,aS,aP⟩:=next_some aG.out aX;have aj:=hD (U.out.trans aL n3);have aE:=hD aS;have bp:=hD aP;have bu:=hD aY;clear aL aX aS aP aY)
            | (go_at_call 151;refine Calls.mono (goOnT_walk (C.out.idle aj.out).tab bu.out C.out.ok C.out.sok (C.out.hds _) (Nat.le_trans O.out.size aj.out.size) (fun k h1 h2 _=>C.out.wo k h1 h2)) ?_;rintro e w8 ⟨rfl,⟨V8,B8,aU,aZ⟩,aM⟩;have bl:Hid (LkT w.heap.size b h w8 V8 B8 (goOnT s2 (v7:Int))):=hD ⟨aU,y_l C.out.ok _,SOk.goOn _ _ _ C.out.ok C.out.sok,Hds.goOn _ _ _ (Nat.le_refl _) (C.out.hds _),aZ⟩;have bj:Hid (Keep kF w w8):=hD ((O.out.trans aj.out n3).trans aM (fun k hk e=>by omega));clear aU aZ aM))
          go_roundg (wsum (goOnT s2 (v7:Int)))
          case measure=>rw [bi.out];exact goOnT_less C.out.ok aE.out
          case rel=>exact ⟨V8,B8,_,rfl,bl.out,fun s3 q=>aF.out s3 (.go aE.out bp.out q),bj.out⟩
  ·have cp:((i:Int) < (h.length:Int))=False:=eq_false (by omega);have ce:Hid (LRun 0 s0L h s):=hD (by have h1:=bf.out;rw [List.take_of_length_le (by omega)] at h1;exact h1);obtain ⟨c0,_⟩:=x_k ad.out.tab.blk (k:=0) (by decide);obtain ⟨c9,_⟩:=x_k ad.out.tab.blk (k:=99) (by decide);obtain ⟨do_,dc,b8,_⟩:=x_a ad.out.tab.done;obtain ⟨cz,cy,ag,_⟩:=x_a ad.out.tab.ab;rw [tc_d,b8] at c0;rw [tc_a,ag] at c9;have cf:=hD b8;clear bh b8 ag;go_upto_region 18 with fail
   go_quiet (fail)
   go_wp2_with fail
   go_ret2;exact ⟨HK.out.drewN nq,s,_,_,rfl,ce.out,ad.out.ok,by have h1:=x_b ad.out.tab.done ((Keep.refl kF _).drewN nq) n3;rw [cf.out] at h1;exact h1⟩
end Go.Proofs.YthdkamnclbfehaaGreatDoor
