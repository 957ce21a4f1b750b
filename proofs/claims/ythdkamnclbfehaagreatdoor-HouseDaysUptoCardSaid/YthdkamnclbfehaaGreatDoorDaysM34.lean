/- A part of the proof. -/
import Derived.Test.YthdkamnclbfehaaGreatDoorDaysM30
import Derived.Deep.CutBlock
set_option linter.all false
set_option maxHeartbeats 20000000
set_option maxRecDepth 100000
namespace Go.Proofs.YthdkamnclbfehaaGreatDoor
open Go.RowKit Tryz
theorem info209:(prog.info? 209).map (fun i=>(i.zero,i.size,i.bytes))=some (some (.agg #[.int .i64 0,.int .i64 0,.int .i64 0]),3,24):=by kernel_rfl
structure TabAt (base:Nat) (w:World) (b:Nat) (V:TV) (B:TB) (h:List LOp) (s:LS):Prop where
  blk:Blk w b (tabC V B) 246
  done:w.ownsRow base 209 3 V.vd s.done.length (opsC s.done)
  ab:w.ownsRow base 3 1 V.va s.ab.length (icells s.ab)
  q:∀ t:Nat,t < 7→Win w base 3 1 (V.vq t) (s.wt (t:Int)).length (icells ((s.wt (t:Int)).map Prod.snd))
  qa:∀ t:Nat,t < 7→∀ g,(V.vq t).ownBlock=some g→V.va.ownBlock≠some g
  qq:∀ t u:Nat,t < 7→u < 7→∀ g,(V.vq t).ownBlock=some g→(V.vq u).ownBlock=some g→t=u
  hs:Rd w 3 V.vh h.length (opsC h)
  hb:∀ g,V.vh.ownBlock=some g→g < base
  sh:∀ t i:Nat,1≤t→t < 7→i < 6→B.sh t i=s.sh i (t:Int)
  own:∀ t i:Nat,1≤t→t < 7→i < 6→B.own t i=decide (s.ex i=(t:Int))
  ge:base≤b
  pl:∀ t,∀ p∈s.wt t,0≤p.2∧h[p.2.toNat]?=some p.1
theorem TabAt.idle {base b:Nat} {w w':World} {V:TV} {B:TB} {h:List LOp} {s:LS} (t:TabAt base w b V B h s) (k:Keep kF w w'):TabAt base w' b V B h s:=
  ⟨t.blk.keep k (fun e=>e),x_b t.done k n3,x_b t.ab k n3,fun u hu=>(t.q u hu).keep k n3,t.qa,t.qq,t.hs.keep k n3,t.hb,t.sh,t.own,t.ge,t.pl⟩
theorem TabAt.idleApp {base b:Nat} {w W w':World} {V:TV} {B:TB} {h:List LOp} {s:LS} {v v':Value} {c m k:Nat} {e:TypeId} {size:Nat} {xs news:List Value} (t:TabAt base w b V B h s) (_:App W c e size v m xs k news v' w') (q:Keep kF w W):TabAt base W b V B h s:=t.idle q
theorem z_d {w:World} {base:Nat} {e:TypeId} {size:Nat} {v:Value} {n:Nat} {xs:List Value} (h:Win w base e size v n xs) {b:Nat} {cs:Array Value} {t:TypeId} (hb:Blk w b cs t) (hne:e≠t):v.ownBlock≠some b:=fun q=>by
  rcases h.2 with ⟨rfl,_⟩ | ⟨g,o,cap,cur,rfl,h1,h2,_⟩
  · cases q
  · have e1:g=b:=Option.some.inj q
    subst e1
    unfold Blk at hb
    rw [hb] at h2
    cases h2
    exact hne rfl
theorem Win_row {w:World} {base b2:Nat} {e e2:TypeId} {size s2:Nat} {v v2:Value} {n n2:Nat} {xs x2:List Value} (h:Win w base e size v n xs) (h2:w.ownsRow b2 e2 s2 v2 n2 x2) (hne:e≠e2):∀ g,v.ownBlock=some g→v2.ownBlock≠some g:=fun g hg q=>by
  rcases h.2 with ⟨rfl,_⟩ | ⟨g1,o,cap,cur,rfl,h1,hh,_⟩
  · cases hg
  · rcases h2.2 with ⟨rfl,_⟩ | ⟨g2,c2,cur2,rfl,hb2,hgg,_⟩
    · cases q
    · have e1:g1=g:=Option.some.inj hg
      have e2':g2=g:=Option.some.inj q
      subst e1 e2'
      rw [hh] at hgg
      cases hgg
      exact hne rfl
theorem TabAt.push {base b:Nat} {w w7:World} {V:TV} {B:TB} {h:List LOp} {s:LS} {o:LOp} {v':Value} (t:TabAt base w b V B h s) (a:App w base 209 3 V.vd s.done.length (opsC s.done) 1 [.int .i64 o.1,.int .i64 o.2.1,.int .i64 o.2.2] v' w7):TabAt base (w7.setCell ⟨b,0,none⟩ v') b {V with vd:=v' } B h {s with done:=s.done++[o]}∧Keep (fun k=>base≤k) w (w7.setCell ⟨b,0,none⟩ v'):=by
 have G:=t.blk.keep a.keep (fun e=>x_c t.done t.blk (by decide) e);have C:Keep (fun k=>k=b) w7 (w7.setCell ⟨b,0,none⟩ v'):=(Keep.refl _ _).setCell _ _ (fun _=>rfl);have A:w7.ownsRow base 209 3 v' (s.done++[o]).length (opsC (s.done++[o])):=(by rw [u_p,List.length_append];exact a.own);have J:=x_b t.ab a.keep (fun g hg q=>x_f t.ab t.done (by decide) g hg q);have hq:=fun u hu=>(t.q u hu).keep a.keep (fun g hg q=>Win_row (t.q u hu) t.done (by decide) g hg q);have M:=t.hs.keep a.keep (fun g hg q=>by have:=t.hb g hg;have:=(x_d t.done g q).1;omega);refine ⟨⟨?_,x_b A C (fun g hg e=>x_c A G (by decide) (e ▸ hg)),x_b J C (fun g hg e=>x_c J G (by decide) (e ▸ hg)),fun u hu=>(hq u hu).keep C (fun g hg e=>z_d (hq u hu) G (by decide) (e ▸ hg)),t.qa,t.qq,M.keep C (fun g hg e=>by have:=t.hb g hg;have:=t.ge;omega),t.hb,t.sh,t.own,t.ge,t.pl⟩,(a.keep.mono (fun k _ e=>(x_d t.done k e).1)).trans C (fun k _ e=>by have e':k=b:=e;rw [e'];exact t.ge)⟩;have:=G.set 0 v'
 rw [u_a (V':={V with vd:=v' }) (B':=B) (fun j hj=>by
  by_cases q:j=0
  ·rw [if_pos q,q];rfl
  ·rw [if_neg q];unfold tcell;rw [if_neg q,if_neg q])] at this
 exact this
def TB.setS (B:TB) (t i:Nat):TB:={B with sh:=fun x y=>if x=t∧y=i then true else B.sh x y}
def TB.setO (B:TB) (t i:Nat):TB:={B with own:=fun x y=>if x=t∧y=i then true else B.own x y}
theorem setS_step (V:TV) (B:TB) {t i:Nat} (ht:t < 7) (hi:i < 6):(tabC V B).setIfInBounds (1+t * 6+i) (.bool true)=tabC V (B.setS t i):=by
 refine u_a fun j hj=>?_;by_cases q:j=1+t * 6+i
 ·rw [if_pos q,q,tc_sh V _ ht hi];show Value.bool (if t=t∧i=i then true else B.sh t i)=_;rw [if_pos ⟨rfl,rfl⟩]
 ·rw [if_neg q];unfold tcell TB.setS;by_cases h0:j=0
  ·rw [if_pos h0,if_pos h0]
  ·rw [if_neg h0,if_neg h0];by_cases h1:j < 43
   ·rw [if_pos h1,if_pos h1];dsimp only;congr 1;exact if_neg (show ¬ ((j - 1) / 6=t∧(j - 1) % 6=i) from fun e=>q (by omega))
   ·rw [if_neg h1,if_neg h1]
theorem setO_step (V:TV) (B:TB) {t i:Nat} (ht:t < 7) (hi:i < 6):(tabC V B).setIfInBounds (43+t * 6+i) (.bool true)=tabC V (B.setO t i):=by
 refine u_a fun j hj=>?_;by_cases q:j=43+t * 6+i
 ·rw [if_pos q,q,tc_own V _ ht hi];show Value.bool (if t=t∧i=i then true else B.own t i)=_;rw [if_pos ⟨rfl,rfl⟩]
 ·rw [if_neg q];unfold tcell TB.setO;by_cases h0:j=0
  ·rw [if_pos h0,if_pos h0]
  ·rw [if_neg h0,if_neg h0];by_cases h1:j < 43
   ·rw [if_pos h1,if_pos h1]
   ·rw [if_neg h1,if_neg h1];by_cases h2:j < 85
    ·rw [if_pos h2,if_pos h2];dsimp only;congr 1;exact if_neg (show ¬ ((j - 43) / 6=t∧(j - 43) % 6=i) from fun e=>q (by omega))
    ·rw [if_neg h2,if_neg h2]
theorem TabAt.turn {base b:Nat} {w w':World} {V:TV} {B B':TB} {h:List LOp} {s s':LS} (t:TabAt base w b V B h s) (k:Keep (fun k=>k=b) w w') (hb:Blk w' b (tabC V B') 246) (hd:s'.done=s.done) (ha:s'.ab=s.ab) (hw:s'.wt=s.wt)
    (hsh:∀ t i:Nat,1≤t→t < 7→i < 6→B'.sh t i=s'.sh i (t:Int)) (hown:∀ t i:Nat,1≤t→t < 7→i < 6→B'.own t i=decide (s'.ex i=(t:Int))):TabAt base w' b V B' h s':=
  ⟨hb,by rw [hd];exact x_b t.done k (fun g hg e=>x_c t.done t.blk (by decide) (e ▸ hg)),by rw [ha];exact x_b t.ab k (fun g hg e=>x_c t.ab t.blk (by decide) (e ▸ hg)),
    fun u hu=>by rw [hw];exact (t.q u hu).keep k (fun g hg e=>z_d (t.q u hu) t.blk (by decide) (e ▸ hg)),t.qa,t.qq,t.hs.keep k (fun g hg e=>by have:=t.hb g hg;have:=t.ge;omega),t.hb,hsh,hown,t.ge,by rw [hw];exact t.pl⟩
def DoTPost (base:Nat) (w:World) (b:Nat) (V:TV) (B:TB) (h:List LOp) (s:LS) (e:Ending) (w':World):Prop:=
  e = .returned (.tuple #[])∧∃ vd' B',TabAt base w' b {V with vd:=vd' } B' h s∧B'.wts=B.wts∧Keep (fun k=>base≤k) w w'
theorem doT_any {base b:Nat} {w:World} {V:TV} {B:TB} {h:List LOp} {s:LS} {t i:Nat} {kind:Int} (hT:TabAt base w b V B h s) (ho:OpOK ((t:Int),kind,(i:Int))) (hbw:base≤w.heap.size) (hdl:s.done.length≤1000) (hex:kind=1→s.ex i=0∨s.ex i=(t:Int)):Calls prog 180 #[.pointer (some ⟨b,0,none⟩),.agg #[.int .i64 (t:Int),.int .i64 kind,.int .i64 (i:Int)]] w (DoTPost base w b V B h {actS s ((t:Int),kind,(i:Int)) with done:=s.done++[((t:Int),kind,(i:Int))]}):=by
 obtain ⟨vd,vq,va,vh⟩:=V;obtain ⟨Z,C,a6,_⟩:=x_a hT.done;simp only at a6;subst a6;have aL:1≤t:=(by have:=ho.1;omega);have aj:t < 7:=(by have:=ho.2.1;omega);have ax:i < 6:=(by have h5:(i:Int)≤5:=ho.2.2.2.2.2;omega);have aK:0≤kind:=ho.2.2.1;obtain ⟨w1,ae⟩:∃ w1,w1=w.alloc (.cells #[.int .i64 (t:Int),.int .i64 kind,.int .i64 (i:Int)] 209):=⟨_,rfl⟩;obtain ⟨r,Y⟩:∃ r,r=w.heap.size:=⟨_,rfl⟩;have ad:Keep kF w w1:=(by rw [ae];exact (Keep.refl _ _).alloc _);have ag:Hid (Blk w1 r #[.int .i64 (t:Int),.int .i64 kind,.int .i64 (i:Int)] 209):=hD (by rw [ae,Y];exact Blk.new _ _ _);have U:=hT.idle ad;have al:Hid (Keep (fun k=>base≤k) w w1):=hD (ad.mono (fun _ _ e=>e.elim));have ak:Hid (base≤w1.heap.size):=hD (Nat.le_trans hbw ad.size);have M:Hid (∀ W,Keep (fun k=>k≠r) w1 W→W.cell? ⟨r,0,none⟩=some (.int .i64 (t:Int))∧W.cell? ⟨r,1,none⟩=some (.int .i64 kind)∧W.cell? ⟨r,2,none⟩=some (.int .i64 (i:Int))):=hD fun W k=>(by have:=ag.out.keep k (fun e=>e rfl);exact ⟨this.cell 0,this.cell 1,this.cell 2⟩);have J:Hid (b≠r):=hD (by rw [Y];have:=hT.blk.lt;omega);have ao:Hid (∀ k,(Value.slice Z s.done.length C).ownBlock=some k→k≠r):=hD (fun k e=>by rw [Y];have:=(x_d hT.done k e).2;omega);have aq:Hid (∀ W,Keep kF w1 W→W.ownsRow base 209 3 (.slice Z s.done.length C) s.done.length (opsC s.done)):=hD fun W k=>x_b U.done k n3;obtain ⟨a0,a1⟩:=x_k U.blk (k:=0) (by decide);rw [tc_d] at a0;have aC:(w1.alloc (.cells #[.int .i64 (t:Int),.int .i64 kind,.int .i64 (i:Int)] 209)).cell? ⟨b,0,none⟩=some (.slice Z s.done.length C):=(((Keep.refl kF w1).alloc _).cell (p:=⟨b,0,none⟩) U.blk.lt (fun e=>e)).trans a0;have ar:=hD U;have HT:=hD hT;have HO:=hD ho;have a8:=hD hex;clear hex;clear ad hT U ho;go_enter func180,ntmps180;go_upto_region 1 with fail
 rw [← ae,← Y];clear ae Y;go_cut [4] from 4 to 13 (fun s4 wx=>∃ G,TabAt base wx b ⟨G,vq,va,vh⟩ B h {s with done:=s.done++[((t:Int),kind,(i:Int))]}∧G=G∧Keep (fun k=>base≤k) w wx∧Blk wx r #[.int .i64 (t:Int),.int .i64 kind,.int .i64 (i:Int)] 209)
 case first=>
  rename_i Jq Kq aD aE;refine wp_region_noPanic ?_;refine wp_region_held_drew (S:=fun W=>W.cell? ⟨r,0,none⟩=some (.int .i64 (t:Int))∧W.cell? ⟨r,1,none⟩=some (.int .i64 kind)∧W.cell? ⟨r,2,none⟩=some (.int .i64 (i:Int))) (by kernel_rfl) (M.out _ ((Keep.refl _ _).drew)) fun hHeld=>?_;refine wS 0 ?_;refine wS 1 ?_;refine wS 2 ?_;refine wS 3 ?_;refine wS 5 ?_;refine wR (rs:=[4,6]) ?_;refine AllReadyH.cons (o:=_) rfl (fun K hK=>?_) (AllReadyH.cons (o:=_) rfl (fun K hK=>?_) AllReadyH.nil)
  all_goals
   go_simp;refine hK.out _ _ ?_ fun hHeld=>?_
   ·((try dsimp only);refine M.out _ ?_;repeat (first | exact O.out | exact Keep.refl _ _ | apply Keep.drew | apply Keep.alloc | refine Keep.setCell ?_ _ _ (fun _=>J.out)))
   clear hK K;(try simp only [tA])
  focus
   refine wR (rs:=[6]) ?_
  rotate_left
  focus
   refine wR (rs:=[4]) ?_
  rotate_left
  all_goals
   refine aR rfl fun K hK=>?_;go_simp;refine hK.out _ _ ?_ fun hHeld=>?_
   ·((try dsimp only);refine M.out _ ?_;repeat (first | exact O.out | exact Keep.refl _ _ | apply Keep.drew | apply Keep.alloc | refine Keep.setCell ?_ _ _ (fun _=>J.out)))
   clear hK K;(try simp only [tA]);refine wB 7 fun K hK=>?_;refine x_q (base:=base) (.tmp 8) (.tmp 10) 208 208 rfl 209 (.agg #[.int .i64 0,.int .i64 0,.int .i64 0]) 3 24 underlying208 info209 rfl (v:=.slice Z s.done.length C) (n:=s.done.length) (xs:=opsC s.done) (aq.out _ kW) rfl (m:=1) (news:=[.int .i64 (t:Int),.int .i64 kind,.int .i64 (i:Int)]) (by first | exact (Rd.new w1 3 1 [.int .i64 (t:Int),.int .i64 kind,.int .i64 (i:Int)] 209 rfl (by simp [Value.oneCell']) (by unfold maxLen;omega)).src underlying208 | exact (Rd.new w1 3 1 [.int .i64 (t:Int),.int .i64 kind,.int .i64 (i:Int)] 209 rfl (by simp [Value.oneCell']) (by unfold maxLen;omega)).drew.src underlying208 | exact ((Rd.new w1 3 1 [.int .i64 (t:Int),.int .i64 kind,.int .i64 (i:Int)] 209 rfl (by simp [Value.oneCell']) (by unfold maxLen;omega)).keep ((Keep.refl kF _).drew) n3).src underlying208) rfl (by unfold maxLen;omega) (by omega) (Nat.le_trans ak.out (Keep.size (show Keep kF w1 _ from kW))) (fun v' w7 happ=>?_);obtain ⟨au,R,rfl,_⟩:=x_a happ.own;have X:=ar.out.idleApp happ kW;have aw:=X.blk.keep happ.keep (fun e=>x_c X.done X.blk (by decide) e);obtain ⟨y1,y0⟩:=x_k aw (k:=0) (by decide);rw [tc_d] at y1;have an:=hD (X.push (o:=((t:Int),kind,(i:Int))) happ);have O:Hid (Keep (fun k=>k≠r) w1 w7):=hD (Keep.trans (show Keep (fun k=>k≠r) w1 _ from kW) happ.keep (fun k _ e=>ao.out k e));have aA:Hid (Keep (fun k=>base≤k) w (w7.setCell ⟨b,0,none⟩ (.slice au (s.done.length+1) R))):=hD ((al.out.trans (show Keep kF w1 _ from kW) (fun _ _ e=>e.elim)).trans an.out.2 n3);have aB:Hid (Blk (w7.setCell ⟨b,0,none⟩ (.slice au (s.done.length+1) R)) r #[.int .i64 (t:Int),.int .i64 kind,.int .i64 (i:Int)] 209):=hD ((ag.out.keep O.out (fun e=>e rfl)).setOther _ _ (fun e=>J.out e.symm));clear happ X aw;refine hK.out _ _ ?_ fun hHeld=>?_
   ·((try dsimp only);refine M.out _ ?_;repeat (first | exact O.out | exact Keep.refl _ _ | apply Keep.drew | apply Keep.alloc | refine Keep.setCell ?_ _ _ (fun _=>J.out)))
   clear hK K;(try simp only [tA]);refine wS 8 ?_;refine wS 9 ?_;refine wA 10 fun K hK=>?_;go_simp;refine hK.out _ _ ?_ fun hHeld=>?_
   ·((try dsimp only);refine M.out _ ?_;repeat (first | exact O.out | exact Keep.refl _ _ | apply Keep.drew | apply Keep.alloc | refine Keep.setCell ?_ _ _ (fun _=>J.out)))
   clear hK K;(try simp only [tA]);refine wpAnyH_done (by kernel_rfl) ?_ _;refine NoPanic.normal ?_;refine aE _ _ (Met.intro (aD _ _ ?_));exact ⟨_,_,_,_,_,_,_,_,_,_,⟨_,an.out.1,rfl,aA.out,aB.out⟩,rfl⟩
 case rest=>
  obtain ⟨G,aa,_,ay,ac⟩:=hcut;clear a0 aC a1 M J ao aq ak ar al ag;have d0:wc.cell? ⟨r,0,none⟩=some (.int .i64 (t:Int)):=ac.cell 0;have d1:wc.cell? ⟨r,1,none⟩=some (.int .i64 kind):=ac.cell 1;have d2:wc.cell? ⟨r,2,none⟩=some (.int .i64 (i:Int)):=ac.cell 2;have aI:(0:Int)≤(t:Int):=(by omega);have aJ:((t:Int) < 7)=True:=eq_true (by omega);have aG:(0:Int)≤(i:Int):=(by omega);have aH:((i:Int) < 6)=True:=eq_true (by omega);have A:=hD aa;have ai:=hD ay;obtain ⟨p1,p0⟩:=x_k aa.blk (k:=1+t * 6+i) (by omega);obtain ⟨q1,q0⟩:=x_k aa.blk (k:=43+t * 6+i) (by omega);clear aa ay ac;by_cases k0:kind=0
  ·have HS:Hid (actS s ((t:Int),kind,(i:Int)) = {s with sh:=fun j y=>if j=i∧y=(t:Int) then true else s.sh j y}):=hD (by unfold actS takeS;rw [if_pos (show kind≤1 by omega),if_neg (show ¬ kind=1 by omega)];rfl);have aF:=hD k0;have z0:(kind == 0)=true:=(by simp [k0]);clear k0;go_wp2
   go_still_tail 9,(by kernel_rfl)
   change wpList _ _ _ _ _ wc.drew;go_wp2
   go_end0
   have hb:=A.out.blk.drew.set (1+t * 6+i) (.bool true);rw [setS_step _ _ aj ax] at hb;have hk:Keep (fun k=>k=b) wc (wc.drew.setCell ⟨b,1+t * 6+i,none⟩ (.bool true)):=(Keep.refl _ wc).drew.setCell _ _ (fun _=>rfl);refine ⟨rfl,G,B.setS t i,?_,rfl,ai.out.trans hk (fun k _ e=>by have e':k=b:=e;rw [e'];exact A.out.ge)⟩;rw [HS.out];refine A.out.turn hk hb rfl rfl rfl (fun x y h1 h2 h3=>?_) (fun x y h1 h2 h3=>A.out.own x y h1 h2 h3);show (if x=t∧y=i then true else B.sh x y)=if y=i∧(x:Int)=(t:Int) then true else s.sh y (x:Int);by_cases e:x=t∧y=i
   ·rw [if_pos e,if_pos ⟨e.2,by omega⟩]
   ·rw [if_neg e,if_neg (fun e'=>e ⟨by omega,e'.1⟩)];exact A.out.sh x y h1 h2 h3
  ·have z0:(kind == 0)=false:=(by simp [k0]);by_cases k1:kind=1
   ·have HS:Hid (actS s ((t:Int),kind,(i:Int)) = {s with ex:=fun j=>if j=i then (t:Int) else s.ex j}):=hD (by unfold actS takeS;rw [if_pos (show kind≤1 by omega),if_pos (show kind=1 by omega)];rfl);have hex:=a8.out k1;have ah:=hD hex;have z1:(kind == 1)=true:=(by simp [k1]);clear k0 k1 hex;go_wp2
    go_still_tail 9,(by kernel_rfl)
    change wpList _ _ _ _ _ wc.drew;go_wp2
    go_end0
    have hb:=A.out.blk.drew.set (43+t * 6+i) (.bool true);rw [setO_step _ _ aj ax] at hb;have hk:Keep (fun k=>k=b) wc (wc.drew.setCell ⟨b,43+t * 6+i,none⟩ (.bool true)):=(Keep.refl _ wc).drew.setCell _ _ (fun _=>rfl);refine ⟨rfl,G,B.setO t i,?_,rfl,ai.out.trans hk (fun k _ e=>by have e':k=b:=e;rw [e'];exact A.out.ge)⟩;rw [HS.out];refine A.out.turn hk hb rfl rfl rfl (fun x y h1 h2 h3=>A.out.sh x y h1 h2 h3) fun x y h1 h2 h3=>?_;show (if x=t∧y=i then true else B.own x y)=decide ((if y=i then (t:Int) else s.ex y)=(x:Int));by_cases e:y=i
    ·rw [if_pos e];by_cases e2:x=t
     ·rw [if_pos ⟨e2,e⟩,e2,decide_eq_true rfl]
     ·rw [if_neg (fun e'=>e2 e'.1),A.out.own x y h1 h2 h3,decide_eq_false (show ¬ (t:Int)=(x:Int) by omega)];refine decide_eq_false fun q=>?_;have q':s.ex y=(x:Int):=q;rw [e] at q';rcases ah.out with h | h <;> omega
    ·rw [if_neg e,if_neg (fun e'=>e e'.2)];exact A.out.own x y h1 h2 h3
   ·have HS:Hid (actS s ((t:Int),kind,(i:Int)) = {s with ex:=relEx s.ex (t:Int) 6,sh:=fun j y=>if j < 6∧y=(t:Int) then false else s.sh j y}):=hD (by unfold actS;rw [if_neg (show ¬ kind≤1 by omega)];rfl);have z1:(kind == 1)=false:=(by simp [k1]);clear k0 k1;go_wp2_with (go_at_call 213;refine Calls.mono (releaseT_any A.out.blk aj) ?_;rintro e w5 ⟨rfl,av,az⟩;have a7:=hD av;have am:=hD az;clear av az)
    go_end0
    refine ⟨rfl,G,(B.clrS t 6).clrO t 6,?_,rfl,ai.out.trans am.out (fun k _ e=>by have e':k=b:=e;rw [e'];exact A.out.ge)⟩;rw [HS.out];refine A.out.turn am.out a7.out rfl rfl rfl (fun x y h1 h2 h3=>?_) fun x y h1 h2 h3=>?_
    ·show (if x=t∧y < 6 then false else B.sh x y)=if y < 6∧(x:Int)=(t:Int) then false else s.sh y (x:Int);by_cases e:x=t
     ·rw [if_pos ⟨e,h3⟩,if_pos ⟨h3,by omega⟩]
     ·rw [if_neg (fun e'=>e e'.1),if_neg (fun e'=>e (by omega))];exact A.out.sh x y h1 h2 h3
    ·show (if x=t∧y < 6 then false else B.own x y)=decide ((if y < 6∧s.ex y=(t:Int) then 0 else s.ex y)=(x:Int));have ho:=A.out.own x y h1 h2 h3;by_cases e:x=t
     ·rw [if_pos ⟨e,h3⟩];by_cases e2:s.ex y=(t:Int)
      ·rw [if_pos ⟨h3,e2⟩];exact (decide_eq_false (show ¬ (0:Int)=(x:Int) by omega)).symm
      ·rw [if_neg (fun e'=>e2 e'.2)];exact (decide_eq_false (by rw [e];exact e2)).symm
     ·rw [if_neg (fun e'=>e e'.1),ho];by_cases e2:s.ex y=(t:Int)
      ·rw [if_pos ⟨h3,e2⟩];have e3:¬ s.ex y=(x:Int):=(by rw [e2];omega);have e4:¬ (0:Int)=(x:Int):=(by omega);exact (decide_eq_false e3).trans (decide_eq_false e4).symm
      ·rw [if_neg (fun e'=>e2 e'.2)]
def hb (s:LS) (o:LOp) (x:Int):Bool:=decide (x≠o.1) && ((decide (o.2.1 < 2) && decide (s.ex o.2.2.toNat=x)) || (decide (o.2.1=1) && s.sh o.2.2.toNat x))
def hindUp (s:LS) (o:LOp) (n:Nat):List Int:=((List.range n).map fun (k:Nat)=>(k:Int)+1).filter (hb s o)
theorem hindUp_succ (s:LS) (o:LOp) (n:Nat):hindUp s o (n+1)=hindUp s o n++(if hb s o ((n:Int)+1) then [(n:Int)+1] else []):=by
 unfold hindUp;rw [List.range_succ,List.map_append,List.filter_append];congr 1;by_cases h:hb s o ((n:Int)+1) <;> simp [h]
theorem hindUp_len (s:LS) (o:LOp) (n:Nat):(hindUp s o n).length≤n:=by
 unfold hindUp;refine Nat.le_trans (List.length_filter_le _ _) (by simp)
def hindL (s:LS) (o:LOp):List Int:=hindUp s o 6
theorem hindL_mem {s:LS} {o:LOp} {x:Int}:x∈hindL s o↔(1≤x∧x≤6)∧hb s o x=true:=by
 unfold hindL hindUp;rw [List.mem_filter,List.mem_map];refine ⟨fun h=>⟨?_,h.2⟩,fun h=>⟨⟨(x - 1).toNat,List.mem_range.2 (by omega),by omega⟩,h.2⟩⟩;obtain ⟨k,hk,rfl⟩:=h.1;have:=List.mem_range.1 hk;omega
theorem z_q {w w':World} {base:Nat} {e:TypeId} {size:Nat} {v:Value} {n:Nat} {xs:List Value} (h:w.ownsRow base e size v n xs) (k:Keep kF w w'):w'.ownsRow base e size v n xs:=x_b h k n3
def HindTPost (w:World) (s:LS) (o:LOp) (e:Ending) (w':World):Prop:=∃ v,e = .returned v∧w'.ownsRow w.heap.size 3 1 v (hindL s o).length (icells (hindL s o))∧Keep kF w w'
theorem hindT_any {base b:Nat} {w:World} {V:TV} {B:TB} {h:List LOp} {s:LS} {t i:Nat} {kind:Int} (hT:TabAt base w b V B h s) (ho:OpOK ((t:Int),kind,(i:Int))):Calls prog 178 #[.pointer (some ⟨b,0,none⟩),.agg #[.int .i64 (t:Int),.int .i64 kind,.int .i64 (i:Int)]] w (HindTPost w s ((t:Int),kind,(i:Int))):=by
 have ar:1≤t:=(by have:=ho.1;omega);have au:t < 7:=(by have:=ho.2.1;omega);have Y:i < 6:=(by have h5:(i:Int)≤5:=ho.2.2.2.2.2;omega);have an:0≤kind:=ho.2.2.1;obtain ⟨o,aa⟩:∃ o:LOp,((t:Int),kind,(i:Int))=o:=⟨_,rfl⟩;have aj:=hD aa;have HT:=hD hT;rw [aa];clear hT ho aa;obtain ⟨r,ac⟩:∃ r,r=w.heap.size:=⟨_,rfl⟩;have X:=hD ac;go_enter func178,ntmps178;go_wp2_with fail
 rw [← ac];clear ac;go_loopw [6,5] (fun s6 s5 wx=>∃ m:Nat,1≤m∧m≤7∧s6 = .int .i64 (m:Int)∧wx.ownsRow r 3 1 s5 (hindUp s o (m - 1)).length (icells (hindUp s o (m - 1)))∧Blk wx r #[.int .i64 (t:Int),.int .i64 kind,.int .i64 (i:Int)] 209∧Keep (fun _=>False) w wx) (fun v _ _=>7 - (intOf v).toNat)
 case atStart=>exact ⟨1,by omega,by omega,rfl,World.ownsRow_nil _ r 3 1,by rw [X.out];exact Blk.new _ _ _,(Keep.refl _ _).alloc _⟩
 case round=>
  obtain ⟨m,ah,ao,rfl,O,ag,hk⟩:=hrel;obtain ⟨n,hn⟩:∃ n,hindUp s o (m - 1)=n:=⟨_,rfl⟩;have aq:n.length≤6:=(by rw [← hn];exact Nat.le_trans (hindUp_len _ _ _) (by omega));rw [hn] at O;obtain ⟨am,ak,rfl,_⟩:=x_a O;have HN:=hD hn;have C:=hD O;have J:=hD ag;have HK:=hD hk;clear hn O ag hk;by_cases hm:m≤6
  ·have m6:((m:Int)≤6)=True:=eq_true (by omega);have al:decide ((m:Int)≤6)=true:=decide_eq_true (by omega);have m7:((m:Int) < 7)=True:=eq_true (by omega);have m0:(0:Int)≤(m:Int):=(by omega);have i0:(0:Int)≤(i:Int):=(by omega);have i6:((i:Int) < 6)=True:=eq_true (by omega);have av:IntKind.i64.wrap ((m:Int)+1)=((m+1:Nat):Int):=(by rw [show ((m:Int)+1)=((m+1:Nat):Int) by omega];exact IntWalk.i64_in _ (by omega));have d0:wr.cell? ⟨r,0,none⟩=some (.int .i64 (t:Int)):=J.out.cell 0;have d1:wr.cell? ⟨r,1,none⟩=some (.int .i64 kind):=J.out.cell 1;have d2:wr.cell? ⟨r,2,none⟩=some (.int .i64 (i:Int)):=J.out.cell 2;have W:=HT.out.idle HK.out;obtain ⟨p1,_⟩:=x_k W.blk (k:=1+m * 6+i) (by omega);obtain ⟨q1,_⟩:=x_k W.blk (k:=43+m * 6+i) (by omega);rw [tc_sh _ _ (by omega) Y,W.sh m i ah (by omega) Y] at p1;rw [tc_own _ _ (by omega) Y,W.own m i ah (by omega) Y] at q1;obtain ⟨sb,ad⟩:∃ sb,s.sh i (m:Int)=sb:=⟨_,rfl⟩;obtain ⟨ob,Z⟩:∃ ob,decide (s.ex i=(m:Int))=ob:=⟨_,rfl⟩;rw [ad] at p1;rw [Z] at q1;have R:Hid (hb s o (m:Int)=(decide (m≠t) && ((decide (kind < 2) && ob) || (decide (kind=1) && sb)))):=hD (by unfold hb;rw [← aj.out];show (decide ((m:Int)≠(t:Int)) && ((decide (kind < 2) && decide (s.ex (i:Int).toNat=(m:Int))) || (decide (kind=1) && s.sh (i:Int).toNat (m:Int))))=_;rw [Int.toNat_natCast,ad,Z];congr 1;exact decide_eq_decide.2 (by omega));have U:Hid (hindUp s o (m+1 - 1)=n++(if hb s o (m:Int) then [(m:Int)] else [])):=hD (by rw [← HN.out];have:=hindUp_succ s o (m - 1);rw [show m - 1+1=m+1 - 1 by omega,show ((m - 1:Nat):Int)+1=(m:Int) by omega] at this;exact this);have HM:=hD hm;clear W ad Z hm;by_cases c1:m=t
   ·have z:((m:Int) != (t:Int))=false:=(by simp [c1]);have HQ:Hid (hb s o (m:Int)=false):=hD (by rw [R.out,decide_eq_false (by omega)];rfl);clear c1;go_upto_region 5 with fail
    go_quiet (fail)
    obtain ⟨wq,G⟩:∃ wq,wq=wr.drewN nq:=⟨_,rfl⟩;have A:Hid (Keep kF wr wq):=hD (by rw [G];exact (Keep.refl _ _).drewN nq);rw [← G];clear G;go_wp2_with fail
    go_roundw
    case rel=>exact ⟨m+1,by omega,by have:=HM.out;omega,rfl,by rw [U.out,HQ.out];simpa using z_q C.out A.out,J.out.keep A.out (fun e=>e),HK.out.trans A.out n3⟩
    case measure=>have:=HM.out;simp [intOf];omega
   ·have z:((m:Int) != (t:Int))=true:=(by simp;omega);have zn:decide (m≠t)=true:=decide_eq_true c1;by_cases c2:kind < 2
    ·have zk:decide (kind < 2)=true:=decide_eq_true c2;cases ob
     ·by_cases c3:kind=1
      ·have z1:(kind == 1)=true:=(by simp [c3]);have ae:decide (kind=1)=true:=decide_eq_true c3;cases sb
       focus
        have HQ:Hid (hb s o (m:Int)=false):=hD (by rw [R.out,zn,zk,ae];rfl)
       rotate_left
       focus
        have HQ:Hid (hb s o (m:Int)=true):=hD (by rw [R.out,zn,zk,ae];rfl)
       rotate_left
       all_goals
        clear c1 c2 c3 ae;go_upto_region 5 with fail
        go_quiet (fail)
        obtain ⟨wq,G⟩:∃ wq,wq=wr.drewN nq:=⟨_,rfl⟩;have A:Hid (Keep kF wr wq):=hD (by rw [G];exact (Keep.refl _ _).drewN nq);rw [← G];clear G
       ·go_wp2_with fail
        go_roundw
        case rel=>exact ⟨m+1,by omega,by have:=HM.out;omega,rfl,by rw [U.out,HQ.out];simpa using z_q C.out A.out,J.out.keep A.out (fun e=>e),HK.out.trans A.out n3⟩
        case measure=>have:=HM.out;simp [intOf];omega
       ·go_wp2_with (at_builtin;refine x_h (w:=wq.alloc (.cells #[.int .i64 (m:Int)] 3)) rfl (.tmp 47) (.tmp 49) 34 34 rfl 3 (.int .i64 0) 1 8 underlying34 v_h rfl ((z_q C.out A.out).alloc _) rfl (Src.new (P:=prog) underlying34 wq 1 [.int .i64 (m:Int)] 3 rfl (by simp [Value.oneCell'])) rfl (by unfold maxLen;omega) (by omega) (by have:=J.out.lt;have:=A.out.size;simp;omega) ?_;intro v' wa M;have HA:=hD M;clear M)
        go_roundw
        case rel=>
         refine ⟨m+1,by omega,by have:=HM.out;omega,rfl,?_,?_,?_⟩
         ·rw [U.out,HQ.out,if_pos rfl];have:=HA.out.own;simpa [icells] using this
         ·exact ((J.out.keep A.out (fun e=>e)).alloc _).keep HA.out.keep (x_c C.out J.out (by decide))
         ·exact ((HK.out.trans A.out n3).alloc _).trans HA.out.keep (fun k hk e=>by have:=(x_d C.out k e).1;have:=X.out;omega)
        case measure=>have:=HM.out;simp [intOf];omega
      ·have z1:(kind == 1)=false:=(by simp [c3]);have HQ:Hid (hb s o (m:Int)=false):=hD (by rw [R.out,zn,zk,decide_eq_false c3];rfl);clear c1 c2 c3;go_upto_region 5 with fail
       go_quiet (fail)
       obtain ⟨wq,G⟩:∃ wq,wq=wr.drewN nq:=⟨_,rfl⟩;have A:Hid (Keep kF wr wq):=hD (by rw [G];exact (Keep.refl _ _).drewN nq);rw [← G];clear G;go_wp2_with fail
       go_roundw
       case rel=>exact ⟨m+1,by omega,by have:=HM.out;omega,rfl,by rw [U.out,HQ.out];simpa using z_q C.out A.out,J.out.keep A.out (fun e=>e),HK.out.trans A.out n3⟩
       case measure=>have:=HM.out;simp [intOf];omega
     ·have HQ:Hid (hb s o (m:Int)=true):=hD (by rw [R.out,zn,zk];rfl);clear c1 c2;go_upto_region 5 with fail
      go_quiet (fail)
      obtain ⟨wq,G⟩:∃ wq,wq=wr.drewN nq:=⟨_,rfl⟩;have A:Hid (Keep kF wr wq):=hD (by rw [G];exact (Keep.refl _ _).drewN nq);rw [← G];clear G;go_wp2_with (at_builtin;refine x_h (w:=wq.alloc (.cells #[.int .i64 (m:Int)] 3)) rfl (.tmp 47) (.tmp 49) 34 34 rfl 3 (.int .i64 0) 1 8 underlying34 v_h rfl ((z_q C.out A.out).alloc _) rfl (Src.new (P:=prog) underlying34 wq 1 [.int .i64 (m:Int)] 3 rfl (by simp [Value.oneCell'])) rfl (by unfold maxLen;omega) (by omega) (by have:=J.out.lt;have:=A.out.size;simp;omega) ?_;intro v' wa M;have HA:=hD M;clear M)
      go_roundw
      case rel=>
       refine ⟨m+1,by omega,by have:=HM.out;omega,rfl,?_,?_,?_⟩
       ·rw [U.out,HQ.out,if_pos rfl];have:=HA.out.own;simpa [icells] using this
       ·exact ((J.out.keep A.out (fun e=>e)).alloc _).keep HA.out.keep (x_c C.out J.out (by decide))
       ·exact ((HK.out.trans A.out n3).alloc _).trans HA.out.keep (fun k hk e=>by have:=(x_d C.out k e).1;have:=X.out;omega)
      case measure=>have:=HM.out;simp [intOf];omega
    ·have zk:decide (kind < 2)=false:=decide_eq_false c2;have z1:(kind == 1)=false:=(by simp;omega);have HQ:Hid (hb s o (m:Int)=false):=hD (by rw [R.out,zn,zk,decide_eq_false (by omega)];rfl);clear c1 c2;go_upto_region 5 with fail
     go_quiet (fail)
     obtain ⟨wq,G⟩:∃ wq,wq=wr.drewN nq:=⟨_,rfl⟩;have A:Hid (Keep kF wr wq):=hD (by rw [G];exact (Keep.refl _ _).drewN nq);rw [← G];clear G;go_wp2_with fail
     go_roundw
     case rel=>exact ⟨m+1,by omega,by have:=HM.out;omega,rfl,by rw [U.out,HQ.out];simpa using z_q C.out A.out,J.out.keep A.out (fun e=>e),HK.out.trans A.out n3⟩
     case measure=>have:=HM.out;simp [intOf];omega
  ·have m6:((m:Int)≤6)=False:=eq_false (by omega);have al:decide ((m:Int)≤6)=false:=decide_eq_false (by omega);have ai:Hid (n=hindL s o):=hD (by rw [← HN.out,show m - 1=6 by omega];rfl);clear hm;go_wp2_with fail
   go_ret;exact ⟨_,rfl,by rw [← ai.out,← X.out];exact C.out,HK.out⟩
end Go.Proofs.YthdkamnclbfehaaGreatDoor
namespace Go.Proofs.YthdkamnclbfehaaGreatDoor
open Go.RowKit
structure SOk (s:LS):Prop where
  exs:∀ i,i < 6→0≤s.ex i∧s.ex i≤6
  keys:∀ i y,i < 6→s.sh i y=true→1≤y∧y≤6
theorem SOk.rel {s:LS} (h:SOk s) (t:Int):SOk (relS s t):=by
 refine ⟨fun i hi=>?_,fun i y hi hy=>?_⟩
 ·show 0≤relEx s.ex t 6 i∧relEx s.ex t 6 i≤6;unfold relEx;split
  ·omega
  ·exact h.exs i hi
 ·have A:(if i < 6∧y=t then false else s.sh i y)=true:=hy;split at A
  ·cases A
  ·exact h.keys i y hi A
theorem SOk.act {s:LS} (h:SOk s) {o:LOp} (ho:OpOK o):SOk (actS s o):=by
 unfold actS;split
 ·unfold takeS;split
  ·refine ⟨fun i hi=>?_,h.keys⟩;show 0≤(if i=o.2.2.toNat then o.1 else s.ex i)∧(if i=o.2.2.toNat then o.1 else s.ex i)≤6;split
   ·have:=ho.1;have:=ho.2.1;omega
   ·exact h.exs i hi
  ·refine ⟨h.exs,fun i y hi hy=>?_⟩;have A:(if i=o.2.2.toNat∧y=o.1 then true else s.sh i y)=true:=hy;split at A
   ·rename_i e;rw [e.2];exact ⟨ho.1,ho.2.1⟩
   ·exact h.keys i y hi A
 ·exact h.rel _
theorem SOk.same {s s':LS} (h:SOk s) (he:s'.ex=s.ex) (hs:s'.sh=s.sh):SOk s':=⟨by rw [he];exact h.exs,by rw [hs];exact h.keys⟩
theorem SOk.goOn:∀ (n:Nat) (s:LS) (t:Int),Ok s→SOk s→SOk (goOnS n s t).1:=by
 intro n;induction n with
 | zero=>intro s t _ h;exact h
 | succ n ih=>
  intro s t A h;cases e:s.wt t with
  | nil=>rw [y_e e];exact h
  | cons p rest=>
   obtain ⟨o,a⟩:=p;by_cases hh:Hdd s o
   ·by_cases hr:Reach s t t
    ·rw [x_x e hh hr];exact (h.rel t).same rfl rfl
    ·rw [y_b e hh hr];exact h
   ·rw [y_g e hh];exact ih _ t (A.do_ e) ((h.act (A.keys e).2.2.1).same rfl rfl)
def Hds (s:LS) (t:Int):Prop:=∀ x o a rest,x≠t→s.wt x=(o,a)::rest→o.2.1≤1
theorem Hds.of {s:LS} (h:∀ t,Hds s t):∀ x o a rest,s.wt x=(o,a)::rest→o.2.1≤1:=fun x o a rest e=>h (x+1) x o a rest (by omega) e
theorem Hds.goOn:∀ (n:Nat) (s:LS) (t:Int),(s.wt t).length≤n→Hds s t→∀ u,Hds (goOnS n s t).1 u:=by
 have C:∀ (s:LS) (t:Int),s.wt t=[]→Hds s t→∀ u,Hds s u:=fun s t e h u x o a rest hx ex=>by
  by_cases q:x=t
  ·rw [q,e] at ex;cases ex
  ·exact h x o a rest q ex
 intro n;induction n with
 | zero=>intro s t hl h;exact C s t (List.eq_nil_of_length_eq_zero (by omega)) h
 | succ n ih=>
  intro s t hl h;cases e:s.wt t with
  | nil=>rw [y_e e];exact C s t e h
  | cons p rest=>
   obtain ⟨o,a⟩:=p;by_cases hh:Hdd s o
   ·by_cases hr:Reach s t t
    ·rw [x_x e hh hr];intro u x o' a' A hx ex;have e2:updW s.wt t [] x=(o',a')::A:=ex;unfold updW at e2;by_cases q:x=t
     ·rw [if_pos q] at e2;cases e2
     ·rw [if_neg q] at e2;exact h x o' a' A q e2
    ·rw [y_b e hh hr];intro u x o' a' A hx ex;by_cases q:x=t
     ·rw [q,e] at ex;cases ex;exact hh.1
     ·exact h x o' a' A q ex
   ·rw [y_g e hh];refine ih _ t ?_ (fun x o' a' A hx ex=>?_)
    ·show (updW s.wt t rest t).length≤n;unfold updW;rw [if_pos rfl];rw [e,List.length_cons] at hl;omega
    ·have e2:updW s.wt t rest x=(o',a')::A:=ex;unfold updW at e2;rw [if_neg hx] at e2;exact h x o' a' A hx e2
theorem edge_hind {s:LS} {x y a:Int} {o:LOp} {rest:List (LOp × Int)} (hs:SOk s) (ho:OpOK o) (e:s.wt x=(o,a)::rest) (hk:o.2.1≤1):Edge s x y↔y∈hindL s o:=by
 have hi:o.2.2.toNat < 6:=(by have:=ho.2.2.2.2.1;have:=ho.2.2.2.2.2;omega);have C:=hs.exs _ hi;rw [hindL_mem];unfold hb;constructor
 ·rintro ⟨o',a',r',e',hd⟩;rw [e] at e';cases e';rcases hd with ⟨h1,h2,h3⟩ | ⟨h1,h2,h3,h4⟩
  ·subst h3;refine ⟨by omega,?_⟩;rw [decide_eq_true (show s.ex o.2.2.toNat≠o.1 from h2),decide_eq_true (show o.2.1 < 2 by omega),decide_eq_true (show s.ex o.2.2.toNat=s.ex o.2.2.toNat from rfl)];rfl
  ·refine ⟨hs.keys _ _ hi h3,?_⟩;rw [decide_eq_true (show y≠o.1 from h4),decide_eq_true (show o.2.1=1 from h1),h3];simp
 ·rintro ⟨⟨h1,h6⟩,h⟩;simp only [Bool.and_eq_true,Bool.or_eq_true,decide_eq_true_eq] at h;obtain ⟨A,h | h⟩:=h
  ·exact ⟨o,a,rest,e,.inl ⟨by rw [h.2];omega,by rw [h.2];exact A,h.2.symm⟩⟩
  ·exact ⟨o,a,rest,e,.inr ⟨h.1,z_u (by omega) (by omega),h.2,A⟩⟩
theorem hdd_hind {s:LS} {o:LOp} (hs:SOk s) (ho:OpOK o):Hdd s o↔hindL s o≠[]:=by
 have hi:o.2.2.toNat < 6:=(by have:=ho.2.2.2.2.1;have:=ho.2.2.2.2.2;omega);have G:=hs.exs _ hi;constructor
 ·rintro ⟨hk,y,hd⟩
  have hm:y∈hindL s o:=by
   rw [hindL_mem];unfold hb;rcases hd with ⟨h1,h2,h3⟩ | ⟨h1,h2,h3,h4⟩
   ·subst h3;refine ⟨by omega,?_⟩;rw [decide_eq_true (show s.ex o.2.2.toNat≠o.1 from h2),decide_eq_true (show o.2.1 < 2 by omega),decide_eq_true (show s.ex o.2.2.toNat=s.ex o.2.2.toNat from rfl)];rfl
   ·refine ⟨hs.keys _ _ hi h3,?_⟩;rw [decide_eq_true (show y≠o.1 from h4),decide_eq_true (show o.2.1=1 from h1),h3];simp
  intro h;rw [h] at hm;cases hm
 ·intro h;obtain ⟨y,hy⟩:=List.exists_mem_of_ne_nil _ h;obtain ⟨⟨h1,h6⟩,A⟩:=hindL_mem.1 hy;unfold hb at A;simp only [Bool.and_eq_true,Bool.or_eq_true,decide_eq_true_eq] at A;obtain ⟨C,h | h⟩:=A
  ·exact ⟨by omega,y,.inl ⟨by rw [h.2];omega,by rw [h.2];exact C,h.2.symm⟩⟩
  ·exact ⟨by omega,y,.inr ⟨h.1,z_u (by omega) (by omega),h.2,C⟩⟩
end Go.Proofs.YthdkamnclbfehaaGreatDoor
namespace Go.Proofs.YthdkamnclbfehaaGreatDoor
open Go.RowKit Tryz
def metC (seen:Int→Bool):Array Value:=#[.bool (seen 0),.bool (seen 1),.bool (seen 2),.bool (seen 3),.bool (seen 4),.bool (seen 5),.bool (seen 6)]
theorem metC_get (seen:Int→Bool) {y:Nat} (hy:1≤y∧y≤6):(metC seen)[y]?=some (.bool (seen (y:Int))):=by
 have:y=1∨y=2∨y=3∨y=4∨y=5∨y=6:=(by omega);rcases this with rfl | rfl | rfl | rfl | rfl | rfl <;> rfl
theorem metC_set (seen:Int→Bool) {y:Nat} (hy:1≤y∧y≤6):(metC seen).setIfInBounds y (.bool true)=metC (fun z=>if z=(y:Int) then true else seen z):=by
 have:y=1∨y=2∨y=3∨y=4∨y=5∨y=6:=(by omega);rcases this with rfl | rfl | rfl | rfl | rfl | rfl <;> simp [metC]
theorem Win_blk2 {w:World} {base:Nat} {e:TypeId} {size:Nat} {v:Value} {n:Nat} {xs:List Value} (h:Win w base e size v n xs) {b:Nat} {cs:Array Value} {t:TypeId} (hb:Blk w b cs t) (hne:e≠t):∀ g,v.ownBlock=some g→g≠b:=fun g hg e=>z_d h hb hne (e ▸ hg)
def CRelT (w:World) (s:LS) (t:Int) (gh:Nat) (v:Value) (wr:World):Prop:=
  ∃ (seen:Int→Bool) (q:List Int),gh=q.length+unseen seen∧gh≤7∧Blk wr w.heap.size (metC seen) 244∧Win wr w.heap.size 3 1 v q.length (icells q)∧Bfs s t seen q∧Keep kF w wr
def CInT (w:World) (s:LS) (t x:Int) (l:List Int) (lv:Value) (B m gh:Nat) (v c:Value) (wx:World):Prop:=
  ∃ (i:Nat) (seen:Int→Bool) (q:List Int),gh=l.length - i∧i≤l.length∧c = .int .i64 i∧BfsIn s t x seen q (l.take i)∧q.length+unseen seen=m∧Blk wx w.heap.size (metC seen) 244∧Win wx w.heap.size 3 1 v q.length (icells q)∧
    wx.ownsRow B 3 1 lv l.length (icells l)∧(∀ g,lv.ownBlock=some g→v.ownBlock≠some g)∧Keep kF w wx
theorem TabAt.head {base b:Nat} {w:World} {V:TV} {B:TB} {h:List LOp} {s:LS} (t:TabAt base w b V B h s) {x:Nat} (hx:x < 7) {o:LOp} {a:Int} {rest:List (LOp × Int)} (e:s.wt (x:Int)=(o,a)::rest):∃ (k:Nat) (g oo cap gh ho ch:Nat),a=(k:Int)∧h[k]?=some o∧V.vq x = .slice (some ⟨g,oo,none⟩) (rest.length+1) cap∧w.cell? ⟨g,oo,none⟩=some (.int .i64 (k:Int))∧V.vh = .slice (some ⟨gh,ho,none⟩) h.length ch∧k < h.length∧w.cell? ⟨gh,ho+k * 3,none⟩=some (.int .i64 o.1)∧w.cell? ⟨gh,ho+k * 3+1,none⟩=some (.int .i64 o.2.1)∧w.cell? ⟨gh,ho+k * 3+2,none⟩=some (.int .i64 o.2.2):=by
 obtain ⟨h0,hp⟩:=t.pl (x:Int) (o,a) (by rw [e];exact List.mem_cons_self);obtain ⟨k,hk⟩:=Int.eq_ofNat_of_zero_le h0;have A:a=(k:Int):=hk;rw [show (o,a).2.toNat=k by show a.toNat=k;omega] at hp;have C:k < h.length:=(List.getElem?_eq_some_iff.1 hp).1;have hw:=t.q x hx;rw [e] at hw;rcases hw.shape with ⟨_,h0⟩ | ⟨g,oo,cap,hv,_,_⟩
 ·simp at h0
 ·rw [hv] at hw;have hc:w.cell? ⟨g,oo,none⟩=some (.int .i64 a):=hw.cell (j:=0) (by simp [icells]);obtain ⟨gh,ho,ch,p,J,G,e0,e1,e2⟩:=rd_op t.hs C;rw [hp] at G;cases G;refine ⟨k,g,oo,cap,gh,ho,ch,A,hp,by rw [hv];rfl,by rw [← A];exact hc,J,C,?_,?_,?_⟩
  ·rw [Nat.mul_comm k 3];exact e0
  ·rw [Nat.mul_comm k 3,Nat.add_assoc];exact e1
  ·rw [Nat.mul_comm k 3,Nat.add_assoc];exact e2
theorem caughtT_any {base b:Nat} {w:World} {V:TV} {B:TB} {h:List LOp} {s:LS} {t:Nat} (hT:TabAt base w b V B h s) (ht:1≤t∧t≤6) (hok:∀ x o a rest,s.wt x=(o,a)::rest→OpOK o∧o.2.1≤1) (hs:SOk s) (hW:∀ k:Nat,1≤k→k < 7→B.wts k=decide (s.wt (k:Int)≠[])):Calls prog 179 #[.pointer (some ⟨b,0,none⟩),.int .i64 (t:Int)] w (CirclePost w s (t:Int)):=by
 have HT:=hD hT;clear hT;have HO:=hD hok;clear hok;have HS:=hD hs;clear hs;have HW:=hD hW;clear hW;go_enter func179,ntmps179;go_wp2_with fail
 go_loopg [6] 7 (fun gh v wr=>CRelT w s (t:Int) gh v wr)
 case atStart=>
  have ks:=((Keep.refl kF w).alloc (.cells (metC (fun _=>false)) 244)).alloc (.cells #[.int .i64 (t:Int)] 3);refine ⟨fun _=>false,[(t:Int)],rfl,by omega,?_,?_,Bfs.start s _,ks⟩
  ·exact (Blk.new w (metC fun _=>false) 244).alloc _
  ·refine ⟨rfl,.inr ⟨_,0,1,#[.int .i64 (t:Int)],rfl,by simp,(by rw [show w.heap.size+1=(w.alloc (.cells (metC (fun _=>false)) 244)).heap.size by simp];exact heap_alloc_new _ _),by simp,by unfold maxLen;omega,by simp,by simp [icells]⟩⟩
 case round=>
  obtain ⟨seen,q,hgh,bC,hm,Z,C,hk⟩:=hrel;have ak:=hD hk;have HM:=hD hm;have b7:=hD Z;cases q with
  | nil=>
   have HB:=hD C;clear hk hm Z C hgh;rcases b7.out.shape with ⟨rfl,_⟩ | ⟨g,o,bk,rfl,_,_⟩
   ·go_wp2_with fail
    go_ret;exact ⟨false,rfl,by simpa using HB.out.done,ak.out⟩
   ·simp only [List.length_nil];go_wp2_with fail
    go_ret;exact ⟨false,rfl,by simpa using HB.out.done,ak.out⟩
  | cons x q=>
   have hx:1≤x∧x≤6:=by
    rcases C.qr x (by simp) with e | e
    ·rw [e];omega
    ·exact ⟨(C.sr x e).2.1,(C.sr x e).2.2.1⟩
   obtain ⟨xn,bK⟩:=Int.eq_ofNat_of_zero_le (show 0≤x by omega);have aT:x=(xn:Int):=bK;subst aT;have G:Win wr w.heap.size 3 1 _ (q.length+1) (icells ((xn:Int)::q)):=Z;rcases G.shape with ⟨_,h0⟩ | ⟨g,o,bk,rfl,hc,bM⟩
   ·exact absurd h0 (by omega)
   have cq:wr.cell? ⟨g,o,none⟩=some (.int .i64 (xn:Int)):=G.cell (j:=0) (by simp [icells]);have bj:=hD G.tail';have aK:=HT.out.idle hk;obtain ⟨cw,_⟩:=x_k aK.blk (k:=92+xn) (by omega);rw [tc_w _ _ (by omega),HW.out xn (by omega) (by omega)] at cw;have bW:0 < q.length+1:=(by omega);have al:=hD aK;have aX:=hD C;have bO:q.length+1+unseen seen=gk:=hgh.symm;have x0:(0:Int)≤(xn:Int):=(by omega);have x7:((xn:Int) < 7)=True:=eq_true (by omega);(try simp only [List.length_cons]);clear hk hm Z G C hgh aK;go_upto_region 5 with fail
   go_cut [6] from 19 to 20 (fun s6 wx=>wx=wr∧∃ o2 c2,s6 = .slice (some ⟨g,o2,none⟩) q.length c2∧Win wr w.heap.size 3 1 (.slice (some ⟨g,o2,none⟩) q.length c2) q.length (icells q))
   case first=>
    have bn:(icells ((xn:Int)::q)).drop 1=icells q:=rfl;have aZ:=hD bn;clear bn;by_cases aL:bk=1
    ·have hw:=bj.out;rw [if_pos aL,aZ.out] at hw;subst aL;obtain rfl:q=[]:=List.eq_nil_of_length_eq_zero (by omega);have HW:=hD hw;clear hw;go_wp2_with fail
     go_meet
     exact ⟨rfl,_,_,rfl,HW.out⟩
    ·have hw:=bj.out;rw [if_neg aL,aZ.out] at hw;have HW:=hD hw;clear hw;go_wp2_with fail
     go_meet
     exact ⟨rfl,_,_,rfl,HW.out⟩
   case rest=>
    obtain ⟨rfl,o2,c2,rfl,ac⟩:=hcut;have aG:=hD ac;clear ac;cases ad:s.wt (xn:Int) with
    | nil=>
     have HB:Hid (Bfs s (t:Int) seen q):=hD (aX.out.enter.leave (fun y hy=>by obtain ⟨o,a,rs,e,_⟩:=hy;rw [ad] at e;cases e));rw [ad,show decide (([]:List (LOp × Int))≠[])=false from rfl] at cw;clear ad;go_wp2_with fail
     go_roundg (q.length+unseen seen)
     case measure=>omega
     case rel=>exact ⟨seen,q,rfl,by omega,HM.out,aG.out,HB.out,ak.out⟩
    | cons p rest=>
     obtain ⟨⟨txn,kind,aV⟩,at_⟩:=p;obtain ⟨ho,br⟩:=HO.out _ _ _ _ ad;obtain ⟨kk,hk⟩:=Int.eq_ofNat_of_zero_le ho.2.2.2.2.1;have bE:aV=(kk:Int):=hk;subst bE;obtain ⟨tn,bJ⟩:=Int.eq_ofNat_of_zero_le (show 0≤txn by have:=ho.1;simp at this;omega);have aQ:txn=(tn:Int):=bJ;subst aQ;rw [ad,show decide ((((tn:Int),kind,(kk:Int)),at_)::rest≠[])=true from decide_eq_true (by simp)] at cw;obtain ⟨k3,g3,o3,am,J,R,bl,bB,bD,bx,aM,bu,bF,d0,d1,d2⟩:=al.out.head (show xn < 7 by omega) ad;simp only at d0 d1 d2;obtain ⟨cv,_⟩:=x_k al.out.blk (k:=85+xn) (by omega);rw [tc_q _ _ (by omega),bx] at cv;obtain ⟨ch,_⟩:=x_k al.out.blk (k:=100) (by decide);rw [tc_h,bu] at ch;have bG:((0:Int) < ((rest.length+1:Nat):Int))=True:=eq_true (by omega);have bH:0 < rest.length+1:=(by omega);have aN:(0:Int)≤(k3:Int):=(by omega);have aO:((k3:Int) < (h.length:Int))=True:=eq_true (by omega);have aF:=hD ho;have b0:=hD br;have b8:=hD ad;clear ho ad bx bu hk bB bD br;go_upto_region 7 with fail
     have bL:Hid (∀ n,Calls prog 178 #[.pointer (some ⟨b,0,none⟩),.agg #[.int .i64 (tn:Int),.int .i64 kind,.int .i64 (kk:Int)]] (wc.drewN n) (HindTPost (wc.drewN n) s ((tn:Int),kind,(kk:Int)))):=hD fun n=>hindT_any (al.out.idle ((Keep.refl _ _).drewN n)) aF.out;have aY:Hid (∀ W,Keep kF wc W→W.cell? ⟨b,100,none⟩=some (.slice (some ⟨J,R,none⟩) h.length bl)∧W.cell? ⟨b,85+xn,none⟩=some (.slice (some ⟨g3,o3,none⟩) (rest.length+1) am)∧W.cell? ⟨g3,o3,none⟩=some (.int .i64 (k3:Int))∧W.cell? ⟨J,R+k3 * 3,none⟩=some (.int .i64 (tn:Int))∧W.cell? ⟨J,R+k3 * 3+1,none⟩=some (.int .i64 kind)∧W.cell? ⟨J,R+k3 * 3+2,none⟩=some (.int .i64 (kk:Int))):=hD fun W hk=>⟨(hk.cell (p:=⟨b,100,none⟩) (World.block_lt_of_cell? _ _ ch) (fun e=>e)).trans ch,(hk.cell (p:=⟨b,85+xn,none⟩) (World.block_lt_of_cell? _ _ cv) (fun e=>e)).trans cv,(hk.cell (p:=⟨g3,o3,none⟩) (World.block_lt_of_cell? _ _ aM) (fun e=>e)).trans aM,(hk.cell (p:=⟨J,R+k3 * 3,none⟩) (World.block_lt_of_cell? _ _ d0) (fun e=>e)).trans d0,(hk.cell (p:=⟨J,R+k3 * 3+1,none⟩) (World.block_lt_of_cell? _ _ d1) (fun e=>e)).trans d1,(hk.cell (p:=⟨J,R+k3 * 3+2,none⟩) (World.block_lt_of_cell? _ _ d2) (fun e=>e)).trans d2⟩;have ba:Hid (∀ W,Keep kF wc W→Calls prog 178 #[.pointer (some ⟨b,0,none⟩),.agg #[.int .i64 (tn:Int),.int .i64 kind,.int .i64 (kk:Int)]] W (HindTPost W s ((tn:Int),kind,(kk:Int)))):=hD fun W hk=>hindT_any (al.out.idle hk) aF.out;have ae:Hid (Keep kF wc wc):=hD (Keep.refl _ _);go_region_held3 (fun W=>W.cell? ⟨b,100,none⟩=some (.slice (some ⟨J,R,none⟩) h.length bl)∧W.cell? ⟨b,85+xn,none⟩=some (.slice (some ⟨g3,o3,none⟩) (rest.length+1) am)∧W.cell? ⟨g3,o3,none⟩=some (.int .i64 (k3:Int))∧W.cell? ⟨J,R+k3 * 3,none⟩=some (.int .i64 (tn:Int))∧W.cell? ⟨J,R+k3 * 3+1,none⟩=some (.int .i64 kind)∧W.cell? ⟨J,R+k3 * 3+2,none⟩=some (.int .i64 (kk:Int))) ((refine aY.out _ ?_;exact kX ae.out)) ((go_at_call 178;refine Calls.mono (ba.out _ (by exact kX ae.out)) ?_;rintro e w5 ⟨v5,rfl,aP,bq⟩;obtain ⟨aW,a7,rfl,_⟩:=x_a aP;have ae:=hD (ae.out.trans ((((Keep.refl kF wc).drewN _)).trans bq n3) n3);have bg:=hD aP;clear aP bq))
     obtain ⟨l,hl⟩:∃ l,hindL s ((tn:Int),kind,(kk:Int))=l:=⟨_,rfl⟩;have bf:Hid (∀ y,y∈l↔Edge s (xn:Int) y):=hD (fun y=>by rw [← hl];exact (edge_hind HS.out aF.out b8.out b0.out).symm);have bT:l.length≤6:=(by rw [← hl];exact hindUp_len _ _ _);have b2:Hid (∀ y∈l,1≤y∧y≤6):=hD (fun y hy=>by rw [← hl] at hy;exact (hindL_mem.1 hy).1);rw [hl] at bg ⊢;have aI:w5.ownsRow wc.heap.size 3 1 (.slice aW l.length a7) l.length (icells l):=bg.out;have aJ:=hD aI;have bX:w.heap.size≤wc.heap.size:=ak.out.size;have b1:=hD (ak.out.trans ae.out n3);have b3:=hD (HM.out.keep ae.out (fun e=>e));have b6:=hD (aG.out.keep ae.out n3);have ao:∀ g',(Value.slice aW l.length a7).ownBlock=some g'→(Value.slice (some ⟨g,o2,none⟩) q.length c2).ownBlock≠some g':=fun g' M e=>(by have h1:=(x_d aI g' M).1;have h2:=(aG.out.lt g' e).2;omega);have aA:=hD ao;clear aI ao bG bH d0 d1 d2 cq ch cv cw aM hl aY ba aN aO bF;go_wp2_with fail
     go_loopg [6,45] l.length (fun gh v c wx=>CInT w s (t:Int) (xn:Int) l (.slice aW l.length a7) wc.heap.size (q.length+unseen seen) gh v c wx)
     case atStart=>
      exact ⟨0,seen,q,by omega,by omega,rfl,by rw [List.take_zero];exact aX.out.enter,rfl,b3.out,b6.out,aJ.out,aA.out,b1.out⟩
     case round=>
      obtain ⟨i,A,q2,bN,bR,rfl,ah,az,O,aa,Y,an,ai⟩:=hrel;by_cases hi:i < l.length
      ·obtain ⟨y,hy⟩:∃ y,l[i]?=some y:=⟨_,List.getElem?_eq_getElem hi⟩;have ar:y∈l:=List.mem_of_getElem? hy;have au:=b2.out y ar;obtain ⟨yn,a6⟩:=Int.eq_ofNat_of_zero_le (show 0≤y by omega);have aU:y=(yn:Int):=a6;subst aU;have hE:Edge s (xn:Int) (yn:Int):=(bf.out _).1 ar;have a1:l.take (i+1)=l.take i++[(yn:Int)]:=(by rw [List.take_add_one,hy];rfl);have hms:=az;rcases Y.2 with ⟨e,h0⟩ | ⟨g5,bA,cur,e,_⟩
       ·exact absurd hi (by omega)
       have e':=e;injection e' with e1 e2 e3;subst e1;have cy:=Y.cells (g:=g5) rfl i (.int .i64 (yn:Int)) (by simp [icells,hy]);rw [z_c,Nat.zero_add] at cy;have bQ:((i:Int) < (l.length:Int))=True:=eq_true (by omega);have bP:((0:Int)≤(i:Int))=True:=eq_true (by omega);have y0:(0:Int)≤(yn:Int):=(by omega);have y7:((yn:Int) < 7)=True:=eq_true (by omega);have bS:IntKind.i64.wrap ((i:Int)+1)=((i+1:Nat):Int):=(by rw [show ((i:Int)+1)=((i+1:Nat):Int) by omega];exact IntWalk.i64_in _ (by omega));have cm:=(O.cell yn).trans (metC_get A (by omega));have fm:=O.free yn;have av:=hD ah;have bi:=hD a1;have HE:=hD hE;have b9:=hD au;have aC:=hD O;have ag:=hD aa;have b4:=hD Y;have a8:=hD an;have aw:=hD ai;cases bz:((yn:Int) == (t:Int))
       ·have U:(yn:Int)≠(t:Int):=(by simpa using bz);have aH:=hD U;clear U;cases aj:A (yn:Int)
        ·rw [aj] at cm;have bt:=unseen_step au aj;have X:Keep (fun k=>k=w.heap.size) wr (wr.setCell ⟨w.heap.size,yn,none⟩ (.bool true)):=(Keep.refl _ _).setCell _ _ (fun _=>rfl);have b5:=hD bt;have aD:Hid (Blk (wr.setCell ⟨w.heap.size,yn,none⟩ (.bool true)) w.heap.size (metC (fun z=>if z=(yn:Int) then true else A z)) 244):=hD (by rw [← metC_set A (by omega)];exact O.set yn (.bool true));have ax:Hid (Win (wr.setCell ⟨w.heap.size,yn,none⟩ (.bool true)) w.heap.size 3 1 _ q2.length (icells q2)):=hD (aa.keep X (fun g' M e=>Win_blk2 aa O (by decide) g' M e));have aE:Hid ((wr.setCell ⟨w.heap.size,yn,none⟩ (.bool true)).ownsRow wc.heap.size 3 1 (.slice (some ⟨g5,0,none⟩) l.length a7) l.length (icells l)):=hD (x_b Y X (fun g' M e=>x_c Y O (by decide) (e ▸ M)));have aB:Hid (Keep kF w (wr.setCell ⟨w.heap.size,yn,none⟩ (.bool true))):=hD (ai.trans X (fun i hi e=>by have e':i=w.heap.size:=e;omega));have aq:w.heap.size≤(wr.setCell ⟨w.heap.size,yn,none⟩ (.bool true)).heap.size:=aB.out.size;have bI:q2.length≤10:=(by omega);have bh:=hD aj;clear ah O aa Y an ai hy ar au hE a1 e e2 e3 aj X bt a6;obtain ⟨w6,aS⟩:∃ w6,w6=wr.setCell ⟨w.heap.size,yn,none⟩ (.bool true):=⟨_,rfl⟩;rw [← aS] at aD ax aE aB aq;go_upto_region 14 with fail
         rw [← aS];clear aS cm fm;go_wp2_with (at_builtin;refine wpList_win (w:=w6.alloc (.cells #[.int .i64 (yn:Int)] 3)) rfl (.tmp 58) (.tmp 60) 34 34 rfl 3 (.int .i64 0) 1 8 underlying34 v_h rfl (ax.out.keep ((Keep.refl kF w6).alloc (.cells #[.int .i64 (yn:Int)] 3)) n3) rfl (Src.new (P:=prog) underlying34 w6 1 [.int .i64 (yn:Int)] 3 rfl (by simp [Value.oneCell'])) rfl (by unfold maxLen;omega) (by omega) (Nat.le_trans aq ((Keep.refl kF w6).alloc (.cells #[.int .i64 (yn:Int)] 3)).size) (fun v' w7 happ=>?_))
         have ka:=(Keep.refl kF w6).alloc (.cells #[.int .i64 (yn:Int)] 3);go_roundg (l.length - (i+1))
         case measure=>omega
         case rel=>
          refine ⟨i+1,(fun z=>if z=(yn:Int) then true else A z),q2++[(yn:Int)],rfl,by omega,rfl,by rw [bi.out];exact av.out.push HE.out b9.out aH.out,by have:=b5.out;simp only [List.length_append,List.length_singleton];omega,?_,?_,?_,?_,?_⟩
          ·exact (aD.out.keep ka (fun e=>e)).keep happ.keep (fun e=>z_d (ax.out.keep ka n3) (aD.out.keep ka (fun e=>e)) (by decide) e)
          ·have:=happ.own;simpa [icells,List.map_append] using this
          ·exact x_b (aE.out.alloc _) happ.keep (fun g' M e=>a8.out g' M e)
          ·intro g' M e;have bU:=(x_d aE.out g' M).2;rcases happ.fresh with e2 | ⟨g7,e2,bC⟩
           ·rw [e2] at e;exact a8.out g' M e
           ·rw [e2] at e;cases e;have:=ka.size;omega
          ·exact (aB.out.trans ka n3).trans happ.keep (fun g' M e=>by have:=(ax.out.lt g' e).1;omega)
        ·rw [aj] at cm;have bh:=hD aj;clear ah O aa Y an ai hy ar au hE a1 e e2 e3 aj a6;go_wp2_with fail
         go_roundg (l.length - (i+1))
         case measure=>omega
         case rel=>exact ⟨i+1,A,q2,rfl,by omega,rfl,by rw [bi.out];exact av.out.seen bh.out,hms,aC.out,ag.out,b4.out,a8.out,aw.out⟩
       ·have U:(yn:Int)=(t:Int):=(by simpa using bz);have aH:=hD U;clear ah O aa Y an ai hy ar au hE a1 e e2 e3 az hms U a6;go_wp2_with fail
        go_ret;refine ⟨true,rfl,⟨fun _=>?_,fun _=>rfl⟩,aw.out⟩;have ay:=HE.out;rw [aH.out] at ay;rcases av.out.xr with e | e
        ·rw [e] at ay;exact .one ay
        ·exact .more (av.out.sr _ e).1 ay
      ·have bp:i=l.length:=(by omega);have HB:Hid (Bfs s (t:Int) A q2):=hD (by rw [bp,List.take_length] at ah;exact ah.leave (fun y hy=>(bf.out y).2 hy));have bV:((i:Int) < (l.length:Int))=False:=eq_false (by omega);have aC:=hD O;have ag:=hD aa;have aw:=hD ai;have hms:=az;clear ah O aa Y an ai az bp;go_wp2_with fail
       go_roundg (q2.length+unseen A)
       case measure=>omega
       case rel=>exact ⟨A,q2,rfl,by omega,aC.out,ag.out,HB.out,aw.out⟩
end Go.Proofs.YthdkamnclbfehaaGreatDoor
namespace Go.Proofs.YthdkamnclbfehaaGreatDoor
open Go.RowKit
def TB.setW (B:TB) (t:Nat) (v:Bool):TB:={B with wts:=fun k=>if k=t then v else B.wts k}
def TV.setQ (V:TV) (t:Nat) (v:Value):TV:={V with vq:=fun k=>if k=t then v else V.vq k}
theorem setW_step (V:TV) (B:TB) {t:Nat} (ht:t < 7) (v:Bool):(tabC V B).setIfInBounds (92+t) (.bool v)=tabC V (B.setW t v):=by
 refine u_a fun j hj=>?_;by_cases q:j=92+t
 ·rw [if_pos q,q,tc_w V _ ht];show Value.bool (if t=t then v else B.wts t)=_;rw [if_pos rfl]
 ·rw [if_neg q];unfold tcell TB.setW;by_cases h0:j=0
  ·rw [if_pos h0,if_pos h0]
  ·rw [if_neg h0,if_neg h0];by_cases h1:j < 43
   ·rw [if_pos h1,if_pos h1]
   ·rw [if_neg h1,if_neg h1];by_cases h2:j < 85
    ·rw [if_pos h2,if_pos h2]
    ·rw [if_neg h2,if_neg h2];by_cases h3:j < 92
     ·rw [if_pos h3,if_pos h3]
     ·rw [if_neg h3,if_neg h3];by_cases h4:j < 99
      ·rw [if_pos h4,if_pos h4];dsimp only;congr 1;exact if_neg (show ¬ (j - 92=t) from fun e=>q (by omega))
      ·rw [if_neg h4,if_neg h4]
theorem setQ_step (V:TV) (B:TB) {t:Nat} (ht:t < 7) (v:Value):(tabC V B).setIfInBounds (85+t) v=tabC (V.setQ t v) B:=by
 refine u_a fun j hj=>?_;by_cases q:j=85+t
 ·rw [if_pos q,q,tc_q _ _ ht];show (if t=t then v else V.vq t)=_;rw [if_pos rfl]
 ·rw [if_neg q];unfold tcell TV.setQ;by_cases h0:j=0
  ·rw [if_pos h0,if_pos h0]
  ·rw [if_neg h0,if_neg h0];by_cases h1:j < 43
   ·rw [if_pos h1,if_pos h1]
   ·rw [if_neg h1,if_neg h1];by_cases h2:j < 85
    ·rw [if_pos h2,if_pos h2]
    ·rw [if_neg h2,if_neg h2];by_cases h3:j < 92
     ·rw [if_pos h3,if_pos h3];exact if_neg (show ¬ (j - 85=t) from fun e=>q (by omega))
     ·rw [if_neg h3,if_neg h3]
theorem setA_step (V:TV) (B:TB) (v:Value):(tabC V B).setIfInBounds 99 v=tabC {V with va:=v} B:=by
 refine u_a fun j hj=>?_;by_cases q:j=99
 ·rw [if_pos q,q];rfl
 ·rw [if_neg q];unfold tcell;by_cases h0:j=0
  ·rw [if_pos h0,if_pos h0]
  ·rw [if_neg h0,if_neg h0];by_cases h1:j < 43
   ·rw [if_pos h1,if_pos h1]
   ·rw [if_neg h1,if_neg h1];by_cases h2:j < 85
    ·rw [if_pos h2,if_pos h2]
    ·rw [if_neg h2,if_neg h2];by_cases h3:j < 92
     ·rw [if_pos h3,if_pos h3]
     ·rw [if_neg h3,if_neg h3];by_cases h4:j < 99
      ·rw [if_pos h4,if_pos h4]
      ·rw [if_neg h4,if_neg h4,if_neg q,if_neg q]
theorem TabAt.keepB {base b:Nat} {w:World} {V:TV} {B:TB} {h:List LOp} {s:LS} (t:TabAt base w b V B h s) (k:Nat) (v:Value):Keep (fun k=>k=b) w (w.setCell ⟨b,k,none⟩ v):=(Keep.refl _ w).setCell _ _ (fun _=>rfl)
theorem TabAt.wset {base b:Nat} {w:World} {V:TV} {B:TB} {h:List LOp} {s:LS} (T:TabAt base w b V B h s) {t:Nat} (ht:t < 7) (v:Bool):TabAt base (w.setCell ⟨b,92+t,none⟩ (.bool v)) b V (B.setW t v) h s:=
  T.turn (T.keepB _ _) (by have:=T.blk.set (92+t) (.bool v);rw [setW_step V B ht v] at this;exact this) rfl rfl rfl T.sh T.own
theorem TabAt.qset {base b:Nat} {w:World} {V:TV} {B:TB} {h:List LOp} {s:LS} (T:TabAt base w b V B h s) {t:Nat} (ht:t < 7) {v':Value} {l:List (LOp × Int)} (hw:Win w base 3 1 v' l.length (icells (l.map Prod.snd))) (hb:∀ g,v'.ownBlock=some g→(V.vq t).ownBlock=some g) (hl:∀ p∈l,p∈s.wt (t:Int)):TabAt base (w.setCell ⟨b,85+t,none⟩ v') b (V.setQ t v') B h {s with wt:=updW s.wt (t:Int) l}:=by
 have k:=T.keepB (85+t) v';have G:=T.blk.set (85+t) v';rw [setQ_step V B ht v'] at G;refine ⟨G,x_b T.done k (fun g hg e=>x_c T.done T.blk (by decide) (e ▸ hg)),x_b T.ab k (fun g hg e=>x_c T.ab T.blk (by decide) (e ▸ hg)),fun u hu=>?_,fun u hu g hg=>?_,fun u x hu hx g h1 h2=>?_,T.hs.keep k (fun g hg e=>by have:=T.hb g hg;have:=T.ge;omega),T.hb,T.sh,T.own,T.ge,fun u p hp=>?_⟩
 ·show Win _ base 3 1 (if u=t then v' else V.vq u) (updW s.wt (t:Int) l (u:Int)).length (icells ((updW s.wt (t:Int) l (u:Int)).map Prod.snd));unfold updW;by_cases e:u=t
  ·rw [if_pos e,if_pos (by omega)];exact hw.keep k (fun g hg e=>z_d hw T.blk (by decide) (e ▸ hg))
  ·rw [if_neg e,if_neg (by omega)];exact (T.q u hu).keep k (fun g hg e=>z_d (T.q u hu) T.blk (by decide) (e ▸ hg))
 ·have M:(if u=t then v' else V.vq u).ownBlock=some g:=hg;by_cases e:u=t
  ·rw [if_pos e] at M;exact T.qa t ht g (hb g M)
  ·rw [if_neg e] at M;exact T.qa u hu g M
 ·have A:(if u=t then v' else V.vq u).ownBlock=some g:=h1;have C:(if x=t then v' else V.vq x).ownBlock=some g:=h2;by_cases e:u=t
  ·by_cases e2:x=t
   ·rw [e,e2]
   ·rw [if_pos e] at A;rw [if_neg e2] at C;rw [e];exact T.qq t x ht hx g (hb g A) C
  ·by_cases e2:x=t
   ·rw [if_neg e] at A;rw [if_pos e2] at C;rw [e2];exact T.qq u t hu ht g A (hb g C)
   ·rw [if_neg e] at A;rw [if_neg e2] at C;exact T.qq u x hu hx g A C
 ·have J:p∈updW s.wt (t:Int) l u:=hp;unfold updW at J;by_cases e:u=(t:Int)
  ·rw [if_pos e] at J;exact T.pl (t:Int) p (hl p J)
  ·rw [if_neg e] at J;exact T.pl u p J
theorem TabAt.aset {base b:Nat} {w w7:World} {V:TV} {B:TB} {h:List LOp} {s:LS} {t:Int} {v':Value} (T:TabAt base w b V B h s) (a:App w base 3 1 V.va s.ab.length (icells s.ab) 1 [.int .i64 t] v' w7):TabAt base (w7.setCell ⟨b,99,none⟩ v') b {V with va:=v' } B h {s with ab:=s.ab++[t]}∧Keep (fun k=>base≤k) w (w7.setCell ⟨b,99,none⟩ v'):=by
 have G:=T.blk.keep a.keep (x_c T.ab T.blk (by decide));have k:Keep (fun k=>k=b) w7 (w7.setCell ⟨b,99,none⟩ v'):=(Keep.refl _ w7).setCell _ _ (fun _=>rfl);have C:=G.set 99 v';rw [setA_step V B v'] at C;have J:w7.ownsRow base 3 1 v' (s.ab++[t]).length (icells (s.ab++[t])):=(by have:=a.own;rw [List.length_append,show icells (s.ab++[t])=icells s.ab++[.int .i64 t] by simp [icells]];exact this);have A:=x_b T.done a.keep (fun g hg q=>x_f T.ab T.done (by decide) g q hg);have hq:=fun u hu=>(T.q u hu).keep a.keep (fun g hg q=>T.qa u hu g hg q);have O:=T.hs.keep a.keep (fun g hg q=>by have:=T.hb g hg;have:=(x_d T.ab g q).1;omega);refine ⟨⟨C,x_b A k (fun g hg e=>x_c A G (by decide) (e ▸ hg)),x_b J k (fun g hg e=>x_c J G (by decide) (e ▸ hg)),fun u hu=>(hq u hu).keep k (fun g hg e=>z_d (hq u hu) G (by decide) (e ▸ hg)),fun u hu g hg e=>?_,T.qq,O.keep k (fun g hg e=>by have:=T.hb g hg;have:=T.ge;omega),T.hb,T.sh,T.own,T.ge,T.pl⟩,(a.keep.mono (fun i _ e=>(x_d T.ab i e).1)).trans k (fun i _ e=>by have e':i=b:=e;rw [e'];exact T.ge)⟩;have e':v'.ownBlock=some g:=e;have M:(V.vq u).ownBlock=some g:=hg;rcases a.fresh with f | ⟨g2,f,h2⟩
 ·exact T.qa u hu g M (f ▸ e')
 ·rw [f] at e';have e2:g2=g:=Option.some.inj e';have:=((T.q u hu).lt g M).2;omega
theorem act_wt (s:LS) (o:LOp) (f:Int→List (LOp × Int)) (d:List LOp):{actS {s with wt:=f} o with done:=d} = {actS s o with done:=d,wt:=f}:=by
 unfold actS takeS relS;split
 ·split <;> rfl
 ·rfl
theorem abort_eq (s:LS) (t:Int):{actS {s with wt:=updW s.wt t [],ab:=s.ab++[t]} (t,3,0) with done:=s.done++[(t,3,0)]}=abortS s t:=by
 unfold actS relS abortS;rw [if_neg (show ¬ (3:Int)≤1 by decide)];rfl
end Go.Proofs.YthdkamnclbfehaaGreatDoor
namespace Go.Proofs.YthdkamnclbfehaaGreatDoor
open Go.RowKit Tryz
theorem blk_ne {w:World} {b b':Nat} {c c':Array Value} {t t':TypeId} (h:Blk w b c t) (h':Blk w b' c' t') (ht:t≠t'):b≠b':=fun e=>by
  subst e
  unfold Blk at h h'
  rw [h] at h'
  cases h'
  exact ht rfl
structure GoT (base b:Nat) (h:List LOp) (t:Nat) (wx:World) (V:TV) (B:TB) (s:LS):Prop where
  tab:TabAt base wx b V B h s
  ok:Ok s
  sok:SOk s
  hds:Hds s (t:Int)
  wt:B.wts t=false
  wo:∀ k:Nat,1≤k→k < 7→k≠t→B.wts k=decide (s.wt (k:Int)≠[])
theorem GoT.idle {base b t:Nat} {h:List LOp} {wx wy:World} {V:TV} {B:TB} {s:LS} (g:GoT base b h t wx V B s) (k:Keep kF wx wy):GoT base b h t wy V B s:=⟨g.tab.idle k,g.ok,g.sok,g.hds,g.wt,g.wo⟩
def GoTPost (base b:Nat) (h:List LOp) (s':LS) (w:World) (e:Ending) (w':World):Prop:=
  e = .returned (.tuple #[])∧(∃ V' B',TabAt base w' b V' B' h s'∧∀ k:Nat,1≤k→k < 7→B'.wts k=decide (s'.wt (k:Int)≠[]))∧Keep (fun k=>base≤k) w w'
theorem goOnT_walk {base b:Nat} {w:World} {V:TV} {B:TB} {h:List LOp} {s:LS} {t:Nat} (hT:TabAt base w b V B h s) (ht:1≤t∧t≤6) (hok:Ok s) (hs:SOk s) (hd:Hds s (t:Int)) (hbw:base≤w.heap.size) (hW:∀ k:Nat,1≤k→k < 7→k≠t→B.wts k=decide (s.wt (k:Int)≠[])):Calls prog 151 #[.pointer (some ⟨b,0,none⟩),.int .i64 (t:Int)] w (GoTPost base b h (goOnT s (t:Int)) w):=by
 obtain ⟨c0,f0⟩:=x_k hT.blk (k:=92+t) (by omega);rw [tc_w _ _ (by omega)] at c0;have t0:(0:Int)≤(t:Int):=(by omega);have t7:((t:Int) < 7)=True:=eq_true (by omega);have aP:Hid (GoT base b h t (w.setCell ⟨b,92+t,none⟩ (.bool false)) V (B.setW t false) s):=hD ⟨hT.wset (by omega) false,hok,hs,hd,by show (if t=t then false else B.wts t)=false;rw [if_pos rfl],fun k h1 h2 h3=>by show (if k=t then false else B.wts k)=_;rw [if_neg h3];exact hW k h1 h2 h3⟩;have aS:Hid (Keep (fun k=>base≤k) w (w.setCell ⟨b,92+t,none⟩ (.bool false))):=hD ((hT.keepB (92+t) (.bool false)).mono (fun k _ e=>by have e':k=b:=e;rw [e'];exact hT.ge));have aN:=hD hbw;clear hT hok hs hd hW hbw;go_enter func151,ntmps151;go_wp2_with fail
 obtain ⟨w1,bD⟩:∃ w1,w1=w.setCell ⟨b,92+t,none⟩ (.bool false):=⟨_,rfl⟩;rw [← bD] at aP aS ⊢;clear bD c0 f0;obtain ⟨bK,az⟩:∃ n,(s.wt (t:Int)).length=n:=⟨_,rfl⟩;have bx:=hD az;clear az;go_loopg [] bK (fun gh wx=>∃ (V':TV) (B':TB) (s':LS),gh=(s'.wt (t:Int)).length∧GoT base b h t wx V' B' s'∧(goOnS gh s' (t:Int)).1=goOnT s (t:Int)∧Keep (fun k=>base≤k) w wx)
 case atStart=>exact ⟨V,B.setW t false,s,bx.out.symm,aP.out,by rw [← bx.out];rfl,aS.out⟩
 case round=>
  clear aP aS;obtain ⟨V1,B1,s1,hgh,hg,J,hk⟩:=hrel;have R:=hD hg;have aG:=hD J;have HK:=hD hk;cases ad:s1.wt (t:Int) with
  | nil=>
   have hw:=hg.tab.q t (by omega);rw [ad] at hw
   obtain ⟨qo,qc,aq⟩:∃ qo qc,V1.vq t = .slice qo 0 qc:=by
    rcases hw.shape with ⟨e,_⟩ | ⟨g,o,bX,e,_⟩
    ·exact ⟨_,_,e⟩
    ·exact ⟨_,_,e⟩
   obtain ⟨cv,_⟩:=x_k hg.tab.blk (k:=85+t) (by omega);rw [tc_q _ _ (by omega),aq] at cv;have U:=hD ad;clear hw aq hg J hk ad hgh;go_wp2_with fail
   go_end0
   have J:=aG.out;rw [y_e U.out] at J;rw [← J];refine ⟨rfl,⟨V1,B1,R.out.tab,fun k h1 h2=>?_⟩,HK.out⟩;by_cases e:k=t
   ·rw [e,R.out.wt,U.out];rfl
   ·exact R.out.wo k h1 h2 e
  | cons p rest=>
   obtain ⟨⟨txn,kind,br⟩,at_⟩:=p;obtain ⟨_,_,ho,bB⟩:=hg.ok.keys ad;obtain ⟨kk,b8⟩:=Int.eq_ofNat_of_zero_le ho.2.2.2.2.1;have bP:br=(kk:Int):=b8;subst bP;obtain ⟨tn,bA⟩:=Int.eq_ofNat_of_zero_le (show 0≤txn by have:=ho.1;simp at this;omega);have bp:txn=(tn:Int):=bA;subst bp;have bS:tn=t:=(by have h9:(tn:Int)=(t:Int):=bB;omega);subst bS;obtain ⟨k3,g3,o3,A,X,O,b5,bL,bO,aq,bi,bC,bQ,d0,d1,d2⟩:=hg.tab.head (show tn < 7 by omega) ad;simp only at d0 d1 d2;obtain ⟨cv,_⟩:=x_k hg.tab.blk (k:=85+tn) (by omega);rw [tc_q _ _ (by omega),aq] at cv;obtain ⟨ch,_⟩:=x_k hg.tab.blk (k:=100) (by decide);rw [tc_h,bC] at ch;have bZ:((0:Int) < ((rest.length+1:Nat):Int))=True:=eq_true (by omega);have cb:0 < rest.length+1:=(by omega);have bk:(0:Int)≤(k3:Int):=(by omega);have bl:((k3:Int) < (h.length:Int))=True:=eq_true (by omega);have aH:=hD ho;have U:=hD ad;have aZ:=hD aq;have bj:gk=rest.length+1:=(by rw [hgh,ad];rfl);have bu:Hid (∀ W,Keep kF wr W→W.cell? ⟨b,100,none⟩=some (.slice (some ⟨X,O,none⟩) h.length b5)∧W.cell? ⟨b,85+tn,none⟩=some (.slice (some ⟨g3,o3,none⟩) (rest.length+1) A)∧W.cell? ⟨g3,o3,none⟩=some (.int .i64 (k3:Int))∧W.cell? ⟨X,O+k3 * 3,none⟩=some (.int .i64 (tn:Int))∧W.cell? ⟨X,O+k3 * 3+1,none⟩=some (.int .i64 kind)∧W.cell? ⟨X,O+k3 * 3+2,none⟩=some (.int .i64 (kk:Int))):=hD fun W hk=>⟨(hk.cell (p:=⟨b,100,none⟩) (World.block_lt_of_cell? _ _ ch) (fun e=>e)).trans ch,(hk.cell (p:=⟨b,85+tn,none⟩) (World.block_lt_of_cell? _ _ cv) (fun e=>e)).trans cv,(hk.cell (p:=⟨g3,o3,none⟩) (World.block_lt_of_cell? _ _ bi) (fun e=>e)).trans bi,(hk.cell (p:=⟨X,O+k3 * 3,none⟩) (World.block_lt_of_cell? _ _ d0) (fun e=>e)).trans d0,(hk.cell (p:=⟨X,O+k3 * 3+1,none⟩) (World.block_lt_of_cell? _ _ d1) (fun e=>e)).trans d1,(hk.cell (p:=⟨X,O+k3 * 3+2,none⟩) (World.block_lt_of_cell? _ _ d2) (fun e=>e)).trans d2⟩;have b0:Hid (Keep kF wr wr):=hD (Keep.refl _ _);clear ho ad aq bC bL bO b8 bA bB hg J hk hgh;go_upto_region 2 with fail
   go_region_held3 (fun W=>W.cell? ⟨b,100,none⟩=some (.slice (some ⟨X,O,none⟩) h.length b5)∧W.cell? ⟨b,85+tn,none⟩=some (.slice (some ⟨g3,o3,none⟩) (rest.length+1) A)∧W.cell? ⟨g3,o3,none⟩=some (.int .i64 (k3:Int))∧W.cell? ⟨X,O+k3 * 3,none⟩=some (.int .i64 (tn:Int))∧W.cell? ⟨X,O+k3 * 3+1,none⟩=some (.int .i64 kind)∧W.cell? ⟨X,O+k3 * 3+2,none⟩=some (.int .i64 (kk:Int))) ((refine bu.out _ ?_;repeat (first | exact b0.out | apply Keep.drewN | apply Keep.drew | apply Keep.alloc | refine Keep.setCell ?_ _ _ (fun h=>absurd h (by simp))))) (fail)
   obtain ⟨w2,aK⟩:∃ w2,w2=(wr.alloc (.cells #[.int .i64 (tn:Int),.int .i64 kind,.int .i64 (kk:Int)] 209)).drew:=⟨_,rfl⟩;obtain ⟨r,aa⟩:∃ r,r=wr.heap.size:=⟨_,rfl⟩;have bz:Hid (Keep kF wr w2):=hD (by rw [aK];exact ((Keep.refl _ _).alloc _).drew);have aD:Hid (Blk w2 r #[.int .i64 (tn:Int),.int .i64 kind,.int .i64 (kk:Int)] 209):=hD (by rw [aK,aa];exact (Blk.new _ _ _).drew);rw [← aK,← aa];clear aK aa bu b0 d0 d1 d2 cv ch bi bk bl bQ;have d0:w2.cell? ⟨r,0,none⟩=some (.int .i64 (tn:Int)):=aD.out.cell 0;have d1:w2.cell? ⟨r,1,none⟩=some (.int .i64 kind):=aD.out.cell 1;have d2:w2.cell? ⟨r,2,none⟩=some (.int .i64 (kk:Int)):=aD.out.cell 2;have aF:=hD (R.out.idle bz.out);have au:Hid (Keep (fun k=>base≤k) w w2):=hD (HK.out.trans bz.out (fun _ _ e=>e.elim));have HH:=hD (hindT_any aF.out.tab aH.out);have ax:=hdd_hind aF.out.sok aH.out;obtain ⟨l,hl⟩:∃ l,hindL s1 ((tn:Int),kind,(kk:Int))=l:=⟨_,rfl⟩;rw [hl] at ax;have HL:=hD hl;clear hl;by_cases a7:l=[]
   ·have b9:¬ Hdd s1 ((tn:Int),kind,(kk:Int)):=fun q=>ax.1 q a7;have b1:=hD b9;subst a7;clear ax b9;go_upto_region 10 with (go_at_call 178;refine Calls.mono HH.out ?_;rintro e w5 ⟨v5,rfl,ai,a6⟩;rw [HL.out] at ai;obtain ⟨bU,bT,rfl,_⟩:=x_a ai;have al:=hD a6;clear ai a6)
    have C:=hD (aF.out.idle al.out);have ag:Hid (Keep (fun k=>base≤k) w w5):=hD (au.out.trans al.out (fun _ _ e=>e.elim));have bh:=aD.out.keep al.out (fun e=>e);obtain ⟨cv,fv⟩:=x_k C.out.tab.blk (k:=85+tn) (by omega);rw [tc_q _ _ (by omega),aZ.out] at cv;have ak:=C.out.tab.q tn (by omega);rw [U.out,aZ.out] at ak;have Y:=(show Win w5 base 3 1 (.slice (some ⟨g3,o3,none⟩) (rest.length+1) A) (rest.length+1) _ from ak).tail';rw [show (icells (((((tn:Int),kind,(kk:Int)),at_)::rest).map Prod.snd)).drop 1=icells (rest.map Prod.snd) from rfl] at Y;obtain ⟨o4,bn⟩:∃ o4,o4=if A=1 then o3 else o3+1:=⟨_,rfl⟩;rw [← bn] at Y;have bR:∀ W,(Instr.slice 34 (.slice (some ⟨g3,o3,none⟩) (rest.length+1) A) (some (.int .i64 1)) none none).run prog W = .ok (.slice (some ⟨g3,o4,none⟩) rest.length (A - 1)) W:=fun W=>(by rw [bn];exact run_tail34 W g3 o3 (rest.length+1) A (by omega));have an:=hD ((C.out.tab.qset (t:=tn) (by omega) (v':=.slice (some ⟨g3,o4,none⟩) rest.length (A - 1)) (l:=rest) Y (fun g hg=>by rw [aZ.out];exact hg) (fun p hp=>by rw [U.out];exact List.mem_cons_of_mem _ hp)).idle ((Keep.refl _ _).drew));have am:Hid (Keep (fun k=>base≤k) w ((w5.setCell ⟨b,85+tn,none⟩ (.slice (some ⟨g3,o4,none⟩) rest.length (A - 1))).drew)):=hD ((ag.out.trans (C.out.tab.keepB _ _) (fun k _ e=>by have e':k=b:=e;rw [e'];exact C.out.tab.ge)).drew);have aE:Hid (Blk ((w5.setCell ⟨b,85+tn,none⟩ (.slice (some ⟨g3,o4,none⟩) rest.length (A - 1))).drew) r #[.int .i64 (tn:Int),.int .i64 kind,.int .i64 (kk:Int)] 209):=hD ((Blk.setOther bh _ _ (blk_ne bh C.out.tab.blk (by decide))).drew);clear ak Y bn d0 d1 d2 bh;go_still_tail 12,(by kernel_rfl)
    change wpList _ _ _ _ _ w5.drew;go_upto_region 11 with fail
    obtain ⟨w6,ac⟩:∃ w6,w6=(w5.setCell ⟨b,85+tn,none⟩ (.slice (some ⟨g3,o4,none⟩) rest.length (A - 1))).drew:=⟨_,rfl⟩;rw [← ac] at an am aE;rw [← ac];clear ac cv fv bR;have d0:w6.cell? ⟨r,0,none⟩=some (.int .i64 (tn:Int)):=aE.out.cell 0;have d1:w6.cell? ⟨r,1,none⟩=some (.int .i64 kind):=aE.out.cell 1;have d2:w6.cell? ⟨r,2,none⟩=some (.int .i64 (kk:Int)):=aE.out.cell 2;have ay:s1.done.length≤1000:=(by have:=R.out.ok.tot;unfold tot at this;omega);have aO:=hD (doT_any (kind:=kind) (i:=kk) an.out aH.out (Nat.le_trans aN.out am.out.size) ay (fun e=>by have:=not_hdd_ex b1.out (by show kind≤1;omega);exact this));clear ay;go_wp2_with (go_at_call 180;refine Calls.mono aO.out ?_;rintro e w7 ⟨rfl,bV,B7,aA,bE,Z⟩;have ao:=hD aA;have b4:=hD bE;have ae:=hD (am.out.trans Z n3);clear aA bE Z)
    go_roundg rest.length
    case measure=>omega
    case rel=>
     have aA:=ao.out;rw [act_wt s1 ((tn:Int),kind,(kk:Int)) (updW s1.wt (tn:Int) rest) (s1.done++[((tn:Int),kind,(kk:Int))])] at aA;have J:=aG.out;rw [bj,y_g U.out b1.out] at J;refine ⟨_,B7,doS s1 (tn:Int) ((tn:Int),kind,(kk:Int)) rest,by show rest.length=(updW s1.wt (tn:Int) rest (tn:Int)).length;unfold updW;rw [if_pos rfl],⟨aA,R.out.ok.do_ U.out,(R.out.sok.act aH.out).same rfl rfl,fun x o' a' rest' hx ex=>?_,by rw [b4.out];exact R.out.wt,fun k h1 h2 h3=>?_⟩,J,ae.out⟩
     ·have e2:updW s1.wt (tn:Int) rest x=(o',a')::rest':=ex;unfold updW at e2;rw [if_neg hx] at e2;exact R.out.hds x o' a' rest' hx e2
     ·rw [b4.out,R.out.wo k h1 h2 h3];show _=decide (updW s1.wt (tn:Int) rest (k:Int)≠[]);unfold updW;rw [if_neg (by omega)]
   ·have hh:Hdd s1 ((tn:Int),kind,(kk:Int)):=ax.2 a7;have aQ:=hD hh;have bY:0 < l.length:=List.length_pos_iff.2 a7;clear ax hh a7;go_upto_region 4 with (go_at_call 178;refine Calls.mono HH.out ?_;rintro e w5 ⟨v5,rfl,ai,a6⟩;rw [HL.out] at ai;obtain ⟨bU,bT,rfl,_⟩:=x_a ai;have al:=hD a6;clear ai a6)
    have C:=hD (aF.out.idle al.out);have ag:Hid (Keep (fun k=>base≤k) w w5):=hD (au.out.trans al.out (fun _ _ e=>e.elim));obtain ⟨c5,f5⟩:=x_k C.out.tab.blk (k:=92+tn) (by omega);go_upto_region 5 with fail
    obtain ⟨w6,ac⟩:∃ w6,w6=w5.setCell ⟨b,92+tn,none⟩ (.bool true):=⟨_,rfl⟩;have an:Hid (TabAt base w6 b V1 (B1.setW tn true) h s1):=hD (by rw [ac];exact C.out.tab.wset (by omega) true);have am:Hid (Keep (fun k=>base≤k) w w6):=hD (by rw [ac];exact ag.out.trans (C.out.tab.keepB _ _) (fun k _ e=>by have e':k=b:=e;rw [e'];exact C.out.tab.ge));rw [← ac];clear ac c5 f5 d0 d1 d2
    have b3:Hid (∀ k:Nat,1≤k→k < 7→(B1.setW tn true).wts k=decide (s1.wt (k:Int)≠[])):=hD (fun k h1 h2=>by
     show (if k=tn then true else B1.wts k)=_;by_cases e:k=tn
     ·rw [if_pos e,e,U.out];rfl
     ·rw [if_neg e];exact C.out.wo k h1 h2 e)
    have bG:Hid (∀ x o a rest,s1.wt x=(o,a)::rest→OpOK o∧o.2.1≤1):=hD (fun x o a rest e=>by
     refine ⟨(C.out.ok.keys e).2.2.1,?_⟩;by_cases q:x=(tn:Int)
     ·rw [q,U.out] at e;cases e;exact aQ.out.1
     ·exact C.out.hds x o a rest q e)
    have bt:=hD (caughtT_any an.out ht bG.out C.out.sok b3.out);by_cases aa:Reach s1 (tn:Int) (tn:Int)
    ·have av:=hD aa;clear aa;go_upto_region 6 with (go_at_call 179;refine Calls.mono bt.out ?_;rintro e w7 ⟨bb,rfl,aw,Z⟩;obtain rfl:bb=true:=circ_t aw av.out;have ae:=hD Z;clear aw Z)
     have ao:=hD (an.out.idle ae.out);have aV:Hid (Keep (fun k=>base≤k) w w7):=hD (am.out.trans ae.out (fun _ _ e=>e.elim));obtain ⟨c7,f7⟩:=x_k ao.out.blk (k:=92+tn) (by omega);go_upto_region 7 with fail
     obtain ⟨w8,aL⟩:∃ w8,w8=w7.setCell ⟨b,92+tn,none⟩ (.bool false):=⟨_,rfl⟩;have aI:Hid (TabAt base w8 b V1 ((B1.setW tn true).setW tn false) h s1):=hD (by rw [aL];exact ao.out.wset (by omega) false);have bH:Hid (Keep (fun k=>base≤k) w w8):=hD (by rw [aL];exact aV.out.trans (ao.out.keepB _ _) (fun k _ e=>by have e':k=b:=e;rw [e'];exact ao.out.ge));rw [← aL];clear aL c7 f7;obtain ⟨c8,f8⟩:=x_k aI.out.blk (k:=85+tn) (by omega);go_upto_region 8 with fail
     obtain ⟨w9,aM⟩:∃ w9,w9=w8.setCell ⟨b,85+tn,none⟩ (.slice none 0 0):=⟨_,rfl⟩;have aJ:Hid (TabAt base w9 b (V1.setQ tn (.slice none 0 0)) ((B1.setW tn true).setW tn false) h {s1 with wt:=updW s1.wt (tn:Int) []}):=hD (by rw [aM];exact aI.out.qset (by omega) (Win.nil _ _ _ _) (fun g hg=>by cases hg) (fun p hp=>by cases hp));have aU:Hid (Keep (fun k=>base≤k) w w9):=hD (by rw [aM];exact bH.out.trans (aI.out.keepB _ _) (fun k _ e=>by have e':k=b:=e;rw [e'];exact aI.out.ge));rw [← aM];clear aM c8 f8;obtain ⟨bI,bf,bq,_⟩:=x_a aJ.out.ab;obtain ⟨c9,f9⟩:=x_k aJ.out.blk (k:=99) (by decide);rw [tc_a,bq] at c9;have bM:s1.ab.length≤1000:=(by have h1:=C.out.ok.ab;have h2:=C.out.ok.tot;unfold tot at h2;omega);have bN:({s1 with wt:=updW s1.wt (tn:Int) []}:LS).ab.length≤1000:=bM;have b2:=hD bq;clear bq;go_upto_region 9 with (at_builtin;refine x_h (w:=w9.alloc (.cells #[.int .i64 (tn:Int)] 3)) rfl (.tmp 59) (.tmp 61) 34 34 rfl 3 (.int .i64 0) 1 8 underlying34 v_h rfl (base:=base) (v:=.slice bI s1.ab.length bf) (n:=s1.ab.length) (xs:=icells s1.ab) (by have h:=aJ.out.ab.alloc (.cells #[.int .i64 (tn:Int)] 3);rw [b2.out] at h;exact h) rfl (Src.new (P:=prog) underlying34 w9 1 [.int .i64 (tn:Int)] 3 rfl (by simp [Value.oneCell'])) rfl (by unfold maxLen;omega) (by omega) (Nat.le_trans (Nat.le_trans aN.out aU.out.size) (by simp)) ?_;intro v' wa ah;go_loud (obtain ⟨bJ,bg,rfl,_⟩:=x_a ah.own;have h9:=aJ.out.idle ((Keep.refl kF w9).alloc (.cells #[.int .i64 (tn:Int)] 3));have G:App _ base 3 1 _ s1.ab.length (icells s1.ab) 1 [.int .i64 (tn:Int)] _ wa:=ah;rw [← b2.out] at G;have M:=h9.aset G;have b6:=h9.blk.keep G.keep (x_c h9.ab h9.blk (by decide));obtain ⟨ca,fa⟩:=x_k b6 (k:=99) (by decide);have aW:=hD M;have bW:=hD (Nat.le_trans aU.out.size (Nat.le_trans ((Keep.refl kF w9).alloc (.cells #[.int .i64 (tn:Int)] 3)).size G.keep.size));clear ah G h9 M b6))
     obtain ⟨aC,aj⟩:∃ aC,aC=wa.setCell ⟨b,99,none⟩ (.slice bJ (s1.ab.length+1) bg):=⟨_,rfl⟩;have M:=aW.out;rw [← aj] at M;rw [← aj];have aX:=hD M.1;have ar:Hid (Keep (fun k=>base≤k) w aC):=hD ((aU.out.alloc _).trans M.2 n3);clear M aj c9 f9 ca fa;have ay:s1.done.length≤1000:=(by have:=R.out.ok.tot;unfold tot at this;omega);have O:OpOK ((tn:Int),(3:Int),((0:Nat):Int)):=⟨by show (1:Int)≤(tn:Int);omega,by show (tn:Int)≤6;omega,by show (0:Int)≤3;omega,by show (3:Int)≤3;omega,by show (0:Int)≤((0:Nat):Int);omega,by show ((0:Nat):Int)≤5;omega⟩;have b7:=doT_any (kind:=3) (i:=0) aX.out O (Nat.le_trans aN.out ar.out.size) ay (fun e=>by cases e);have aO:Hid (Calls prog 180 #[.pointer (some ⟨b,0,none⟩),.agg #[.int .i64 (tn:Int),.int .i64 3,.int .i64 0]] aC (DoTPost base aC b _ _ h (abortS s1 (tn:Int)))):=hD (by rw [← abort_eq];exact b7);clear b7 O ay;go_wp2_with (go_at_call 180;refine Calls.mono aO.out ?_;rintro e cd ⟨rfl,bV,bF,a8,aB,a1⟩;have aY:=hD a8;have ba:=hD aB;have aT:=hD (ar.out.trans a1 n3);clear a8 aB a1)
     go_end0
     have J:=aG.out;rw [bj,x_x U.out aQ.out av.out] at J;rw [← J];refine ⟨rfl,⟨_,bF,aY.out,fun k h1 h2=>?_⟩,aT.out⟩;rw [ba.out];show (if k=tn then false else if k=tn then true else B1.wts k)=decide (updW s1.wt (tn:Int) [] (k:Int)≠[]);unfold updW;by_cases e:k=tn
     ·rw [if_pos e,if_pos (by omega)];rfl
     ·rw [if_neg e,if_neg e,if_neg (by omega)];exact C.out.wo k h1 h2 e
    ·have av:=hD aa;clear aa;go_wp2_with (go_at_call 179;refine Calls.mono bt.out ?_;rintro e w7 ⟨bb,rfl,aw,Z⟩;obtain rfl:bb=false:=circ_f aw av.out;have ae:=hD Z;clear aw Z)
     first | go_end0 | go_ret
     have J:=aG.out;rw [bj,y_b U.out aQ.out av.out] at J;rw [← J];exact ⟨rfl,⟨V1,_,an.out.idle ae.out,b3.out⟩,am.out.trans ae.out (fun _ _ e=>e.elim)⟩
def NextPost (s:LS) (w:World) (e:Ending) (w':World):Prop:=
  ∃ v:Nat,e = .returned (.int .i64 (v:Int))∧Keep kF w w'∧((v=0∧Still s)∨((1≤v∧v≤6)∧∃ a,Ready s (v:Int) a∧∀ u c,Ready s u c→a≤c))
theorem ready_at {base b:Nat} {w:World} {V:TV} {B:TB} {h:List LOp} {s:LS} (T:TabAt base w b V B h s) (hok:Ok s) {j:Nat} {o:LOp} (hj:h[j]?=some o) {t:Int} (hr:Ready s t (j:Int)):t=o.1∧∃ rest,s.wt t=(o,(j:Int))::rest∧¬ Hdd s o:=by
 obtain ⟨o',rest,e,hn⟩:=hr;obtain ⟨_,hp⟩:=T.pl t (o',(j:Int)) (by rw [e];exact List.mem_cons_self);have A:h[j]?=some o':=(by have h9:((j:Int)).toNat=j:=Int.toNat_natCast j;simpa [h9] using hp);rw [hj] at A;cases A;have:=(hok.keys e).2.2.2;exact ⟨this.symm,rest,e,hn⟩
theorem nextT_any {base b:Nat} {w:World} {V:TV} {B:TB} {h:List LOp} {s:LS} (hT:TabAt base w b V B h s) (hok:Ok s) (hs:SOk s) (hall:∀ o∈h,OpOK o) (hhl:h.length≤1000) (hW:∀ k:Nat,1≤k→k < 7→B.wts k=decide (s.wt (k:Int)≠[])):Calls prog 152 #[.pointer (some ⟨b,0,none⟩)] w (NextPost s w):=by
 obtain ⟨aU,aO,ar,_⟩:=hT.hs.shape;obtain ⟨ch,_⟩:=x_k hT.blk (k:=100) (by decide);rw [tc_h,ar] at ch;have HT:=hD hT;have ai:=hD hok;have HS:=hD hs;have ag:=hD hall;have HW:=hD hW;have aF:=hD ar;clear hT hok hs hall hW ar;go_enter func152,ntmps152;go_wp2_with fail
 clear ch;go_loopg [10] h.length (fun gh v wx=>∃ j:Nat,gh=h.length - j∧j≤h.length∧v = .int .i64 (j:Int)∧(∀ t a,Ready s t a→(j:Int)≤a)∧Keep (fun _=>False) w wx)
 case atStart=>exact ⟨0,rfl,Nat.zero_le _,rfl,fun t a hr=>by obtain ⟨p,hp,e⟩:=hr.mem;rw [← e];exact (HT.out.pl t p hp).1,Keep.refl _ _⟩
 case round=>
  obtain ⟨j,rfl,hj,rfl,Z,hk⟩:=hrel;have C:=hD Z;have HK:=hD hk;clear Z hk;by_cases ad:j < h.length
  ·have ax:=HT.out.idle HK.out;obtain ⟨aj,am,aL,p,aA,hp,e0,e1,e2⟩:=rd_op ax.hs ad;rw [aF.out] at aA;injection aA with q1 q2 q3;subst q1 q3;have A:=ag.out p (List.mem_of_getElem? hp);obtain ⟨txn,kind,av⟩:=p;obtain ⟨kk,a1⟩:=Int.eq_ofNat_of_zero_le A.2.2.2.2.1;have aJ:av=(kk:Int):=a1;subst aJ;obtain ⟨tn,a8⟩:=Int.eq_ofNat_of_zero_le (show 0≤txn by have:=A.1;simp at this;omega);have aq:txn=(tn:Int):=a8;subst aq;have a6:1≤tn:=(by have h9:(1:Int)≤(tn:Int):=A.1;omega);have a7:tn < 7:=(by have h9:(tn:Int)≤6:=A.2.1;omega);have aI:((j:Int) < (h.length:Int))=True:=eq_true (by omega);have aP:(0:Int)≤(j:Int):=(by omega);have aW:IntKind.i64.wrap ((j:Int)+1)=((j+1:Nat):Int):=(by rw [show ((j:Int)+1)=((j+1:Nat):Int) by omega];exact IntWalk.i64_in _ (by omega));have f0:wr.cell? ⟨aj,am+j * 3,none⟩=some (.int .i64 (tn:Int)):=(by rw [Nat.mul_comm j 3];exact e0);have f1:wr.cell? ⟨aj,am+j * 3+1,none⟩=some (.int .i64 kind):=(by rw [Nat.mul_comm j 3,Nat.add_assoc];exact e1);have f2:wr.cell? ⟨aj,am+j * 3+2,none⟩=some (.int .i64 (kk:Int)):=(by rw [Nat.mul_comm j 3,Nat.add_assoc];exact e2);have HP:=hD hp;have J:=hD ad;have aw:=hD A;clear hp ad A q2 e0 e1 e2 a1 a8 ax;go_upto_region 4 with fail
   obtain ⟨w1,ae⟩:∃ w1,w1=wr.alloc (.cells #[.int .i64 (tn:Int),.int .i64 kind,.int .i64 (kk:Int)] 209):=⟨_,rfl⟩;obtain ⟨r,ao⟩:∃ r,r=wr.heap.size:=⟨_,rfl⟩;have O:Hid (Keep kF w w1):=hD (by rw [ae];exact HK.out.alloc _);have ah:Hid (Blk w1 r #[.int .i64 (tn:Int),.int .i64 kind,.int .i64 (kk:Int)] 209):=hD (by rw [ae,ao];exact Blk.new _ _ _);rw [← ae,← ao];clear ae ao f0 f1 f2;have d0:w1.cell? ⟨r,0,none⟩=some (.int .i64 (tn:Int)):=ah.out.cell 0;have d1:w1.cell? ⟨r,1,none⟩=some (.int .i64 kind):=ah.out.cell 1;have d2:w1.cell? ⟨r,2,none⟩=some (.int .i64 (kk:Int)):=ah.out.cell 2;have aa:=hD (HT.out.idle O.out);obtain ⟨cw,_⟩:=x_k aa.out.blk (k:=92+tn) (by omega);rw [tc_w _ _ (by omega),HW.out tn a6 a7] at cw;have t0:(0:Int)≤(tn:Int):=(by omega);have t7:((tn:Int) < 7)=True:=eq_true (by omega);cases G:s.wt (tn:Int) with
   | nil=>
    rw [G,show decide (([]:List (LOp × Int))≠[])=false from rfl] at cw
    have R:Hid (∀ t a,Ready s t a→((j+1:Nat):Int)≤a):=hD (fun t a hr=>by
     have h1:=C.out t a hr;by_cases e:a=(j:Int)
     ·subst e;obtain ⟨et,rest,ew,_⟩:=ready_at HT.out ai.out HP.out hr;rw [et,G] at ew;cases ew
     ·omega)
    clear G;go_quiet (fail)
    go_wp2_with fail
    go_roundg (h.length - (j+1))
    case measure=>have:=J.out;omega
    case rel=>exact ⟨j+1,rfl,J.out,by go_num,R.out,O.out.drewN nq⟩
   | cons p rest=>
    obtain ⟨o',at_⟩:=p;obtain ⟨k3,g3,o3,U,aN,aV,aM,ak,ac,au,ay,_,_,_,_,_⟩:=aa.out.head a7 G;obtain ⟨cv,_⟩:=x_k aa.out.blk (k:=85+tn) (by omega);rw [tc_q _ _ (by omega),au] at cv;rw [G,show decide ((o',at_)::rest≠[])=true from decide_eq_true (by simp)] at cw;have aT:0 < rest.length+1:=(by omega);by_cases al:k3=j
    ·subst al;have aK:o'=((tn:Int),kind,(kk:Int)):=(by rw [HP.out] at ac;exact (Option.some.inj ac).symm);subst aK;subst ak;have aG:=hD G;have HH:Hid (∀ W,Keep kF w1 W→Calls prog 178 #[.pointer (some ⟨b,0,none⟩),.agg #[.int .i64 (tn:Int),.int .i64 kind,.int .i64 (kk:Int)]] W (HindTPost W s ((tn:Int),kind,(kk:Int)))):=hD fun W hk=>hindT_any (aa.out.idle hk) aw.out;have X:=hdd_hind HS.out aw.out;obtain ⟨l,hl⟩:∃ l,hindL s ((tn:Int),kind,(kk:Int))=l:=⟨_,rfl⟩;rw [hl] at X;have HL:=hD hl;have aC:Hid (∀ W,Keep kF w1 W→W.cell? ⟨r,0,none⟩=some (.int .i64 (tn:Int))∧W.cell? ⟨r,1,none⟩=some (.int .i64 kind)∧W.cell? ⟨r,2,none⟩=some (.int .i64 (kk:Int))∧W.cell? ⟨b,92+tn,none⟩=some (.bool true)∧W.cell? ⟨b,85+tn,none⟩=some (.slice (some ⟨g3,o3,none⟩) (rest.length+1) U)∧W.cell? ⟨g3,o3,none⟩=some (.int .i64 (k3:Int))):=hD fun W hk=>⟨(hk.cell (p:=⟨r,0,none⟩) (World.block_lt_of_cell? _ _ d0) (fun e=>e)).trans d0,(hk.cell (p:=⟨r,1,none⟩) (World.block_lt_of_cell? _ _ d1) (fun e=>e)).trans d1,(hk.cell (p:=⟨r,2,none⟩) (World.block_lt_of_cell? _ _ d2) (fun e=>e)).trans d2,(hk.cell (p:=⟨b,92+tn,none⟩) (World.block_lt_of_cell? _ _ cw) (fun e=>e)).trans cw,(hk.cell (p:=⟨b,85+tn,none⟩) (World.block_lt_of_cell? _ _ cv) (fun e=>e)).trans cv,(hk.cell (p:=⟨g3,o3,none⟩) (World.block_lt_of_cell? _ _ ay) (fun e=>e)).trans ay⟩;have M:Hid (Keep kF w1 w1):=hD (Keep.refl _ _);clear hl G au ac;by_cases Y:l=[]
     focus
      have aD:Hid (Ready s (tn:Int) (k3:Int)):=hD ⟨_,rest,aG.out,fun q=>X.1 q Y⟩;subst Y;clear X
     rotate_left
     focus
      have hh:Hdd s ((tn:Int),kind,(kk:Int)):=X.2 Y;have aQ:0 < l.length:=List.length_pos_iff.2 Y;have aS:l.length≠0:=by omega
      have R:Hid (∀ t a,Ready s t a→((k3+1:Nat):Int)≤a):=hD (fun t a hr=>by
       have h1:=C.out t a hr;by_cases e:a=(k3:Int)
       ·subst e;obtain ⟨et,rest,ew,hn⟩:=ready_at HT.out ai.out HP.out hr;exact absurd hh hn
       ·omega)
      clear X hh Y
     rotate_left
     all_goals
      go_region_held3 (fun W=>W.cell? ⟨r,0,none⟩=some (.int .i64 (tn:Int))∧W.cell? ⟨r,1,none⟩=some (.int .i64 kind)∧W.cell? ⟨r,2,none⟩=some (.int .i64 (kk:Int))∧W.cell? ⟨b,92+tn,none⟩=some (.bool true)∧W.cell? ⟨b,85+tn,none⟩=some (.slice (some ⟨g3,o3,none⟩) (rest.length+1) U)∧W.cell? ⟨g3,o3,none⟩=some (.int .i64 (k3:Int))) ((refine aC.out _ ?_;exact kX M.out)) ((go_at_call 178;refine Calls.mono (HH.out _ (by exact kX M.out)) ?_;rintro e w5 ⟨v5,rfl,an,az⟩;rw [HL.out] at an;obtain ⟨aY,aX,rfl,_⟩:=x_a an;have M:=hD (M.out.trans ((((Keep.refl kF w1).drewN _)).trans az n3) n3);clear an az))
      go_wp2_with fail
     ·go_ret;exact ⟨tn,rfl,O.out.trans M.out n3,.inr ⟨⟨a6,by omega⟩,(k3:Int),aD.out,C.out⟩⟩
     ·go_roundg (h.length - (k3+1))
      case measure=>have:=J.out;omega
      case rel=>exact ⟨k3+1,rfl,J.out,by go_num,R.out,O.out.trans M.out n3⟩
    ·have zk:((k3:Int) == (j:Int))=false:=by simp;omega
     have R:Hid (∀ t a,Ready s t a→((j+1:Nat):Int)≤a):=hD (fun t a hr=>by
      have h1:=C.out t a hr;by_cases e:a=(j:Int)
      ·subst e;obtain ⟨et,aB,ew,hn⟩:=ready_at HT.out ai.out HP.out hr;have aH:t=(tn:Int):=et;rw [aH,G] at ew;injection ew with e1 e2;injection e1 with e3 e4;exact absurd (show k3=j by rw [ak] at e4;omega) al
      ·omega)
     clear G au ac al ak;go_quiet (fail)
     go_wp2_with fail
     go_roundg (h.length - (j+1))
     case measure=>have:=J.out;omega
     case rel=>exact ⟨j+1,rfl,J.out,by go_num,R.out,O.out.drewN nq⟩
  ·have aI:((j:Int) < (h.length:Int))=False:=eq_false (by omega);have aE:Hid (Still s):=hD (fun t a hr=>by have h1:=C.out t a hr;obtain ⟨p,hp,e⟩:=hr.mem;obtain ⟨h0,h2⟩:=HT.out.pl t p hp;have h3:=(List.getElem?_eq_some_iff.1 h2).1;omega);clear ad;go_wp2_with fail
   go_ret;exact ⟨0,rfl,HK.out,.inl ⟨rfl,aE.out⟩⟩
end Go.Proofs.YthdkamnclbfehaaGreatDoor
namespace Go.Proofs.YthdkamnclbfehaaGreatDoor
open Go.RowKit
def V0T (vh:Value):TV:=⟨.slice none 0 0,fun _=>.slice none 0 0,.slice none 0 0,vh⟩
def B0T:TB:=⟨fun _ _=>false,fun _ _=>false,fun _=>false⟩
theorem TabAt.new {w:World} {vh:Value} {h:List LOp} (hr:Rd w 3 vh h.length (opsC h)) (hb:∀ g,vh.ownBlock=some g→g < w.heap.size):TabAt w.heap.size (w.alloc (.cells (tabC (V0T vh) B0T) 246)) w.heap.size (V0T vh) B0T h s0L:=
  ⟨Blk.new _ _ _,World.ownsRow_nil _ _ _ _,World.ownsRow_nil _ _ _ _,fun t _=>Win.nil _ _ _ _,fun t _ g e=>(by cases e),fun t u _ _ g e=>(by cases e),hr.keep ((Keep.refl kF w).alloc _) n3,hb,fun t i _ _ _=>rfl,fun t i h1 _ _=>(decide_eq_false (show ¬ (0:Int)=(t:Int) by omega)).symm,Nat.le_refl _,fun t p hp=>(by cases hp)⟩
theorem TabAt.idleAppW {base b:Nat} {w W w':World} {V:TV} {B:TB} {h:List LOp} {s:LS} {v v':Value} {c m k:Nat} {e:TypeId} {size:Nat} {xs news:List Value} (t:TabAt base w b V B h s) (_:AppW W c e size v m xs k news v' w') (q:Keep kF w W):TabAt base W b V B h s:=t.idle q
theorem TabAt.qpush {base b:Nat} {w w7:World} {V:TV} {B:TB} {h:List LOp} {s:LS} {t i:Nat} {kind:Int} {kk:Nat} {v':Value} (T:TabAt base w b V B h s) (ht:t < 7) (hi:h[i]?=some ((t:Int),kind,(kk:Int))) (a:AppW w base 3 1 (V.vq t) (s.wt (t:Int)).length (icells ((s.wt (t:Int)).map Prod.snd)) 1 [.int .i64 (i:Int)] v' w7):TabAt base (w7.setCell ⟨b,85+t,none⟩ v') b (V.setQ t v') B h (enq s ((t:Int),kind,(kk:Int)) (i:Int))∧Keep (fun k=>base≤k) w (w7.setCell ⟨b,85+t,none⟩ v'):=by
 have M:=T.blk.keep a.keep (fun e=>z_d (T.q t ht) T.blk (by decide) e);have k:Keep (fun k=>k=b) w7 (w7.setCell ⟨b,85+t,none⟩ v'):=(Keep.refl _ w7).setCell _ _ (fun _=>rfl);have O:=M.set (85+t) v';rw [setQ_step V B ht v'] at O;have A:=x_b T.done a.keep (fun g hg q=>Win_row (T.q t ht) T.done (by decide) g q hg);have X:=x_b T.ab a.keep (fun g hg q=>T.qa t ht g q hg);have Y:=T.hs.keep a.keep (fun g hg q=>by have:=T.hb g hg;have:=((T.q t ht).lt g q).1;omega);have hq:=fun u hu (hne:u≠t)=>(T.q u hu).keep a.keep (fun g hg q=>hne (T.qq u t hu ht g hg q));have R:Win w7 base 3 1 v' (s.wt (t:Int)++[(((t:Int),kind,(kk:Int)),(i:Int))]).length (icells ((s.wt (t:Int)++[(((t:Int),kind,(kk:Int)),(i:Int))]).map Prod.snd)):=by have:=a.own;rw [List.length_append,List.map_append,show icells ((s.wt (t:Int)).map Prod.snd++List.map Prod.snd [(((t:Int),kind,(kk:Int)),(i:Int))])=icells ((s.wt (t:Int)).map Prod.snd)++[.int .i64 (i:Int)] by simp [icells]];exact this
 have U:∀ u,u < 7→u≠t→∀ g,(V.vq u).ownBlock=some g→v'.ownBlock≠some g:=fun u hu hne g hg q=>by
  rcases a.fresh with f | ⟨g2,f,h2⟩
  ·exact hne (T.qq u t hu ht g hg (f ▸ q))
  ·rw [f] at q;have e2:g2=g:=Option.some.inj q;have:=((T.q u hu).lt g hg).2;omega
 refine ⟨⟨O,x_b A k (fun g hg e=>x_c A M (by decide) (e ▸ hg)),x_b X k (fun g hg e=>x_c X M (by decide) (e ▸ hg)),fun u hu=>?_,fun u hu g hg=>?_,fun u x hu hx g h1 h2=>?_,Y.keep k (fun g hg e=>by have:=T.hb g hg;have:=T.ge;omega),T.hb,T.sh,T.own,T.ge,fun u p hp=>?_⟩,(a.keep.mono (fun j _ e=>((T.q t ht).lt j e).1)).trans k (fun j _ e=>by have e':j=b:=e;rw [e'];exact T.ge)⟩
 ·show Win _ base 3 1 (if u=t then v' else V.vq u) (updW s.wt (t:Int) (s.wt (t:Int)++[(((t:Int),kind,(kk:Int)),(i:Int))]) (u:Int)).length (icells ((updW s.wt (t:Int) (s.wt (t:Int)++[(((t:Int),kind,(kk:Int)),(i:Int))]) (u:Int)).map Prod.snd));unfold updW;by_cases e:u=t
  ·rw [if_pos e,if_pos (by omega)];exact R.keep k (fun g hg e=>z_d R M (by decide) (e ▸ hg))
  ·rw [if_neg e,if_neg (by omega)];exact (hq u hu e).keep k (fun g hg e'=>z_d (hq u hu e) M (by decide) (e' ▸ hg))
 ·have J:(if u=t then v' else V.vq u).ownBlock=some g:=hg;by_cases e:u=t
  ·rw [if_pos e] at J;intro q;rcases a.fresh with f | ⟨g2,f,h2⟩
   ·exact T.qa t ht g (f ▸ J) q
   ·rw [f] at J;have e2:g2=g:=Option.some.inj J;have:=(x_d T.ab g q).2;omega
  ·rw [if_neg e] at J;exact T.qa u hu g J
 ·have C:(if u=t then v' else V.vq u).ownBlock=some g:=h1;have G:(if x=t then v' else V.vq x).ownBlock=some g:=h2;by_cases e:u=t
  ·by_cases e2:x=t
   ·rw [e,e2]
   ·rw [if_pos e] at C;rw [if_neg e2] at G;exact absurd C (U x hx e2 g G)
  ·by_cases e2:x=t
   ·rw [if_neg e] at C;rw [if_pos e2] at G;exact absurd G (U u hu e g C)
   ·rw [if_neg e] at C;rw [if_neg e2] at G;exact T.qq u x hu hx g C G
 ·have W:p∈updW s.wt (t:Int) (s.wt (t:Int)++[(((t:Int),kind,(kk:Int)),(i:Int))]) u:=hp;unfold updW at W;by_cases e:u=(t:Int)
  ·rw [if_pos e] at W;rcases List.mem_append.1 W with q | q
   ·exact T.pl (t:Int) p q
   ·simp at q;rw [q];exact ⟨by show (0:Int)≤(i:Int);omega,by show h[(i:Int).toNat]?=_;rw [Int.toNat_natCast];exact hi⟩
  ·rw [if_neg e] at W;exact T.pl u p W
theorem tab_new (vh:Value):tabC (V0T vh) B0T=#[.slice none 0 0,.bool false,.bool false,.bool false,.bool false,.bool false,.bool false,.bool false,.bool false,.bool false,.bool false,.bool false,.bool false,.bool false,.bool false,.bool false,.bool false,.bool false,.bool false,.bool false,.bool false,.bool false,.bool false,.bool false,.bool false,.bool false,.bool false,.bool false,.bool false,.bool false,.bool false,.bool false,.bool false,.bool false,.bool false,.bool false,.bool false,.bool false,.bool false,.bool false,.bool false,.bool false,.bool false,.bool false,.bool false,.bool false,.bool false,.bool false,.bool false,.bool false,.bool false,.bool false,.bool false,.bool false,.bool false,.bool false,.bool false,.bool false,.bool false,.bool false,.bool false,.bool false,.bool false,.bool false,.bool false,.bool false,.bool false,.bool false,.bool false,.bool false,.bool false,.bool false,.bool false,.bool false,.bool false,.bool false,.bool false,.bool false,.bool false,.bool false,.bool false,.bool false,.bool false,.bool false,.bool false,.slice none 0 0,.slice none 0 0,.slice none 0 0,.slice none 0 0,.slice none 0 0,.slice none 0 0,.slice none 0 0,.bool false,.bool false,.bool false,.bool false,.bool false,.bool false,.bool false,.slice none 0 0,vh]:=by
 apply Array.ext_getElem?;intro j;by_cases hj:j < 101
 ·rw [tab_get _ _ hj]
  have:∀ k:Fin 101,some (tcell (V0T vh) B0T k.val)=(#[.slice none 0 0,.bool false,.bool false,.bool false,.bool false,.bool false,.bool false,.bool false,.bool false,.bool false,.bool false,.bool false,.bool false,.bool false,.bool false,.bool false,.bool false,.bool false,.bool false,.bool false,.bool false,.bool false,.bool false,.bool false,.bool false,.bool false,.bool false,.bool false,.bool false,.bool false,.bool false,.bool false,.bool false,.bool false,.bool false,.bool false,.bool false,.bool false,.bool false,.bool false,.bool false,.bool false,.bool false,.bool false,.bool false,.bool false,.bool false,.bool false,.bool false,.bool false,.bool false,.bool false,.bool false,.bool false,.bool false,.bool false,.bool false,.bool false,.bool false,.bool false,.bool false,.bool false,.bool false,.bool false,.bool false,.bool false,.bool false,.bool false,.bool false,.bool false,.bool false,.bool false,.bool false,.bool false,.bool false,.bool false,.bool false,.bool false,.bool false,.bool false,.bool false,.bool false,.bool false,.bool false,.bool false,.slice none 0 0,.slice none 0 0,.slice none 0 0,.slice none 0 0,.slice none 0 0,.slice none 0 0,.slice none 0 0,.bool false,.bool false,.bool false,.bool false,.bool false,.bool false,.bool false,.slice none 0 0,vh]:Array Value)[k.val]?:=by
   intro k;match k with
   | ⟨0,_⟩=>rfl
   | ⟨1,_⟩=>rfl
   | ⟨2,_⟩=>rfl
   | ⟨3,_⟩=>rfl
   | ⟨4,_⟩=>rfl
   | ⟨5,_⟩=>rfl
   | ⟨6,_⟩=>rfl
   | ⟨7,_⟩=>rfl
   | ⟨8,_⟩=>rfl
   | ⟨9,_⟩=>rfl
   | ⟨10,_⟩=>rfl
   | ⟨11,_⟩=>rfl
   | ⟨12,_⟩=>rfl
   | ⟨13,_⟩=>rfl
   | ⟨14,_⟩=>rfl
   | ⟨15,_⟩=>rfl
   | ⟨16,_⟩=>rfl
   | ⟨17,_⟩=>rfl
   | ⟨18,_⟩=>rfl
   | ⟨19,_⟩=>rfl
   | ⟨20,_⟩=>rfl
   | ⟨21,_⟩=>rfl
   | ⟨22,_⟩=>rfl
   | ⟨23,_⟩=>rfl
   | ⟨24,_⟩=>rfl
   | ⟨25,_⟩=>rfl
   | ⟨26,_⟩=>rfl
   | ⟨27,_⟩=>rfl
   | ⟨28,_⟩=>rfl
   | ⟨29,_⟩=>rfl
   | ⟨30,_⟩=>rfl
   | ⟨31,_⟩=>rfl
   | ⟨32,_⟩=>rfl
   | ⟨33,_⟩=>rfl
   | ⟨34,_⟩=>rfl
   | ⟨35,_⟩=>rfl
   | ⟨36,_⟩=>rfl
   | ⟨37,_⟩=>rfl
   | ⟨38,_⟩=>rfl
   | ⟨39,_⟩=>rfl
   | ⟨40,_⟩=>rfl
   | ⟨41,_⟩=>rfl
   | ⟨42,_⟩=>rfl
   | ⟨43,_⟩=>rfl
   | ⟨44,_⟩=>rfl
   | ⟨45,_⟩=>rfl
   | ⟨46,_⟩=>rfl
   | ⟨47,_⟩=>rfl
   | ⟨48,_⟩=>rfl
   | ⟨49,_⟩=>rfl
   | ⟨50,_⟩=>rfl
   | ⟨51,_⟩=>rfl
   | ⟨52,_⟩=>rfl
   | ⟨53,_⟩=>rfl
   | ⟨54,_⟩=>rfl
   | ⟨55,_⟩=>rfl
   | ⟨56,_⟩=>rfl
   | ⟨57,_⟩=>rfl
   | ⟨58,_⟩=>rfl
   | ⟨59,_⟩=>rfl
   | ⟨60,_⟩=>rfl
   | ⟨61,_⟩=>rfl
   | ⟨62,_⟩=>rfl
   | ⟨63,_⟩=>rfl
   | ⟨64,_⟩=>rfl
   | ⟨65,_⟩=>rfl
   | ⟨66,_⟩=>rfl
   | ⟨67,_⟩=>rfl
   | ⟨68,_⟩=>rfl
   | ⟨69,_⟩=>rfl
   | ⟨70,_⟩=>rfl
   | ⟨71,_⟩=>rfl
   | ⟨72,_⟩=>rfl
   | ⟨73,_⟩=>rfl
   | ⟨74,_⟩=>rfl
   | ⟨75,_⟩=>rfl
   | ⟨76,_⟩=>rfl
   | ⟨77,_⟩=>rfl
   | ⟨78,_⟩=>rfl
   | ⟨79,_⟩=>rfl
   | ⟨80,_⟩=>rfl
   | ⟨81,_⟩=>rfl
   | ⟨82,_⟩=>rfl
   | ⟨83,_⟩=>rfl
   | ⟨84,_⟩=>rfl
   | ⟨85,_⟩=>rfl
   | ⟨86,_⟩=>rfl
   | ⟨87,_⟩=>rfl
   | ⟨88,_⟩=>rfl
   | ⟨89,_⟩=>rfl
   | ⟨90,_⟩=>rfl
   | ⟨91,_⟩=>rfl
   | ⟨92,_⟩=>rfl
   | ⟨93,_⟩=>rfl
   | ⟨94,_⟩=>rfl
   | ⟨95,_⟩=>rfl
   | ⟨96,_⟩=>rfl
   | ⟨97,_⟩=>rfl
   | ⟨98,_⟩=>rfl
   | ⟨99,_⟩=>rfl
   | ⟨100,_⟩=>rfl
   | ⟨n+101,hh⟩=>exact absurd hh (by omega)
  exact this ⟨j,hj⟩
 ·rw [Array.getElem?_eq_none (by rw [tab_size];omega),Array.getElem?_eq_none (by simp;omega)]
theorem tab_zero (vh:Value):Tryz.zeroCells246.setIfInBounds 100 vh=tabC (V0T vh) B0T:=by
 have e:Tryz.zeroCells246=tabC (V0T (.slice none 0 0)) B0T:=(by rw [tab_new];rfl);rw [e];refine u_a fun j hj=>?_;by_cases q:j=100
 ·rw [if_pos q,q];rfl
 ·rw [if_neg q];unfold tcell;repeat' split
  all_goals first | rfl | (exfalso;omega)
end Go.Proofs.YthdkamnclbfehaaGreatDoor
