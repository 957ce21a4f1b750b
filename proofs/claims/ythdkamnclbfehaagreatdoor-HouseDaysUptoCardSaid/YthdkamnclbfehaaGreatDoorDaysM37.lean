/- A part of the proof. -/
import Derived.Test.YthdkamnclbfehaaGreatDoorDaysM35
import Derived.Test.YthdkamnclbfehaaGreatDoorDaysM36
set_option linter.all false
set_option maxHeartbeats 20000000
set_option maxRecDepth 100000
namespace Go.Proofs.YthdkamnclbfehaaGreatDoor
open Go.RowKit Tryz
def isE (x:Int) (y:CallR):Bool:=decide (y.1=x) && decide (y.2=endB)
def cntE (x:Int) (p:List CallR):Int:=((p.filter (isE x)).length:Int)
theorem u_j (x:Int) (p q:List CallR):cntE x (p++q)=cntE x p+cntE x q:=by unfold cntE;rw [List.filter_append,List.length_append];omega
theorem cntE_pos (x:Int) (p:List CallR):0≤cntE x p:=by unfold cntE;omega
theorem cntE_one (x:Int) (y:CallR):cntE x [y]=if isE x y=true then 1 else 0:=by
 unfold cntE;by_cases h:isE x y=true <;> simp [List.filter,h]
theorem endsS_one (f:Int→Int) (y:CallR) (k:Int):endsS f y k=f k+cntE k [y]:=by
 rw [cntE_one];unfold endsS isE;by_cases h:y.2=endB
 ·rw [if_pos h];unfold upI;by_cases e:k=y.1
  ·subst e;simp [h]
  ·simp [h,e,Ne.symm e]
 ·rw [if_neg h];simp [h]
theorem ends_cnt:∀ (p:List CallR) (f:Int→Int) (k:Int),p.foldl endsS f k=f k+cntE k p
  | [],f,k=>by simp [cntE]
  | y::p,f,k=>by
    rw [List.foldl_cons,ends_cnt p,endsS_one,show y::p=[y]++p from rfl,u_j];omega
theorem endsF_cnt (l:List CallR) (k:Int):endsF l k=cntE k l:=by unfold endsF;rw [ends_cnt];omega
theorem newS_over (c:CS) (k:Int):(newS c k).over=c.over:=by unfold newS;split <;> rfl
theorem colS_cnt {ends:Int→Int} {c:CS} {x:CallR} {p:List CallR} (h:∀ k,c.over k=cntE k p) (hle:∀ k,cntE k (p++[x])≤ends k):∀ k,(colS ends c x).over k=cntE k (p++[x]):=by
 intro k;have hx:=hle x.1;have hk:=h k;have C:=h x.1;rw [u_j,cntE_one] at hx ⊢;have A:isE x.1 x=decide (x.2=endB):=(by unfold isE;simp);rw [A] at hx;have G:isE k x=(decide (x.1=k) && decide (x.2=endB)):=rfl;rw [G];unfold colS;by_cases e1:c.over x.1=ends x.1
 ·rw [if_pos e1];by_cases e:x.2=endB
  ·simp [e] at hx;omega
  ·simp [e];exact hk
 ·rw [if_neg e1];by_cases e2:c.cur x.1=0∧x.2=endB
  ·rw [if_pos e2];show upI c.over x.1 (c.over x.1+1) k=_;unfold upI;by_cases e:k=x.1
   ·subst e;simp [e2.2];exact C
   ·simp [e,Ne.symm e];exact hk
  ·rw [if_neg e2];by_cases e3:x.2=endB
   ·rw [if_pos e3];show upI c.over x.1 (c.over x.1+1) k=_;unfold upI;by_cases e:k=x.1
    ·subst e;simp [e3];exact C
    ·simp [e,Ne.symm e];exact hk
   ·rw [if_neg e3];show (newS c x.1).over k=_;rw [newS_over];simp [e3];exact hk
theorem over_cnt (l:List CallR):∀ j,j≤l.length→∀ k,((l.take j).foldl (colS (endsF l)) c00).over k=cntE k (l.take j)
  | 0,_,k=>by simp [cntE];rfl
  | j+1,hj,k=>by
    have hp:l[j]?=some l[j]:=List.getElem?_eq_getElem hj
    have ht:l.take (j+1)=l.take j++[l[j]]:=by rw [List.take_add_one,hp];rfl
    rw [fold_snoc _ _ _ hp,ht]
    refine colS_cnt (over_cnt l j (by omega)) (fun k=>?_) k
    rw [endsF_cnt,← ht]
    conv=>rhs;rw [← List.take_append_drop (j+1) l]
    rw [u_j]
    have:=cntE_pos k (l.drop (j+1))
    omega
def endedB (l:List CallR) (j:Nat) (x:Int):Bool:=(l.drop j).any (isE x)
theorem any_cnt (x:Int) (p:List CallR):p.any (isE x)=true↔0 < cntE x p:=by
 unfold cntE;rw [List.any_eq_true];constructor
 ·rintro ⟨y,hy,he⟩;have:y∈p.filter (isE x):=List.mem_filter.2 ⟨hy,he⟩;have:=List.length_pos_of_mem this;omega
 ·intro h;have h2:0 < (p.filter (isE x)).length:=(by omega);obtain ⟨y,hy⟩:=List.exists_mem_of_length_pos h2;exact ⟨y,(List.mem_filter.1 hy).1,(List.mem_filter.1 hy).2⟩
theorem ended_over {l:List CallR} {j:Nat} (hj:j≤l.length) (x:Int):endedB l j x=true↔((l.take j).foldl (colS (endsF l)) c00).over x≠endsF l x:=by
 unfold endedB;rw [any_cnt,over_cnt l j hj,endsF_cnt];conv=>rhs;rhs;rw [← List.take_append_drop j l]
 rw [u_j];have:=cntE_pos x (l.drop j);omega
theorem ended_self {l:List CallR} {j:Nat} {x:Int} {y:ByteArray} (hp:l[j]?=some (x,y)) (hy:y=endB):endedB l j x=true:=by
 unfold endedB;rw [List.any_eq_true];have hj:j < l.length:=(List.getElem?_eq_some_iff.1 hp).1;refine ⟨(x,y),?_,by unfold isE;simp [hy]⟩;rw [List.mem_iff_getElem?];exact ⟨0,by rw [List.getElem?_drop,Nat.add_zero];exact hp⟩
theorem colS_grow (ends:Int→Int) (c:CS) (x:CallR):c.all.length≤(colS ends c x).all.length:=by
 have hn:c.all.length≤(newS c x.1).all.length:=(by unfold newS;split <;> simp);unfold colS;split
 ·exact Nat.le_refl _
 ·split
  ·exact Nat.le_refl _
  ·split
   ·exact Nat.le_refl _
   ·show _≤(List.set _ _ _).length;rw [List.length_set];exact hn
theorem fold_grow (ends:Int→Int):∀ (p:List CallR) (c:CS),c.all.length≤(p.foldl (colS ends) c).all.length
  | [],c=>Nat.le_refl _
  | x::p,c=>Nat.le_trans (colS_grow ends c x) (fold_grow ends p _)
theorem day_grow (l:List CallR) (j:Nat):((l.take j).foldl (colS (endsF l)) c00).all.length≤(dayF l).all.length:=by
 have h:dayF l=(l.drop j).foldl (colS (endsF l)) ((l.take j).foldl (colS (endsF l)) c00):=(by rw [← List.foldl_append,List.take_append_drop];rfl);rw [h];exact fold_grow _ _ _
theorem okC_all {c:CS} (h:okC c=true):c.all.length≤6:=by
 unfold okC at h;simp only [Bool.and_eq_true,decide_eq_true_eq] at h;exact h.2.1
theorem bad_all {l:List CallR} (h:6 < (dayF l).all.length):dayBad l=true:=by
 have:okC (dayF l)=false:=by
  cases e:okC (dayF l) with
  | false=>rfl
  | true=>have:=okC_all e;omega
 unfold dayBad;rw [this];simp
theorem bad_call {l:List CallR} {x:CallR} (hx:x∈l) (h:badCall x=true):dayBad l=true:=by
 have:l.any badCall=true:=List.any_eq_true.2 ⟨x,hx,h⟩;unfold dayBad;rw [this];simp
def rowP (c:CS) (k:Nat):List ByteArray:=if k=0 then [] else c.all.getD (k - 1) []
def curA (f:Int→Int):Array Value:=#[.int .i64 (f 0),.int .i64 (f 1),.int .i64 (f 2),.int .i64 (f 3)]
theorem curA_at (f:Int→Int) {k:Nat} (h:k < 4):(curA f)[k]?=some (.int .i64 (f (k:Int))):=by
 have:k=0∨k=1∨k=2∨k=3:=(by omega);rcases this with rfl | rfl | rfl | rfl <;> rfl
theorem curA_set (f:Int→Int) {k:Nat} (h:k < 4) (v:Int):(curA f).setIfInBounds k (.int .i64 v)=curA (upI f (k:Int) v):=by
 have:k=0∨k=1∨k=2∨k=3:=(by omega);rcases this with rfl | rfl | rfl | rfl <;> simp [curA,upI]
structure PlAt (base:Nat) (w:World) (r4 r5:Nat) (vs:List Value) (vh:Value) (c:CS):Prop where
  lb:Blk w r4 vs.toArray 205
  ob:Blk w r5 (curA c.cur) 206
  len:vs.length=7
  own:∀ (k:Nat) v,vs[k]?=some v→w.ownsRow base 9 1 v (rowP c k).length (strCells (rowP c k))
  apart:∀ (i j:Nat) v u g,vs[i]?=some v→vs[j]?=some u→v.ownBlock=some g→u.ownBlock=some g→i=j
  h:w.ownsRow base 209 3 vh c.h.length (opsC c.h)
  ge:base≤r4∧base≤r5
theorem PlAt.keep {S:Nat→Prop} {base r4 r5:Nat} {w w':World} {vs:List Value} {vh:Value} {c:CS} (g:PlAt base w r4 r5 vs vh c) (k:Keep S w w') (h4:¬ S r4) (h5:¬ S r5) (hv:∀ (i:Nat) v b,vs[i]?=some v→v.ownBlock=some b→¬ S b) (hh:∀ b,vh.ownBlock=some b→¬ S b):PlAt base w' r4 r5 vs vh c:=
  ⟨g.lb.keep k h4,g.ob.keep k h5,g.len,fun i v e=>x_b (g.own i v e) k (fun b hb=>hv i v b e hb),g.apart,x_b g.h k hh,g.ge⟩
theorem PlAt.idle {base r4 r5:Nat} {w w':World} {vs:List Value} {vh:Value} {c:CS} (g:PlAt base w r4 r5 vs vh c) (k:Keep kF w w'):PlAt base w' r4 r5 vs vh c:=
  g.keep k (fun e=>e) (fun e=>e) (fun _ _ _ _ _ e=>e) n3
theorem PlAt.same {base r4 r5:Nat} {w:World} {vs:List Value} {vh:Value} {c c':CS} (g:PlAt base w r4 r5 vs vh c) (h1:c'.cur=c.cur) (h2:∀ k,rowP c' k=rowP c k) (h3:c'.h=c.h):PlAt base w r4 r5 vs vh c':=
  ⟨g.lb,by rw [h1];exact g.ob,g.len,fun i v e=>by rw [h2];exact g.own i v e,g.apart,by rw [h3];exact g.h,g.ge⟩
theorem PlAt.cell {base r4 r5:Nat} {w:World} {vs:List Value} {vh:Value} {c:CS} (g:PlAt base w r4 r5 vs vh c) {k:Nat} {v:Value} (h:vs[k]?=some v):w.cell? ⟨r4,k,none⟩=some v∧w.frozen? ⟨r4,k,none⟩=false:=
  ⟨(g.lb.cell k).trans (by simpa using h),g.lb.free k⟩
theorem PlAt.open {base r4 r5:Nat} {w:World} {vs:List Value} {vh:Value} {c:CS} (g:PlAt base w r4 r5 vs vh c) {k:Nat} (h:k < 4):w.cell? ⟨r5,k,none⟩=some (.int .i64 (c.cur (k:Int)))∧w.frozen? ⟨r5,k,none⟩=false:=
  ⟨(g.ob.cell k).trans (curA_at _ h),g.ob.free k⟩
theorem PlAt.ne {base r4 r5:Nat} {w:World} {vs:List Value} {vh:Value} {c:CS} (g:PlAt base w r4 r5 vs vh c):r4≠r5:=g.lb.ne g.ob (by decide)
theorem PlAt.setCur {base r4 r5:Nat} {w:World} {vs:List Value} {vh:Value} {c:CS} (g:PlAt base w r4 r5 vs vh c) {k:Nat} (hk:k < 4) (v:Int):PlAt base (w.setCell ⟨r5,k,none⟩ (.int .i64 v)) r4 r5 vs vh {c with cur:=upI c.cur (k:Int) v}:=by
 have A:Keep (fun i=>i=r5) w (w.setCell ⟨r5,k,none⟩ (.int .i64 v)):=(Keep.refl _ _).setCell _ _ (fun _=>rfl);refine ⟨g.lb.keep A g.ne,?_,g.len,fun i u e=>x_b (g.own i u e) A (fun b hb q=>x_c (g.own i u e) g.ob (by decide) (q ▸ hb)),g.apart,x_b g.h A (fun b hb q=>x_c g.h g.ob (by decide) (q ▸ hb)),g.ge⟩;show Blk _ r5 (curA (upI c.cur (k:Int) v)) 206;rw [← curA_set _ hk];exact g.ob.set _ _
theorem PlAt.op {base r4 r5:Nat} {w w':World} {vs:List Value} {vh v':Value} {c:CS} {o:LOp} (g:PlAt base w r4 r5 vs vh c) (a:App w base 209 3 vh c.h.length (opsC c.h) 1 [.int .i64 o.1,.int .i64 o.2.1,.int .i64 o.2.2] v' w'):PlAt base w' r4 r5 vs v' {c with h:=c.h++[o]}∧Keep (fun k=>base≤k) w w'∧(∀ b cs,Blk w b cs 84→Blk w' b cs 84):=by
 refine ⟨⟨g.lb.keep a.keep (x_c g.h g.lb (by decide)),g.ob.keep a.keep (x_c g.h g.ob (by decide)),g.len,fun i u e=>x_b (g.own i u e) a.keep (fun b hb q=>x_f g.h (g.own i u e) (by decide) b q hb),g.apart,?_,g.ge⟩,a.keep.mono (fun i _ e=>(x_d g.h i e).1),fun b cs q=>q.keep a.keep (x_c g.h q (by decide))⟩;have:=a.own;show w'.ownsRow base 209 3 v' (c.h++[o]).length (opsC (c.h++[o]));rw [u_p,List.length_append];exact this
theorem rowP_set (c:CS) {t:Nat} (ht:1≤t) (hl:t≤c.all.length) (s:ByteArray) (k:Nat):rowP {c with all:=c.all.set (t - 1) (c.all.getD (t - 1) []++[s])} k=if k=t then rowP c t++[s] else rowP c k:=by
 unfold rowP;by_cases e0:k=0
 ·subst e0;rw [if_pos rfl,if_neg (by omega),if_pos rfl]
 ·rw [if_neg e0,if_neg e0];by_cases e:k=t
  ·subst e;rw [if_pos rfl,if_neg e0];show (List.set _ _ _).getD (k - 1) []=_;simp [List.getD,List.getElem?_set_self (show k - 1 < c.all.length by omega)]
  ·rw [if_neg e];show (List.set _ _ _).getD (k - 1) []=_;simp [List.getD,List.getElem?_set_ne (show t - 1≠k - 1 by omega)]
theorem rowP_new (c:CS) (x:Int) (k:Nat):rowP (newS c x) k=rowP c k:=by
 unfold rowP newS;split
 ·rfl
 ·split
  ·show (c.all++[[]]).getD (k - 1) []=_;rcases Nat.lt_trichotomy (k - 1) c.all.length with h | h | h
   ·simp [List.getD,List.getElem?_append_left h]
   ·simp [List.getD,h]
   ·simp [List.getD,List.getElem?_eq_none (show (c.all++[[]]).length≤k - 1 by simp;omega),List.getElem?_eq_none (show c.all.length≤k - 1 by omega)]
  ·rfl
theorem PlAt.line {base r4 r5 t:Nat} {w w1:World} {vs:List Value} {vh v v':Value} {c:CS} {s:ByteArray} (g:PlAt base w r4 r5 vs vh c) (hv:vs[t]?=some v) (ht:1≤t) (hl:t≤c.all.length) (a:App w base 9 1 v (rowP c t).length (strCells (rowP c t)) 1 [.string s] v' w1):PlAt base (w1.setCell ⟨r4,t,none⟩ v') r4 r5 (vs.set t v') vh {c with all:=c.all.set (t - 1) (c.all.getD (t - 1) []++[s])}∧Keep (fun k=>base≤k) w (w1.setCell ⟨r4,t,none⟩ v')∧(∀ b cs,Blk w b cs 84→Blk (w1.setCell ⟨r4,t,none⟩ v') b cs 84):=by
 have hi:t < vs.length:=(List.getElem?_eq_some_iff.1 hv).1;have A:=g.own t v hv;have J:Keep (fun k=>k=r4) w1 (w1.setCell ⟨r4,t,none⟩ v'):=(Keep.refl _ _).setCell _ _ (fun _=>rfl);have l1:=g.lb.keep a.keep (x_c A g.lb (by decide));have o1:=g.ob.keep a.keep (x_c A g.ob (by decide));have h1:=x_b g.h a.keep (fun b hb q=>x_f g.h A (by decide) b hb q);have G:w1.ownsRow base 9 1 v' (rowP c t++[s]).length (strCells (rowP c t++[s])):=by have:=a.own;rw [List.length_append,show strCells (rowP c t++[s])=strCells (rowP c t)++[.string s] by simp [strCells]];exact this
 have C:∀ (m:Nat) y b,m≠t→vs[m]?=some y→y.ownBlock=some b→v'.ownBlock≠some b:=fun m y b hm hy hb q=>by
  rcases a.fresh with f | ⟨g2,f,hf⟩
  ·exact hm (g.apart m t y v b hy hv hb (f ▸ q))
  ·have:=(x_d (g.own m y hy) b hb).2;rw [f] at q;have:g2=b:=Option.some.inj q;omega
 refine ⟨⟨?_,o1.keep J (fun e=>g.ne e.symm),by rw [List.length_set];exact g.len,fun j u hu=>?_,fun j k u z b hu hz hub hzb=>?_,x_b h1 J (fun b hb q=>x_c h1 l1 (by decide) (q ▸ hb)),g.ge⟩,(a.keep.mono (fun i _ e=>(x_d A i e).1)).trans J (fun i _ e=>by have e':i=r4:=e;rw [e'];exact g.ge.1),fun b cs q=>(q.keep a.keep (x_c A q (by decide))).keep J (fun e=>(q.keep a.keep (x_c A q (by decide))).ne l1 (by decide) e)⟩
 ·have:=l1.set t v';have e:vs.toArray.setIfInBounds t v'=(vs.set t v').toArray:=(by simp);rw [e] at this;exact this
 ·rw [rowP_set c ht hl];by_cases e:j=t
  ·subst e;rw [List.getElem?_set_self hi] at hu;cases hu;rw [if_pos rfl];exact x_e G _ _ (fun q=>x_c G l1 (by decide) q)
  ·rw [List.getElem?_set_ne (Ne.symm e)] at hu;rw [if_neg e];have M:=x_b (g.own j u hu) a.keep (fun b hb q=>e (g.apart j t u v b hu hv hb q));exact x_e M _ _ (fun q=>x_c M l1 (by decide) q)
 ·by_cases e1:j=t
  ·by_cases e2:k=t
   ·rw [e1,e2]
   ·rw [List.getElem?_set_ne (Ne.symm e2)] at hz;subst e1;rw [List.getElem?_set_self hi] at hu;cases hu;exact absurd hub (C k z b e2 hz hzb)
  ·rw [List.getElem?_set_ne (Ne.symm e1)] at hu;by_cases e2:k=t
   ·subst e2;rw [List.getElem?_set_self hi] at hz;cases hz;exact absurd hzb (C j u b e1 hu hub)
   ·rw [List.getElem?_set_ne (Ne.symm e2)] at hz;exact g.apart j k u z b hu hz hub hzb
theorem PlAt.start (w:World):PlAt w.heap.size ((w.alloc (.cells #[.slice none 0 0,.slice none 0 0,.slice none 0 0,.slice none 0 0,.slice none 0 0,.slice none 0 0,.slice none 0 0] 205)).alloc (.cells #[.int .i64 0,.int .i64 0,.int .i64 0,.int .i64 0] 206)) w.heap.size (w.heap.size+1) [.slice none 0 0,.slice none 0 0,.slice none 0 0,.slice none 0 0,.slice none 0 0,.slice none 0 0,.slice none 0 0] (.slice none 0 0) c00:=by
 have A:∀ (k:Nat) v,([.slice none 0 0,.slice none 0 0,.slice none 0 0,.slice none 0 0,.slice none 0 0,.slice none 0 0,.slice none 0 0]:List Value)[k]?=some v→v = .slice none 0 0:=fun k v h=>(by have hm:=List.mem_of_getElem? h;simpa using hm);refine ⟨(Blk.new _ _ _).alloc _,?_,rfl,fun k v h=>?_,fun i j v u g hi hj hg _=>?_,World.ownsRow_nil _ _ _ _,⟨Nat.le_refl _,Nat.le_succ _⟩⟩
 ·have:=Blk.new (w.alloc (.cells #[.slice none 0 0,.slice none 0 0,.slice none 0 0,.slice none 0 0,.slice none 0 0,.slice none 0 0,.slice none 0 0] 205)) #[.int .i64 0,.int .i64 0,.int .i64 0,.int .i64 0] 206;rwa [World.size_alloc] at this
 ·rw [A k v h];have:rowP c00 k=[]:=(by unfold rowP;split <;> simp [c00]);rw [this];exact World.ownsRow_nil _ _ _ _
 ·rw [A i v hi] at hg;cases hg
theorem run_from28 (W:World) {g o n cap i q:Nat} (hq:n=i+q) (hq1:0 < q) (hn:n≤cap):(Instr.slice 28 (.slice (some ⟨g,o,none⟩) n cap) (some (.int .i64 (i:Int))) none none).run prog W = .ok (.slice (some ⟨g,o+i * 2,none⟩) q (cap - i)) W:=by
 rw [run_slice_l W 28 (some ⟨g,o,none⟩) n cap (by kernel_rfl) .i64 (i:Int) (by omega) (by omega)];have h1:(sizeOf (prog.elem 28)).run prog W = .ok 2 W:=(by kernel_rfl);rw [h1];simp only [Result.andThen_ok,sliced,Int.toNat_natCast,show n - i=q by omega];rw [if_neg (by omega)];simp [z_c]
def PlanPost (w:World) (l:List CallR) (e:Ending) (w':World):Prop:=
  Keep kF w w'∧((dayBad l=true∧e = .returned (.tuple #[.slice none 0 0,.bool false]))∨
    (dayBad l=false∧∃ s' vd,LRun 0 s0L (dayF l).h s'∧Ok s'∧e = .returned (.tuple #[vd,.bool true])∧w'.ownsRow w.heap.size 9 1 vd (linesOf s'.done (dayF l).all).length (strCells (linesOf s'.done (dayF l).all))))
theorem end_n {y:ByteArray} (h:y=endB):(y.toList != [101,110,100])=false:=by rw [bne,end_t h];rfl
theorem end_y {y:ByteArray} (h:y≠endB):(y.toList != [101,110,100])=true:=by rw [bne,end_f h];rfl
theorem PlAt.idleApp {base r4 r5:Nat} {w W w':World} {vs:List Value} {vh v v':Value} {c:CS} {b m k:Nat} {e:TypeId} {size:Nat} {xs news:List Value} (h:PlAt base w r4 r5 vs vh c) (_:App W b e size v m xs k news v' w') (q:Keep kF w W):PlAt base W r4 r5 vs vh c:=h.idle q
theorem PlAt.lineT {base r4 r5 t:Nat} {w w1:World} {vs:List Value} {vh v v':Value} {c:CS} {s:ByteArray} {ti:List ByteArray} (g:PlAt base w r4 r5 vs vh c) (hv:vs[t]?=some v) (ht:1≤t) (hl:t≤c.all.length) (hti:rowP c t=ti) (a:App w base 9 1 v ti.length (strCells ti) 1 [.string s] v' w1):PlAt base (w1.setCell ⟨r4,t,none⟩ v') r4 r5 (vs.set t v') vh {c with all:=c.all.set (t - 1) (c.all.getD (t - 1) []++[s])}∧Keep (fun k=>base≤k) w (w1.setCell ⟨r4,t,none⟩ v')∧(∀ b cs,Blk w b cs 84→Blk (w1.setCell ⟨r4,t,none⟩ v') b cs 84):=by
 subst hti;exact g.line hv ht hl a
theorem bad_row {l:List CallR} {k:Nat} (h:6 < (rowP (dayF l) k).length):dayBad l=true:=by
 have hm:∃ t∈(dayF l).all,6 < t.length:=by
  unfold rowP at h;split at h
  ·simp at h
  ·rcases v_d (dayF l).all (k - 1) with e | e
   ·rw [e] at h;simp at h
   ·exact ⟨_,e,h⟩
 obtain ⟨t,ht,h6⟩:=hm;have ha:((dayF l).all.any fun t=>decide (6 < t.length))=true:=List.any_eq_true.2 ⟨t,ht,decide_eq_true h6⟩;unfold dayBad okC;rw [ha];simp
theorem bad_long {l:List CallR} (h:40 < (dayF l).h.length):dayBad l=true:=by
 unfold dayBad okC;rw [show decide ((dayF l).h.length≤40)=false from decide_eq_false (by omega)];simp
theorem okC_of {c:CS} (h6:c.all.length≤6) (hr:∀ k,k < 7→(rowP c k).length≤6) (h40:c.h.length≤40):okC c=true:=by
 have ha:(c.all.any fun t=>decide (6 < t.length))=false:=(by rw [List.any_eq_false];intro t ht;obtain ⟨i,hi⟩:=List.mem_iff_getElem?.1 ht;have A:i < c.all.length:=(List.getElem?_eq_some_iff.1 hi).1;have:=hr (i+1) (by omega);unfold rowP at this;rw [if_neg (by omega),Nat.add_sub_cancel] at this;have e:c.all.getD i []=t:=(by simp [List.getD,hi]);rw [e] at this;simp;omega);unfold okC;rw [ha,decide_eq_true h6,decide_eq_true h40];rfl
theorem row_small {l:List CallR} {c:CS} {j:Nat} (h:∀ t∈c.all,t.length≤j∧∀ s∈t,∃ x∈l,x.2=s) (k:Nat):(rowP c k).length≤j:=by
 unfold rowP;split
 ·exact Nat.zero_le _
 ·rcases v_d c.all (k - 1) with e | e
  ·rw [e];exact Nat.zero_le _
  ·exact (h _ e).1
theorem run_index205 (a0 a1 a2 a3 a4 a5 a6:Option Addr) (n0 n1 n2 n3 n4 n5 n6 c0 c1 c2 c3 c4 c5 c6:Nat):(∀ W,(Instr.index 205 (.agg #[.slice a0 n0 c0,.slice a1 n1 c1,.slice a2 n2 c2,.slice a3 n3 c3,.slice a4 n4 c4,.slice a5 n5 c5,.slice a6 n6 c6]) (.int .i64 0)).run prog W = .ok (.slice a0 n0 c0) W)∧(∀ W,(Instr.index 205 (.agg #[.slice a0 n0 c0,.slice a1 n1 c1,.slice a2 n2 c2,.slice a3 n3 c3,.slice a4 n4 c4,.slice a5 n5 c5,.slice a6 n6 c6]) (.int .i64 1)).run prog W = .ok (.slice a1 n1 c1) W)∧(∀ W,(Instr.index 205 (.agg #[.slice a0 n0 c0,.slice a1 n1 c1,.slice a2 n2 c2,.slice a3 n3 c3,.slice a4 n4 c4,.slice a5 n5 c5,.slice a6 n6 c6]) (.int .i64 2)).run prog W = .ok (.slice a2 n2 c2) W)∧(∀ W,(Instr.index 205 (.agg #[.slice a0 n0 c0,.slice a1 n1 c1,.slice a2 n2 c2,.slice a3 n3 c3,.slice a4 n4 c4,.slice a5 n5 c5,.slice a6 n6 c6]) (.int .i64 3)).run prog W = .ok (.slice a3 n3 c3) W)∧(∀ W,(Instr.index 205 (.agg #[.slice a0 n0 c0,.slice a1 n1 c1,.slice a2 n2 c2,.slice a3 n3 c3,.slice a4 n4 c4,.slice a5 n5 c5,.slice a6 n6 c6]) (.int .i64 4)).run prog W = .ok (.slice a4 n4 c4) W)∧(∀ W,(Instr.index 205 (.agg #[.slice a0 n0 c0,.slice a1 n1 c1,.slice a2 n2 c2,.slice a3 n3 c3,.slice a4 n4 c4,.slice a5 n5 c5,.slice a6 n6 c6]) (.int .i64 5)).run prog W = .ok (.slice a5 n5 c5) W)∧(∀ W,(Instr.index 205 (.agg #[.slice a0 n0 c0,.slice a1 n1 c1,.slice a2 n2 c2,.slice a3 n3 c3,.slice a4 n4 c4,.slice a5 n5 c5,.slice a6 n6 c6]) (.int .i64 6)).run prog W = .ok (.slice a6 n6 c6) W):=
  ⟨fun _=>by kernel_rfl,fun _=>by kernel_rfl,fun _=>by kernel_rfl,fun _=>by kernel_rfl,fun _=>by kernel_rfl,fun _=>by kernel_rfl,fun _=>by kernel_rfl⟩
def PlRel (w:World) (B0:Nat) (l:List CallR) (r4 r5:Nat) (s28 s6 s7:Value) (wx:World):Prop:=
  ∃ (j:Nat) (vs:List Value) (c:CS),j≤l.length∧s28 = .int .i64 (j:Int)∧(l.take j).foldl (colS (endsF l)) c00=c∧s7 = .int .i64 (c.all.length:Int)∧PlAt B0 wx r4 r5 vs s6 c∧c.all.length≤6∧(∀ x∈l.take j,badCall x=false)∧Keep kF w wx
theorem plan_any {w:World} {v:Value} {l:List CallR} (hG:Glob w) (hr:Rd w 2 v l.length (callsC l)) (hsz:∀ c∈l,c.2.size≤1048576):Calls prog 76 #[v] w (PlanPost w l):=by
 obtain ⟨ao,cap,rfl,aS,b6,_⟩:=hr.shape;have HR:=hD hr;have HG:=hD hG;have ez:=hD hsz;have cd:=hD aS;clear hr hG hsz;by_cases cU:12 < l.length
 ·have u0:decide ((12:Int) < (l.length:Int))=true:=decide_eq_true (by omega);have HB:Hid (dayBad l=true):=hD (by unfold dayBad;rw [decide_eq_true cU];rfl);clear cU aS b6;go_enter func76,ntmps76;go_wp2_with fail
  go_ret2;exact ⟨Keep.refl _ _,.inl ⟨HB.out,rfl⟩⟩
 ·have u0:decide ((12:Int) < (l.length:Int))=false:=decide_eq_false (by omega);have dp:Hid (decide (12 < l.length)=false):=hD (decide_eq_false cU);have eE:l.length≤12:=(by omega);clear cU aS b6;go_enter func76,ntmps76;go_wp2_with fail
  obtain ⟨w0,dW⟩:∃ w0,w0=((w.alloc (.cells #[.slice none 0 0,.slice none 0 0,.slice none 0 0,.slice none 0 0,.slice none 0 0,.slice none 0 0,.slice none 0 0] 205)).alloc (.cells #[.int .i64 0,.int .i64 0,.int .i64 0,.int .i64 0] 206)):=⟨_,rfl⟩;have dQ:=PlAt.start w;have ej:Keep (fun _=>False) w w0:=(by rw [dW];exact ((Keep.refl _ _).alloc _).alloc _);rw [← dW] at dQ ⊢;obtain ⟨r5,dS⟩:∃ r5,r5=w.heap.size+1:=⟨_,rfl⟩;obtain ⟨r4,dR⟩:∃ r4,r4=w.heap.size:=⟨_,rfl⟩;obtain ⟨B0,dy⟩:∃ B0,B0=w.heap.size:=⟨_,rfl⟩;have en:PlAt B0 w0 r4 r5 [.slice none 0 0,.slice none 0 0,.slice none 0 0,.slice none 0 0,.slice none 0 0,.slice none 0 0,.slice none 0 0] (.slice none 0 0) c00:=(by rw [dy,dR,dS];exact dQ);rw [← dS,← dR];have ef:=hD en;have dZ:=hD ej;have au:Hid (B0=w.heap.size):=hD dy;clear dQ ej dW dS dR dy en;go_loopw [28,6,7] (fun s28 s6 s7 wx=>PlRel w B0 l r4 r5 s28 s6 s7 wx) (fun s28 _ _ _=>l.length - (intOf s28).toNat)
  case atStart=>exact ⟨0,_,c00,Nat.zero_le _,rfl,rfl,rfl,ef.out,Nat.zero_le _,fun x hx=>(by cases hx),dZ.out⟩
  case round=>
   clear ef dZ;obtain ⟨j,vs,c,hj,rfl,hc,rfl,bW,cZ,eh,hk⟩:=hrel;obtain ⟨bV,ax,rfl,_⟩:=x_a bW.h;have aO:=take_inv l j hj;rw [hc] at aO;have ei:=aO.len;have aN:=aO.h;have HC:=hD hc;have M:=hD bW;have dl:=hD eh;have HK:=hD hk;have HI:=hD aO;clear hc bW eh hk aO;by_cases cX:j < l.length
   ·obtain ⟨g,o,cp,p,dV,hp,e0,e1⟩:=rd_call (HR.out.keep HK.out n3) cX;obtain ⟨x,y⟩:=p;injection dV with h1 h2 h3;subst h1;have dI:((j:Int) < (l.length:Int))=True:=eq_true (by omega);have eC:((0:Int)≤(j:Int))=True:=eq_true (by omega);have eT:((j:Int)≤(l.length:Int))=True:=eq_true (by omega);have hw:IntKind.i64.wrap ((j:Int)+1)=((j+1:Nat):Int):=(by rw [show ((j:Int)+1)=((j+1:Nat):Int) by omega];exact IntWalk.i64_in _ (by omega));have bJ:(x,y)∈l:=List.mem_of_getElem? hp;have bB:=hD bJ;have HY:=hD (ez.out _ bJ);have HP:=hD hp;have bT:Hid ((l.take (j+1)).foldl (colS (endsF l)) c00=colS (endsF l) c (x,y)):=hD (by rw [fold_snoc _ _ _ hp,HC.out]);have ar:=hD cX;have dO:=ended_over hj x;rw [HC.out] at dO;have dr:=hD dO;have eD:j≤11:=(by omega);clear h2 h3 bJ hp dO cX hj;go_upto_region 10 with fail
    obtain ⟨w1,df⟩:∃ w1,w1=wr.alloc (.cells #[.int .i64 x,.string y] 84):=⟨_,rfl⟩;obtain ⟨r,dT⟩:∃ r,r=wr.heap.size:=⟨_,rfl⟩;have bF:Keep kF wr w1:=(by rw [df];exact (Keep.refl _ _).alloc _);have bS:Hid (Blk w1 r #[.int .i64 x,.string y] 84):=hD (by rw [df,dT];exact Blk.new _ _ _);have bj:=hD (M.out.idle bF);have b2:=hD (HK.out.trans bF n3);rw [← df,← dT];clear df bF dT e0 e1 M;have b0:w1.cell? ⟨r,0,none⟩=some (.int .i64 x):=bS.out.cell 0;have b1:w1.cell? ⟨r,1,none⟩=some (.string y):=bS.out.cell 1;by_cases cP:x < 0
    ·have d0:decide (x < 0)=true:=decide_eq_true cP;have U:Hid (dayBad l=true):=hD (bad_call bB.out (by unfold badCall;simp only [d0,Bool.true_or]));clear cP;go_wp2_with fail
     go_ret2;exact ⟨b2.out,.inl ⟨U.out,rfl⟩⟩
    ·have d0:decide (x < 0)=false:=decide_eq_false cP;by_cases dj:3 < x
     ·have d3:decide ((3:Int) < x)=true:=decide_eq_true dj;have U:Hid (dayBad l=true):=hD (bad_call bB.out (by unfold badCall;simp only [d3,d0,Bool.true_or,Bool.false_or]));clear cP dj;go_wp2_with fail
      go_ret2;exact ⟨b2.out,.inl ⟨U.out,rfl⟩⟩
     ·have d3:decide ((3:Int) < x)=false:=decide_eq_false dj;obtain ⟨xn,eM⟩:=Int.eq_ofNat_of_zero_le (show 0≤x by omega);subst eM;have aW:xn < 4:=(by omega);have eK:((0:Int)≤(xn:Int))=True:=eq_true (by omega);have eL:((xn:Int) < 4)=True:=eq_true (by omega);have eB:=HI.out.cur (xn:Int);clear cP dj;by_cases ba:y=endB
      ·have zy:=end_t ba;have zn:=end_n ba;have cz:=hD ba;have dY:=hD (ended_self HP.out ba)
       have av:Hid (∀ z∈l.take (j+1),badCall z=false):=hD (by
        rw [List.take_add_one,HP.out];intro z hz;rcases List.mem_append.1 hz with q | q
        ·exact dl.out z q
        ·simp at q;subst q;unfold badCall;simp only [d0,d3,Bool.false_or];rw [show (bs [101,110,100]:ByteArray)=endB from rfl,decide_eq_true ba];simp)
       clear ba;go_upto_region 12 with fail
       have cr:=bj;have b9:=b2;have bZ:=bS;clear bj b2 bS b0 b1;obtain ⟨q,hq⟩:∃ q,l.length=j+q:=⟨l.length - j,by have:=ar.out;omega⟩;have al:0 < q:=(by have:=ar.out;omega);have eH:=fun W=>run_from28 W (g:=g) (o:=o) (n:=l.length) (cap:=cap) (i:=j) (q:=q) hq al cd.out;have eG:((0:Int)≤(q:Int))=True:=eq_true (by omega);have HQ:=hD hq;clear hq al;go_wp2_with fail
       go_loopw [56,10] (fun s56 s10 wx=>∃ m:Nat,m≤q∧s56 = .int .i64 (m:Int)∧s10 = .bool (((l.drop j).take m).any (isE (xn:Int)))∧Keep (fun _=>False) w1 wx) (fun v _ _=>q - (intOf v).toNat)
       case atStart=>exact ⟨0,Nat.zero_le _,rfl,rfl,Keep.refl _ _⟩
       case round=>
        obtain ⟨m,hm,rfl,rfl,bH⟩:=hrel;have bn:=bZ.out.keep bH (fun e=>e);have b0:wr.cell? ⟨r,0,none⟩=some (.int .i64 (xn:Int)):=bn.cell 0;have b1:wr.cell? ⟨r,1,none⟩=some (.string y):=bn.cell 1;have ag:=hD bH;have bf:=hD bn;obtain ⟨eb,bE⟩:∃ eb,((l.drop j).take m).any (isE (xn:Int))=eb:=⟨_,rfl⟩;rw [bE];have ce:=hD bE;clear bH bn bE;by_cases bK:m < q
        ·have cE:j+m < l.length:=(by have:=HQ.out;omega);obtain ⟨g2,o2,e5,p2,bO,cJ,f0,f1⟩:=rd_call (HR.out.keep (b9.out.trans ag.out n3) n3) cE;obtain ⟨x2,y2⟩:=p2;injection bO with h1 h2 h3;injection h1 with h1;injection h1 with h4 h5 h6;subst h4 h5;have e8:wr.cell? ⟨g,o+j * 2+m * 2,none⟩=some (.int .i64 x2):=(by rw [show o+j * 2+m * 2=o+(j+m) * 2 by omega];exact f0);have e9:wr.cell? ⟨g,o+j * 2+m * 2+1,none⟩=some (.string y2):=(by rw [show o+j * 2+m * 2+1=o+(j+m) * 2+1 by omega];exact f1);have bI:((m:Int) < (q:Int))=True:=eq_true (by omega);have dM:((0:Int)≤(m:Int))=True:=eq_true (by omega);have dX:IntKind.i64.wrap ((m:Int)+1)=((m+1:Nat):Int):=(by rw [show ((m:Int)+1)=((m+1:Nat):Int) by omega];exact IntWalk.i64_in _ (by omega));have ah:=hD bK;have bi:Hid (((l.drop j).take (m+1)).any (isE (xn:Int))=(eb || (decide (x2=(xn:Int)) && decide (y2=endB)))):=hD (by rw [List.take_add_one,List.getElem?_drop,cJ,List.any_append,ce.out];simp [isE]);have e4:(wr.alloc (.cells #[.int .i64 x2,.string y2] 84)).cell? ⟨r,0,none⟩=some (.int .i64 (xn:Int)):=(bf.out.alloc _).cell 0;clear f0 f1 h2 h3 h6 cJ bK cE;cases eb
         ·by_cases aq:x2=(xn:Int)
          ·have z2:(x2 == (xn:Int))=true:=beq_iff_eq.2 aq;have bq:decide (x2=(xn:Int))=true:=decide_eq_true aq;by_cases a6:y2=endB
           ·have z3:=end_t a6;have aH:Hid (((l.drop j).take (m+1)).any (isE (xn:Int))=true):=hD (by rw [bi.out,bq,decide_eq_true a6];rfl);clear aq a6 bq;go_wp2_with fail
            go_roundw
            case rel=>exact ⟨m+1,ah.out,rfl,by rw [aH.out],ag.out.alloc _⟩
            case measure=>have:=ah.out;simp [intOf];omega
           ·have z3:=end_f a6;have aH:Hid (((l.drop j).take (m+1)).any (isE (xn:Int))=false):=hD (by rw [bi.out,bq,decide_eq_false a6];rfl);clear aq a6 bq;go_wp2_with fail
            go_roundw
            case rel=>exact ⟨m+1,ah.out,rfl,by rw [aH.out],ag.out.alloc _⟩
            case measure=>have:=ah.out;simp [intOf];omega
          ·have z2:(x2 == (xn:Int))=false:=beq_eq_false_iff_ne.2 aq;have aH:Hid (((l.drop j).take (m+1)).any (isE (xn:Int))=false):=hD (by rw [bi.out,decide_eq_false aq];rfl);clear aq;go_wp2_with fail
           go_roundw
           case rel=>exact ⟨m+1,ah.out,rfl,by rw [aH.out],ag.out.alloc _⟩
           case measure=>have:=ah.out;simp [intOf];omega
         ·go_wp2_with fail
          go_roundw
          case rel=>exact ⟨m+1,ah.out,rfl,by rw [bi.out];rfl,ag.out.alloc _⟩
          case measure=>have:=ah.out;simp [intOf];omega
        ·have bI:((m:Int) < (q:Int))=False:=eq_false (by omega);have bg:Hid (eb=endedB l j (xn:Int)):=hD (by rw [← ce.out,List.take_of_length_le (by rw [List.length_drop];have:=HQ.out;omega)];rfl);have an:=hD (cr.out.idle ag.out);have am:=hD (b9.out.trans ag.out n3);have bU:=hD am.out.size;obtain ⟨xo,xf⟩:=an.out.open aW;clear bK hm cr b9 bZ ag;have dG:eb=true:=(by rw [bg.out,dY.out]);subst dG;have aa:=dr.out.1 dY.out;by_cases aM:c.cur (xn:Int)=0
         ·have zc:decide ((0:Int) < c.cur (xn:Int))=false:=decide_eq_false (by omega);have HS:=hD (colS_skip aa aM cz.out);clear aa aM;go_wp2_with fail
          go_roundw
          case rel=>exact ⟨j+1,vs,_,ar.out,rfl,bT.out,by rw [HS.out],by rw [HS.out];exact an.out.same rfl (fun _=>rfl) rfl,by rw [HS.out];exact cZ,av.out,am.out⟩
          case measure=>have:=ar.out;simp [intOf];omega
         ·have zc:decide ((0:Int) < c.cur (xn:Int))=true:=decide_eq_true (by omega);have HS:=hD (colS_end aa aM cz.out);clear aa aM;go_wp2_with (at_builtin;go_loud (refine x_h (w:=wr.alloc (.cells #[.int .i64 (c.cur (xn:Int)),.int .i64 2,.int .i64 0] 209)) rfl (.tmp 85) (.tmp 91) 208 208 rfl 209 (.agg #[.int .i64 0,.int .i64 0,.int .i64 0]) 3 24 underlying208 info209 rfl (an.out.h.alloc _) rfl (Src.new (P:=prog) underlying208 wr 1 [.int .i64 (c.cur (xn:Int)),.int .i64 2,.int .i64 0] 209 rfl (by simp [Value.oneCell'])) rfl (by unfold maxLen;omega) (by omega) (by have:=bU.out;have:=au.out;simp;omega) ?_);intro v' wa A;go_loud (obtain ⟨hA,b7,b5⟩:=(an.out.idle ((Keep.refl kF wr).alloc _)).op (o:=(c.cur (xn:Int),2,0)) A;have hq:=b5 _ _ (bf.out.alloc _);have f0:wa.cell? ⟨r,0,none⟩=some (.int .i64 (xn:Int)):=hq.cell 0;obtain ⟨eX,eW⟩:=hA.open aW;have HA:=hD (hA.setCur aW 0);have cg:=hD (((am.out.alloc _).trans b7 (fun k hk e=>by have:=au.out;omega)).trans ((Keep.refl (fun k=>k=r5) wa).setCell ⟨r5,xn,none⟩ (.int .i64 0) (fun _=>rfl)) (fun k hk e=>by have:=an.out.ge;have:=au.out;omega));clear A hA b7 b5 hq))
          go_roundw
          case rel=>exact ⟨j+1,vs,_,ar.out,rfl,bT.out,by rw [HS.out];rfl,by rw [HS.out];exact HA.out.same rfl (fun _=>rfl) rfl,by rw [HS.out];exact cZ,av.out,cg.out⟩
          case measure=>have:=ar.out;simp [intOf];omega
      ·have zy:=end_f ba;have zn:=end_y ba;have cz:=hD ba;have cR:=hD (isChange_any (HG.out.keep b2.out) HY.out);clear ba;cases bL:okB y
       ·rw [bL] at cR;have U:Hid (dayBad l=true):=hD (bad_call bB.out (by unfold badCall;simp only [bL,d0,d3,Bool.false_or];rw [show (bs [101,110,100]:ByteArray)=endB from rfl,decide_eq_false cz.out];simp));clear bL;go_wp2_with (go_at_call 111;refine Calls.mono cR.out ?_;rintro e w2 ⟨rfl,ad⟩;have aY:=hD ad;clear ad)
        go_ret2;exact ⟨b2.out.trans aY.out n3,.inl ⟨U.out,rfl⟩⟩
       ·rw [bL] at cR;have ee:=hD bL
        have av:Hid (∀ z∈l.take (j+1),badCall z=false):=hD (by
         rw [List.take_add_one,HP.out];intro z hz;rcases List.mem_append.1 hz with q | q
         ·exact dl.out z q
         ·simp at q;subst q;unfold badCall;simp only [d0,d3,bL,Bool.false_or];simp)
        clear bL;go_upto_region 12 with (go_at_call 111;refine Calls.mono cR.out ?_;rintro e w2 ⟨rfl,ad⟩;have aY:=hD ad;clear ad)
        have cr:=hD (bj.out.idle aY.out);have b9:=hD (b2.out.trans aY.out n3);have bZ:=hD (bS.out.keep aY.out (fun e=>e));clear bj b2 bS aY b0 b1;obtain ⟨q,hq⟩:∃ q,l.length=j+q:=⟨l.length - j,by have:=ar.out;omega⟩;have al:0 < q:=(by have:=ar.out;omega);have eH:=fun W=>run_from28 W (g:=g) (o:=o) (n:=l.length) (cap:=cap) (i:=j) (q:=q) hq al cd.out;have eG:((0:Int)≤(q:Int))=True:=eq_true (by omega);have HQ:=hD hq;clear hq al;go_wp2_with fail
        go_loopw [56,10] (fun s56 s10 wx=>∃ m:Nat,m≤q∧s56 = .int .i64 (m:Int)∧s10 = .bool (((l.drop j).take m).any (isE (xn:Int)))∧Keep (fun _=>False) w2 wx) (fun v _ _=>q - (intOf v).toNat)
        case atStart=>exact ⟨0,Nat.zero_le _,rfl,rfl,Keep.refl _ _⟩
        case round=>
         obtain ⟨m,hm,rfl,rfl,bH⟩:=hrel;have bn:=bZ.out.keep bH (fun e=>e);have b0:wr.cell? ⟨r,0,none⟩=some (.int .i64 (xn:Int)):=bn.cell 0;have b1:wr.cell? ⟨r,1,none⟩=some (.string y):=bn.cell 1;have ag:=hD bH;have bf:=hD bn;obtain ⟨eb,bE⟩:∃ eb,((l.drop j).take m).any (isE (xn:Int))=eb:=⟨_,rfl⟩;rw [bE];have ce:=hD bE;clear bH bn bE;by_cases bK:m < q
         ·have cE:j+m < l.length:=(by have:=HQ.out;omega);obtain ⟨g2,o2,e5,p2,bO,cJ,f0,f1⟩:=rd_call (HR.out.keep (b9.out.trans ag.out n3) n3) cE;obtain ⟨x2,y2⟩:=p2;injection bO with h1 h2 h3;injection h1 with h1;injection h1 with h4 h5 h6;subst h4 h5;have e8:wr.cell? ⟨g,o+j * 2+m * 2,none⟩=some (.int .i64 x2):=(by rw [show o+j * 2+m * 2=o+(j+m) * 2 by omega];exact f0);have e9:wr.cell? ⟨g,o+j * 2+m * 2+1,none⟩=some (.string y2):=(by rw [show o+j * 2+m * 2+1=o+(j+m) * 2+1 by omega];exact f1);have bI:((m:Int) < (q:Int))=True:=eq_true (by omega);have dM:((0:Int)≤(m:Int))=True:=eq_true (by omega);have dX:IntKind.i64.wrap ((m:Int)+1)=((m+1:Nat):Int):=(by rw [show ((m:Int)+1)=((m+1:Nat):Int) by omega];exact IntWalk.i64_in _ (by omega));have ah:=hD bK;have bi:Hid (((l.drop j).take (m+1)).any (isE (xn:Int))=(eb || (decide (x2=(xn:Int)) && decide (y2=endB)))):=hD (by rw [List.take_add_one,List.getElem?_drop,cJ,List.any_append,ce.out];simp [isE]);have e4:(wr.alloc (.cells #[.int .i64 x2,.string y2] 84)).cell? ⟨r,0,none⟩=some (.int .i64 (xn:Int)):=(bf.out.alloc _).cell 0;clear f0 f1 h2 h3 h6 cJ bK cE;cases eb
          ·by_cases aq:x2=(xn:Int)
           ·have z2:(x2 == (xn:Int))=true:=beq_iff_eq.2 aq;have bq:decide (x2=(xn:Int))=true:=decide_eq_true aq;by_cases a6:y2=endB
            ·have z3:=end_t a6;have aH:Hid (((l.drop j).take (m+1)).any (isE (xn:Int))=true):=hD (by rw [bi.out,bq,decide_eq_true a6];rfl);clear aq a6 bq;go_wp2_with fail
             go_roundw
             case rel=>exact ⟨m+1,ah.out,rfl,by rw [aH.out],ag.out.alloc _⟩
             case measure=>have:=ah.out;simp [intOf];omega
            ·have z3:=end_f a6;have aH:Hid (((l.drop j).take (m+1)).any (isE (xn:Int))=false):=hD (by rw [bi.out,bq,decide_eq_false a6];rfl);clear aq a6 bq;go_wp2_with fail
             go_roundw
             case rel=>exact ⟨m+1,ah.out,rfl,by rw [aH.out],ag.out.alloc _⟩
             case measure=>have:=ah.out;simp [intOf];omega
           ·have z2:(x2 == (xn:Int))=false:=beq_eq_false_iff_ne.2 aq;have aH:Hid (((l.drop j).take (m+1)).any (isE (xn:Int))=false):=hD (by rw [bi.out,decide_eq_false aq];rfl);clear aq;go_wp2_with fail
            go_roundw
            case rel=>exact ⟨m+1,ah.out,rfl,by rw [aH.out],ag.out.alloc _⟩
            case measure=>have:=ah.out;simp [intOf];omega
          ·go_wp2_with fail
           go_roundw
           case rel=>exact ⟨m+1,ah.out,rfl,by rw [bi.out];rfl,ag.out.alloc _⟩
           case measure=>have:=ah.out;simp [intOf];omega
         ·have bI:((m:Int) < (q:Int))=False:=eq_false (by omega);have bg:Hid (eb=endedB l j (xn:Int)):=hD (by rw [← ce.out,List.take_of_length_le (by rw [List.length_drop];have:=HQ.out;omega)];rfl);have an:=hD (cr.out.idle ag.out);have am:=hD (b9.out.trans ag.out n3);have bU:=hD am.out.size;obtain ⟨xo,xf⟩:=an.out.open aW;clear bK hm cr b9 bZ ag;cases eb
          ·have em:endedB l j (xn:Int)=false:=bg.out.symm
           have aa:c.over (xn:Int)=endsF l (xn:Int):=by
            by_cases e:c.over (xn:Int)=endsF l (xn:Int)
            ·exact e
            ·have:=dr.out.2 e;rw [em] at this;cases this
           have HS:=hD (colS_over (y:=y) aa);clear em aa;go_wp2_with fail
           go_roundw
           case rel=>exact ⟨j+1,vs,_,ar.out,rfl,bT.out,by rw [HS.out],by rw [HS.out];exact an.out,by rw [HS.out];exact cZ,av.out,am.out⟩
           case measure=>have:=ar.out;simp [intOf];omega
          ·have aa:=dr.out.1 bg.out.symm;have HS:=hD (colS_line (x:=(xn:Int)) aa cz.out);clear aa;have cT:=hD (HI.out.new (xn:Int));by_cases aM:c.cur (xn:Int)=0
           ·have zc:(c.cur (xn:Int) == 0)=true:=beq_iff_eq.2 aM;have HN:Hid (newS c (xn:Int) = {c with all:=c.all++[[]],cur:=upI c.cur (xn:Int) ((c.all.length:Int)+1)}):=hD (by unfold newS;rw [if_pos aM]);have eJ:IntKind.i64.wrap ((c.all.length:Int)+1)=(c.all.length:Int)+1:=IntWalk.i64_in _ (by omega);have b3:Hid ((newS c (xn:Int)).all.length=c.all.length+1):=hD (by rw [HN.out];simp);have ci:Hid ((c.all.length:Int)+1=((newS c (xn:Int)).all.length:Int)):=hD (by rw [b3.out];omega);clear aM;by_cases h6:c.all.length+1≤6
            ·have da:decide ((6:Int) < (c.all.length:Int)+1)=false:=decide_eq_false (by omega);go_upto_region 27 with fail
             obtain ⟨w3,dh⟩:∃ w3,w3=wr.setCell ⟨r5,xn,none⟩ (.int .i64 ((c.all.length:Int)+1)):=⟨_,rfl⟩;have dL:Keep (fun k=>k=r5) wr w3:=(by rw [dh];exact (Keep.refl _ _).setCell _ _ (fun _=>rfl));have C:PlAt B0 w3 r4 r5 vs (.slice bV c.h.length ax) (newS c (xn:Int)):=(by rw [dh];exact (an.out.setCur aW _).same (by rw [HN.out]) (fun k=>rowP_new c _ k) (by rw [HN.out]));have Z:Keep (fun _=>False) w w3:=am.out.trans dL (fun k hk e=>by have:=an.out.ge;have:=au.out;omega);have J:Blk w3 r #[.int .i64 (xn:Int),.string y] 84:=bf.out.keep dL (bf.out.ne an.out.ob (by decide));rw [← dh];clear dh dL an am bf HN zc eJ da b0 b1 xo xf;obtain ⟨n1,n2,_,n4,n5,n6,_⟩:=cT.out;obtain ⟨c1,c8⟩:∃ c1,newS c (xn:Int)=c1:=⟨_,rfl⟩;rw [c8] at C n1 n2 n4 n5 n6 HS b3 ci;have dD:c.h.length=c1.h.length:=(by rw [n6]);rw [dD] at C aN ⊢;rw [ci.out];have ak:=n1 (xn:Int);obtain ⟨tt,bx⟩:∃ tt,c1.cur (xn:Int)=tt:=⟨_,rfl⟩;rw [bx] at n2 ak HS;obtain ⟨tn,cO⟩:=Int.eq_ofNat_of_zero_le (show 0≤tt by omega);subst cO;have cM:1≤tn:=(by omega);have cN:tn≤c1.all.length:=(by omega);have aU:c1.all.length≤6:=(by have:=b3.out;omega);have aV:tn < vs.length:=(by rw [C.len];omega);obtain ⟨vi,az⟩:∃ vi,vs[tn]?=some vi:=⟨_,List.getElem?_eq_getElem aV⟩;have G:=C.own tn vi az;have aT:=row_small n5 tn;obtain ⟨ti,aZ⟩:∃ ti,rowP c1 tn=ti:=⟨_,rfl⟩;rw [aZ] at G aT;obtain ⟨a7,R,rfl,_⟩:=x_a G;obtain ⟨a0,a1⟩:=C.cell az;have dw:(w3.alloc (.cells #[.string y] 9)).cell? ⟨r4,tn,none⟩=some (.slice a7 ti.length R):=(((Keep.refl (fun _=>False) w3).alloc _).cell (p:=⟨r4,tn,none⟩) C.lb.lt (fun e=>e)).trans a0;have b0:w3.cell? ⟨r,0,none⟩=some (.int .i64 (xn:Int)):=J.cell 0;have b1:w3.cell? ⟨r,1,none⟩=some (.string y):=J.cell 1;obtain ⟨xo,xf⟩:=C.open aW;rw [bx] at xo;have dc:((0:Int)≤(tn:Int))=True:=eq_true (by omega);have dd:((tn:Int) < 7)=True:=eq_true (by omega);have cy:=hD bx;have aw:Hid (∀ W,Keep (fun k=>k≠r∧k≠r5) w3 W→W.cell? ⟨r,0,none⟩=some (.int .i64 (xn:Int))∧W.cell? ⟨r,1,none⟩=some (.string y)∧W.cell? ⟨r5,xn,none⟩=some (.int .i64 (tn:Int))):=hD fun W k=>⟨(J.keep k (fun e=>e.1 rfl)).cell 0,(J.keep k (fun e=>e.1 rfl)).cell 1,((C.ob.keep k (fun e=>e.2 rfl)).cell xn).trans ((curA_at _ aW).trans (by rw [cy.out]))⟩;have aG:Hid (r4≠r∧r4≠r5):=hD ⟨C.lb.ne J (by decide),C.ne⟩;have ck:Hid (∀ k,(Value.slice a7 ti.length R).ownBlock=some k→k≠r∧k≠r5):=hD (fun k e=>⟨fun q=>x_c G J (by decide) (q ▸ e),fun q=>x_c G C.ob (by decide) (q ▸ e)⟩);have cu:Hid (∀ W,Keep (fun _=>False) w3 W→W.ownsRow B0 9 1 (.slice a7 ti.length R) ti.length (strCells ti)):=hD fun W k=>x_b G k n3;have bY:Hid (B0≤w3.heap.size):=hD (by have:=Z.size;have:=au.out;omega);have bD:Hid (1≤tn∧tn≤c1.all.length∧c1.all.length≤6):=hD ⟨cM,cN,aU⟩;have bl:=hD az;have cx:=hD aZ;have X:=hD C;have Y:=hD Z;have ae:=hD J;have b4:Hid ({c1 with all:=c1.all.set (tn - 1) (c1.all.getD (tn - 1) []++[y])}=lineK c1 (tn:Int) y 0 0):=hD (by rw [lineK_start,show ((tn:Int) - 1).toNat=tn - 1 by omega]);clear C Z J G az aZ bx n1 n2 n4 n5 n6 cT aV ak c8 cM cN aU;go_cut [116] from 116 to 130 (fun s116 wx=>∃ vs',PlAt B0 wx r4 r5 vs' (.slice bV c1.h.length ax) (lineK c1 (tn:Int) y 0 0)∧Keep (fun _=>False) w wx∧Blk wx r #[.int .i64 (xn:Int),.string y] 84)
             case first=>
              rename_i Jq Kq dz dA;refine wp_region_noPanic ?_;refine wp_region_held_drew (S:=fun W=>W.cell? ⟨r,0,none⟩=some (.int .i64 (xn:Int))∧W.cell? ⟨r,1,none⟩=some (.string y)∧W.cell? ⟨r5,xn,none⟩=some (.int .i64 (tn:Int))) (by kernel_rfl) (aw.out _ ((Keep.refl _ _).drew)) fun hHeld=>?_;refine wS 0 ?_;refine wS 1 ?_;refine wS 2 ?_;refine wS 3 ?_;refine wS 4 ?_;refine wS 5 ?_;refine wS 6 ?_;refine wS 7 ?_;refine wS 8 ?_;refine wS 10 ?_;refine wS 11 ?_;refine wR (rs:=[9,12]) ?_;refine AllReadyH.cons (o:=_) rfl (fun K hK=>?_) (AllReadyH.cons (o:=_) rfl (fun K hK=>?_) AllReadyH.nil)
              all_goals
               go_simp;refine hK.out _ _ ?_ fun hHeld=>?_
               ·((try dsimp only);refine aw.out _ ?_;repeat (first | exact bh.out | exact Keep.refl _ _ | apply Keep.drew | apply Keep.alloc | refine Keep.setCell ?_ _ _ (fun _=>aG.out)))
               clear hK K;(try simp only [tA])
              focus
               refine wR (rs:=[12]) ?_
              rotate_left
              focus
               refine wR (rs:=[9]) ?_
              rotate_left
              all_goals
               refine aR rfl fun K hK=>?_;go_simp;refine hK.out _ _ ?_ fun hHeld=>?_
               ·((try dsimp only);refine aw.out _ ?_;repeat (first | exact bh.out | exact Keep.refl _ _ | apply Keep.drew | apply Keep.alloc | refine Keep.setCell ?_ _ _ (fun _=>aG.out)))
               clear hK K;(try simp only [tA]);refine wB 13 fun K hK=>?_;refine x_q (base:=B0) (.tmp 125) (.tmp 128) 44 44 rfl 9 (.string ⟨#[]⟩) 1 16 underlying44 y_t rfl (v:=.slice a7 ti.length R) (n:=ti.length) (xs:=strCells ti) (cu.out _ kW) rfl (m:=1) (news:=[.string y]) (by first | exact (Rd.new w3 1 1 [.string y] 9 rfl (by simp [Value.oneCell']) (by unfold maxLen;omega)).src underlying44 | exact (Rd.new w3 1 1 [.string y] 9 rfl (by simp [Value.oneCell']) (by unfold maxLen;omega)).drew.src underlying44 | exact ((Rd.new w3 1 1 [.string y] 9 rfl (by simp [Value.oneCell']) (by unfold maxLen;omega)).keep ((Keep.refl kF _).drew) n3).src underlying44) rfl (by unfold maxLen;omega) (by omega) (Nat.le_trans bY.out (Keep.size (show Keep kF w3 _ from kW))) (fun v' w7 A=>?_);obtain ⟨c6,aI,rfl,_⟩:=x_a A.own;have al:=X.out.idleApp A kW;have bA:=hD (al.lineT bl.out bD.out.1 bD.out.2.1 cx.out A);have bM:=al.lb.keep A.keep (x_c (al.own tn _ bl.out) al.lb (by decide));have y1:w7.cell? ⟨r4,tn,none⟩=some (.slice a7 ti.length R):=(bM.cell tn).trans (by simpa using bl.out);have y0:=bM.free tn;have bh:Hid (Keep (fun k=>k≠r∧k≠r5) w3 w7):=hD (Keep.trans (show Keep (fun k=>k≠r∧k≠r5) w3 _ from kW) A.keep (fun k _ e=>ck.out k e));have dm:Hid (Blk (w7.setCell ⟨r4,tn,none⟩ (.slice c6 (ti.length+1) aI)) r #[.int .i64 (xn:Int),.string y] 84):=hD (bA.out.2.2 _ _ (ae.out.keep (show Keep kF w3 _ from kW) (fun e=>e)));have am:Hid (Keep kF w (w7.setCell ⟨r4,tn,none⟩ (.slice c6 (ti.length+1) aI))):=hD ((Y.out.trans (show Keep kF w3 _ from kW) n3).trans bA.out.2.1 (fun k hk e=>by have:=au.out;omega));clear A al bM;refine hK.out _ _ ?_ fun hHeld=>?_
               ·((try dsimp only);refine aw.out _ ?_;repeat (first | exact bh.out | exact Keep.refl _ _ | apply Keep.drew | apply Keep.alloc | refine Keep.setCell ?_ _ _ (fun _=>aG.out)))
               clear hK K;(try simp only [tA]);refine wS 14 ?_;refine wA 15 fun K hK=>?_;go_simp;refine hK.out _ _ ?_ fun hHeld=>?_
               ·((try dsimp only);refine aw.out _ ?_;repeat (first | exact bh.out | exact Keep.refl _ _ | apply Keep.drew | apply Keep.alloc | refine Keep.setCell ?_ _ _ (fun _=>aG.out)))
               clear hK K;(try simp only [tA]);refine wpAnyH_done (by kernel_rfl) ?_ _;refine NoPanic.normal ?_;refine dA _ _ (Met.intro (dz _ _ ?_));exact ⟨_,_,_,_,_,_,_,_,_,_,_,_,_,_,_,⟨_,b4.out ▸ bA.out.1,am.out,dm.out⟩,rfl⟩
             case rest=>
              clear b0 b1 a0 dw a1 xo xf aw aG ck cu bY bl cx X Y ae b4 dc dd;obtain ⟨bR,aL,aP,aJ⟩:=hcut;have aB:=hD aL;have aE:=hD aP;have a8:=hD aJ;clear aL aP aJ;go_wp2_with fail
              go_loopw [131,6] (fun s131 s6 wx=>∃ k:Nat,k≤2∧s131 = .int .i64 k∧PlAt B0 wx r4 r5 bR s6 (lineK c1 (tn:Int) y k 0)∧Keep (fun _=>False) w wx∧Blk wx r #[.int .i64 (xn:Int),.string y] 84) (fun v _ _=>2 - (intOf v).toNat)
              case atStart=>exact ⟨0,by omega,rfl,aB.out,aE.out,a8.out⟩
              case round=>
               clear aB aE a8;obtain ⟨k,ad,rfl,C,Z,J⟩:=hrel;obtain ⟨c2,bp⟩:∃ c2,lineK c1 (tn:Int) y k 0=c2:=⟨_,rfl⟩;have cG:c2.h.length≤200:=(by rw [← bp];show (c1.h++opsUp (tn:Int) (itemsF y) k 0).length≤200;have:=y_y (tn:Int) (itemsF y) k 0 ad (x_w y);rw [List.length_append];omega);rw [bp] at C;obtain ⟨dB,cA,rfl,_⟩:=x_a C.h;have b1:wr.cell? ⟨r,1,none⟩=some (.string y):=J.cell 1;have X:=hD C;have Y:=hD Z;have ae:=hD J;have ca:=hD bp;clear C Z J bp;by_cases bG:k < 2
               ·have bF:((k:Int) < 2)=True:=eq_true (by omega);have dJ:decide ((k:Int) < 2)=true:=decide_eq_true (by omega);have eI:IntKind.i64.wrap ((k:Int)+1)=((k+1:Nat):Int):=(by rw [show ((k:Int)+1)=((k+1:Nat):Int) by omega];exact IntWalk.i64_in _ (by omega));have ch:=hD bG;clear bG;go_wp2_with (go_at_call 112;have hh:=items_any (HG.out.keep Y.out) HY.out ee.out;refine Calls.mono hh ?_;clear hh;rintro e w5 ⟨vt,rfl,ay,br⟩;obtain ⟨bQ,aX,rfl,_⟩:=x_a ay;have ai:=hD ay;have aC:=hD (X.out.idle br);have aF:=hD (Y.out.trans br n3);have aA:=hD (ae.out.keep br (fun e=>e));clear ay br)
                obtain ⟨O,ac⟩:∃ O,itemsF y=O:=⟨_,rfl⟩;have dH:O.length≤4:=(by rw [← ac];exact x_w y);rw [ac] at ai ⊢;have aD:=hD ac;obtain ⟨bt,c7⟩:∃ bt,wr.heap.size=bt:=⟨_,rfl⟩;rw [c7] at ai;clear ac b1 c7;go_loopw [138,6] (fun s138 s6 wx=>∃ m:Nat,m≤O.length∧s138 = .int .i64 m∧PlAt B0 wx r4 r5 bR s6 (lineK c1 (tn:Int) y k m)∧wx.ownsRow bt 3 1 (.slice bQ O.length aX) O.length (icells O)∧Keep (fun _=>False) w wx∧Blk wx r #[.int .i64 (xn:Int),.string y] 84) (fun v _ _=>O.length - (intOf v).toNat)
                case atStart=>exact ⟨0,Nat.zero_le _,rfl,by rw [ca.out];exact aC.out,ai.out,aF.out,aA.out⟩
                case round=>
                 clear aC aF aA ai X Y ae;obtain ⟨m,hm,rfl,C,ay,Z,J⟩:=hrel;obtain ⟨c3,aK⟩:∃ c3,lineK c1 (tn:Int) y k m=c3:=⟨_,rfl⟩;have cH:c3.h.length≤200:=(by rw [← aK];show (c1.h++opsUp (tn:Int) (itemsF y) k m).length≤200;have:=y_y (tn:Int) (itemsF y) k m ad (x_w y);rw [List.length_append];omega);rw [aK] at C;have cC:c3.cur (xn:Int)=(tn:Int):=(by rw [← aK];exact cy.out);obtain ⟨dC,cB,rfl,_⟩:=x_a C.h;have b0:wr.cell? ⟨r,0,none⟩=some (.int .i64 (xn:Int)):=J.cell 0;obtain ⟨xo,xf⟩:=C.open aW;rw [cC] at xo;have X:=hD C;have Y:=hD Z;have ae:=hD J;have ai:=hD ay;have cb:=hD aK;have bU:=hD Z.size;clear C Z J ay aK cC;by_cases aQ:m < O.length
                 ·obtain ⟨gt,ot,ct,dU,dE⟩:=rd_int (x_g ai.out (x_l _)) aQ;injection dU with q1 q2 q3;subst q1;obtain ⟨z5,bP⟩:∃ z5,O[m]?=some z5:=⟨_,List.getElem?_eq_getElem aQ⟩;have cQ:O.getD m 0=z5:=(by simp [List.getD,bP]);rw [cQ] at dE;have bC:Hid (lineK c1 (tn:Int) y k (m+1) = {c3 with h:=c3.h++[((tn:Int),(k:Int),z5)]}):=hD (by rw [v_b _ _ _ _ _ (by rw [aD.out];exact bP),cb.out]);have bI:((m:Int) < (O.length:Int))=True:=eq_true (by omega);have dM:((0:Int)≤(m:Int))=True:=eq_true (by omega);have dX:IntKind.i64.wrap ((m:Int)+1)=((m+1:Nat):Int):=(by rw [show ((m:Int)+1)=((m+1:Nat):Int) by omega];exact IntWalk.i64_in _ (by omega));have cj:=hD aQ;clear q2 q3 bP cQ aQ;go_wp2_with (at_builtin;go_loud (refine x_h (w:=wr.alloc (.cells #[.int .i64 (tn:Int),.int .i64 (k:Int),.int .i64 z5] 209)) rfl (.tmp 142) (.tmp 150) 208 208 rfl 209 (.agg #[.int .i64 0,.int .i64 0,.int .i64 0]) 3 24 underlying208 info209 rfl (X.out.h.alloc _) rfl (Src.new (P:=prog) underlying208 wr 1 [.int .i64 (tn:Int),.int .i64 (k:Int),.int .i64 z5] 209 rfl (by simp [Value.oneCell'])) rfl (by unfold maxLen;omega) (by omega) (by have:=bU.out;have:=au.out;simp;omega) ?_);intro v' wa A;go_loud (obtain ⟨hA,b7,b5⟩:=(X.out.idle ((Keep.refl kF wr).alloc _)).op (o:=((tn:Int),(k:Int),z5)) A;have HA:=hD hA;have cg:=hD ((Y.out.alloc _).trans b7 (fun k hk e=>by have:=au.out;omega));have dk:=hD (b5 _ _ (ae.out.alloc _));have dq:=hD (x_b (ai.out.alloc _) A.keep (fun b hb q=>x_f X.out.h ai.out (by decide) b q hb));clear A hA b7 b5))
                  go_roundw
                  case rel=>exact ⟨m+1,cj.out,rfl,by rw [bC.out];exact HA.out,dq.out,cg.out,dk.out⟩
                  case measure=>have:=cj.out;simp [intOf];omega
                 ·have bI:((m:Int) < (O.length:Int))=False:=eq_false (by omega);have cf:Hid (c3=lineK c1 (tn:Int) y (k+1) 0):=hD (by rw [← cb.out,show m=O.length by omega];unfold lineK;rw [aD.out,v_a]);clear aQ;go_wp2_with fail
                  go_roundw
                  case rel=>exact ⟨k+1,ch.out,rfl,by rw [← cf.out];exact X.out,Y.out,ae.out⟩
                  case measure=>have:=ch.out;simp [intOf];omega
               ·have bF:((k:Int) < 2)=False:=eq_false (by omega);have dJ:decide ((k:Int) < 2)=false:=decide_eq_false (by omega);have aY:Hid (k=2):=hD (by omega);clear bG;go_wp2_with fail
                go_roundw
                case rel=>
                 have e:c2=lineS c1 (tn:Int) y:=(by rw [← ca.out,aY.out,lineK_two]);have hl:(lineS c1 (tn:Int) y).all.length=c1.all.length:=List.length_set;exact ⟨j+1,bR,_,ar.out,rfl,bT.out,by rw [HS.out,hl],by rw [HS.out,← e];exact X.out,by rw [HS.out,hl];exact bD.out.2.2,av.out,Y.out⟩
                case measure=>have:=ar.out;simp [intOf];omega
            ·have da:decide ((6:Int) < (c.all.length:Int)+1)=true:=decide_eq_true (by omega);have U:Hid (dayBad l=true):=hD (bad_all (by have h1:=day_grow l (j+1);rw [bT.out,HS.out] at h1;have h2:(lineS (newS c (xn:Int)) ((newS c (xn:Int)).cur (xn:Int)) y).all.length=(newS c (xn:Int)).all.length:=List.length_set;have h3:=b3.out;omega));clear h6;go_wp2_with fail
             go_ret2;exact ⟨am.out.trans ((Keep.refl (fun k=>k=r5) wr).setCell _ _ (fun _=>rfl)) (fun k hk e=>by have:=an.out.ge;have:=au.out;omega),.inl ⟨U.out,rfl⟩⟩
           ·have zc:(c.cur (xn:Int) == 0)=false:=beq_eq_false_iff_ne.2 aM;have HN:Hid (newS c (xn:Int)=c):=hD (by unfold newS;rw [if_neg aM]);have b3:Hid ((newS c (xn:Int)).all.length=c.all.length):=hD (by rw [HN.out]);have ci:Hid ((c.all.length:Int)=((newS c (xn:Int)).all.length:Int)):=hD (by rw [b3.out]);have da:decide ((6:Int) < (c.all.length:Int))=false:=decide_eq_false (by omega);clear aM;go_upto_region 27 with fail
            have C:PlAt B0 wr r4 r5 vs (.slice bV c.h.length ax) (newS c (xn:Int)):=(by rw [HN.out];exact an.out);have Z:=am.out;have J:=bf.out;clear an am bf HN zc da b0 b1 xo xf;obtain ⟨n1,n2,_,n4,n5,n6,_⟩:=cT.out;obtain ⟨c1,c8⟩:∃ c1,newS c (xn:Int)=c1:=⟨_,rfl⟩;rw [c8] at C n1 n2 n4 n5 n6 HS b3 ci;have dD:c.h.length=c1.h.length:=(by rw [n6]);rw [dD] at C aN ⊢;rw [ci.out];have ak:=n1 (xn:Int);obtain ⟨tt,bx⟩:∃ tt,c1.cur (xn:Int)=tt:=⟨_,rfl⟩;rw [bx] at n2 ak HS;obtain ⟨tn,cO⟩:=Int.eq_ofNat_of_zero_le (show 0≤tt by omega);subst cO;have cM:1≤tn:=(by omega);have cN:tn≤c1.all.length:=(by omega);have aU:c1.all.length≤6:=(by have:=b3.out;omega);have aV:tn < vs.length:=(by rw [C.len];omega);obtain ⟨vi,az⟩:∃ vi,vs[tn]?=some vi:=⟨_,List.getElem?_eq_getElem aV⟩;have G:=C.own tn vi az;have aT:=row_small n5 tn;obtain ⟨ti,aZ⟩:∃ ti,rowP c1 tn=ti:=⟨_,rfl⟩;rw [aZ] at G aT;obtain ⟨a7,R,rfl,_⟩:=x_a G;obtain ⟨a0,a1⟩:=C.cell az;have dw:(wr.alloc (.cells #[.string y] 9)).cell? ⟨r4,tn,none⟩=some (.slice a7 ti.length R):=(((Keep.refl (fun _=>False) wr).alloc _).cell (p:=⟨r4,tn,none⟩) C.lb.lt (fun e=>e)).trans a0;have b0:wr.cell? ⟨r,0,none⟩=some (.int .i64 (xn:Int)):=J.cell 0;have b1:wr.cell? ⟨r,1,none⟩=some (.string y):=J.cell 1;obtain ⟨xo,xf⟩:=C.open aW;rw [bx] at xo;have dc:((0:Int)≤(tn:Int))=True:=eq_true (by omega);have dd:((tn:Int) < 7)=True:=eq_true (by omega);have cy:=hD bx;have aw:Hid (∀ W,Keep (fun k=>k≠r∧k≠r5) wr W→W.cell? ⟨r,0,none⟩=some (.int .i64 (xn:Int))∧W.cell? ⟨r,1,none⟩=some (.string y)∧W.cell? ⟨r5,xn,none⟩=some (.int .i64 (tn:Int))):=hD fun W k=>⟨(J.keep k (fun e=>e.1 rfl)).cell 0,(J.keep k (fun e=>e.1 rfl)).cell 1,((C.ob.keep k (fun e=>e.2 rfl)).cell xn).trans ((curA_at _ aW).trans (by rw [cy.out]))⟩;have aG:Hid (r4≠r∧r4≠r5):=hD ⟨C.lb.ne J (by decide),C.ne⟩;have ck:Hid (∀ k,(Value.slice a7 ti.length R).ownBlock=some k→k≠r∧k≠r5):=hD (fun k e=>⟨fun q=>x_c G J (by decide) (q ▸ e),fun q=>x_c G C.ob (by decide) (q ▸ e)⟩);have cu:Hid (∀ W,Keep (fun _=>False) wr W→W.ownsRow B0 9 1 (.slice a7 ti.length R) ti.length (strCells ti)):=hD fun W k=>x_b G k n3;have bY:Hid (B0≤wr.heap.size):=hD (by have:=Z.size;have:=au.out;omega);have bD:Hid (1≤tn∧tn≤c1.all.length∧c1.all.length≤6):=hD ⟨cM,cN,aU⟩;have bl:=hD az;have cx:=hD aZ;have X:=hD C;have Y:=hD Z;have ae:=hD J;have b4:Hid ({c1 with all:=c1.all.set (tn - 1) (c1.all.getD (tn - 1) []++[y])}=lineK c1 (tn:Int) y 0 0):=hD (by rw [lineK_start,show ((tn:Int) - 1).toNat=tn - 1 by omega]);clear C Z J G az aZ bx n1 n2 n4 n5 n6 cT aV ak c8 cM cN aU;go_cut [116] from 116 to 130 (fun s116 wx=>∃ vs',PlAt B0 wx r4 r5 vs' (.slice bV c1.h.length ax) (lineK c1 (tn:Int) y 0 0)∧Keep (fun _=>False) w wx∧Blk wx r #[.int .i64 (xn:Int),.string y] 84)
            case first=>
             rename_i Jq Kq dz dA;refine wp_region_noPanic ?_;refine wp_region_held_drew (S:=fun W=>W.cell? ⟨r,0,none⟩=some (.int .i64 (xn:Int))∧W.cell? ⟨r,1,none⟩=some (.string y)∧W.cell? ⟨r5,xn,none⟩=some (.int .i64 (tn:Int))) (by kernel_rfl) (aw.out _ ((Keep.refl _ _).drew)) fun hHeld=>?_;refine wS 0 ?_;refine wS 1 ?_;refine wS 2 ?_;refine wS 3 ?_;refine wS 4 ?_;refine wS 5 ?_;refine wS 6 ?_;refine wS 7 ?_;refine wS 8 ?_;refine wS 10 ?_;refine wS 11 ?_;refine wR (rs:=[9,12]) ?_;refine AllReadyH.cons (o:=_) rfl (fun K hK=>?_) (AllReadyH.cons (o:=_) rfl (fun K hK=>?_) AllReadyH.nil)
             all_goals
              go_simp;refine hK.out _ _ ?_ fun hHeld=>?_
              ·((try dsimp only);refine aw.out _ ?_;repeat (first | exact bh.out | exact Keep.refl _ _ | apply Keep.drew | apply Keep.alloc | refine Keep.setCell ?_ _ _ (fun _=>aG.out)))
              clear hK K;(try simp only [tA])
             focus
              refine wR (rs:=[12]) ?_
             rotate_left
             focus
              refine wR (rs:=[9]) ?_
             rotate_left
             all_goals
              refine aR rfl fun K hK=>?_;go_simp;refine hK.out _ _ ?_ fun hHeld=>?_
              ·((try dsimp only);refine aw.out _ ?_;repeat (first | exact bh.out | exact Keep.refl _ _ | apply Keep.drew | apply Keep.alloc | refine Keep.setCell ?_ _ _ (fun _=>aG.out)))
              clear hK K;(try simp only [tA]);refine wB 13 fun K hK=>?_;refine x_q (base:=B0) (.tmp 125) (.tmp 128) 44 44 rfl 9 (.string ⟨#[]⟩) 1 16 underlying44 y_t rfl (v:=.slice a7 ti.length R) (n:=ti.length) (xs:=strCells ti) (cu.out _ kW) rfl (m:=1) (news:=[.string y]) (by first | exact (Rd.new wr 1 1 [.string y] 9 rfl (by simp [Value.oneCell']) (by unfold maxLen;omega)).src underlying44 | exact (Rd.new wr 1 1 [.string y] 9 rfl (by simp [Value.oneCell']) (by unfold maxLen;omega)).drew.src underlying44 | exact ((Rd.new wr 1 1 [.string y] 9 rfl (by simp [Value.oneCell']) (by unfold maxLen;omega)).keep ((Keep.refl kF _).drew) n3).src underlying44) rfl (by unfold maxLen;omega) (by omega) (Nat.le_trans bY.out (Keep.size (show Keep kF wr _ from kW))) (fun v' w7 A=>?_);obtain ⟨c6,aI,rfl,_⟩:=x_a A.own;have al:=X.out.idleApp A kW;have bA:=hD (al.lineT bl.out bD.out.1 bD.out.2.1 cx.out A);have bM:=al.lb.keep A.keep (x_c (al.own tn _ bl.out) al.lb (by decide));have y1:w7.cell? ⟨r4,tn,none⟩=some (.slice a7 ti.length R):=(bM.cell tn).trans (by simpa using bl.out);have y0:=bM.free tn;have bh:Hid (Keep (fun k=>k≠r∧k≠r5) wr w7):=hD (Keep.trans (show Keep (fun k=>k≠r∧k≠r5) wr _ from kW) A.keep (fun k _ e=>ck.out k e));have dm:Hid (Blk (w7.setCell ⟨r4,tn,none⟩ (.slice c6 (ti.length+1) aI)) r #[.int .i64 (xn:Int),.string y] 84):=hD (bA.out.2.2 _ _ (ae.out.keep (show Keep kF wr _ from kW) (fun e=>e)));have am:Hid (Keep kF w (w7.setCell ⟨r4,tn,none⟩ (.slice c6 (ti.length+1) aI))):=hD ((Y.out.trans (show Keep kF wr _ from kW) n3).trans bA.out.2.1 (fun k hk e=>by have:=au.out;omega));clear A al bM;refine hK.out _ _ ?_ fun hHeld=>?_
              ·((try dsimp only);refine aw.out _ ?_;repeat (first | exact bh.out | exact Keep.refl _ _ | apply Keep.drew | apply Keep.alloc | refine Keep.setCell ?_ _ _ (fun _=>aG.out)))
              clear hK K;(try simp only [tA]);refine wS 14 ?_;refine wA 15 fun K hK=>?_;go_simp;refine hK.out _ _ ?_ fun hHeld=>?_
              ·((try dsimp only);refine aw.out _ ?_;repeat (first | exact bh.out | exact Keep.refl _ _ | apply Keep.drew | apply Keep.alloc | refine Keep.setCell ?_ _ _ (fun _=>aG.out)))
              clear hK K;(try simp only [tA]);refine wpAnyH_done (by kernel_rfl) ?_ _;refine NoPanic.normal ?_;refine dA _ _ (Met.intro (dz _ _ ?_));exact ⟨_,_,_,_,_,_,_,_,_,_,_,_,_,_,_,⟨_,b4.out ▸ bA.out.1,am.out,dm.out⟩,rfl⟩
            case rest=>
             clear b0 b1 a0 dw a1 xo xf aw aG ck cu bY bl cx X Y ae b4 dc dd;obtain ⟨bR,aL,aP,aJ⟩:=hcut;have aB:=hD aL;have aE:=hD aP;have a8:=hD aJ;clear aL aP aJ;go_wp2_with fail
             go_loopw [131,6] (fun s131 s6 wx=>∃ k:Nat,k≤2∧s131 = .int .i64 k∧PlAt B0 wx r4 r5 bR s6 (lineK c1 (tn:Int) y k 0)∧Keep (fun _=>False) w wx∧Blk wx r #[.int .i64 (xn:Int),.string y] 84) (fun v _ _=>2 - (intOf v).toNat)
             case atStart=>exact ⟨0,by omega,rfl,aB.out,aE.out,a8.out⟩
             case round=>
              clear aB aE a8;obtain ⟨k,ad,rfl,C,Z,J⟩:=hrel;obtain ⟨c2,bp⟩:∃ c2,lineK c1 (tn:Int) y k 0=c2:=⟨_,rfl⟩;have cG:c2.h.length≤200:=(by rw [← bp];show (c1.h++opsUp (tn:Int) (itemsF y) k 0).length≤200;have:=y_y (tn:Int) (itemsF y) k 0 ad (x_w y);rw [List.length_append];omega);rw [bp] at C;obtain ⟨dB,cA,rfl,_⟩:=x_a C.h;have b1:wr.cell? ⟨r,1,none⟩=some (.string y):=J.cell 1;have X:=hD C;have Y:=hD Z;have ae:=hD J;have ca:=hD bp;clear C Z J bp;by_cases bG:k < 2
              ·have bF:((k:Int) < 2)=True:=eq_true (by omega);have dJ:decide ((k:Int) < 2)=true:=decide_eq_true (by omega);have eI:IntKind.i64.wrap ((k:Int)+1)=((k+1:Nat):Int):=(by rw [show ((k:Int)+1)=((k+1:Nat):Int) by omega];exact IntWalk.i64_in _ (by omega));have ch:=hD bG;clear bG;go_wp2_with (go_at_call 112;have hh:=items_any (HG.out.keep Y.out) HY.out ee.out;refine Calls.mono hh ?_;clear hh;rintro e w5 ⟨vt,rfl,ay,br⟩;obtain ⟨bQ,aX,rfl,_⟩:=x_a ay;have ai:=hD ay;have aC:=hD (X.out.idle br);have aF:=hD (Y.out.trans br n3);have aA:=hD (ae.out.keep br (fun e=>e));clear ay br)
               obtain ⟨O,ac⟩:∃ O,itemsF y=O:=⟨_,rfl⟩;have dH:O.length≤4:=(by rw [← ac];exact x_w y);rw [ac] at ai ⊢;have aD:=hD ac;obtain ⟨bt,c7⟩:∃ bt,wr.heap.size=bt:=⟨_,rfl⟩;rw [c7] at ai;clear ac b1 c7;go_loopw [138,6] (fun s138 s6 wx=>∃ m:Nat,m≤O.length∧s138 = .int .i64 m∧PlAt B0 wx r4 r5 bR s6 (lineK c1 (tn:Int) y k m)∧wx.ownsRow bt 3 1 (.slice bQ O.length aX) O.length (icells O)∧Keep (fun _=>False) w wx∧Blk wx r #[.int .i64 (xn:Int),.string y] 84) (fun v _ _=>O.length - (intOf v).toNat)
               case atStart=>exact ⟨0,Nat.zero_le _,rfl,by rw [ca.out];exact aC.out,ai.out,aF.out,aA.out⟩
               case round=>
                clear aC aF aA ai X Y ae;obtain ⟨m,hm,rfl,C,ay,Z,J⟩:=hrel;obtain ⟨c3,aK⟩:∃ c3,lineK c1 (tn:Int) y k m=c3:=⟨_,rfl⟩;have cH:c3.h.length≤200:=(by rw [← aK];show (c1.h++opsUp (tn:Int) (itemsF y) k m).length≤200;have:=y_y (tn:Int) (itemsF y) k m ad (x_w y);rw [List.length_append];omega);rw [aK] at C;have cC:c3.cur (xn:Int)=(tn:Int):=(by rw [← aK];exact cy.out);obtain ⟨dC,cB,rfl,_⟩:=x_a C.h;have b0:wr.cell? ⟨r,0,none⟩=some (.int .i64 (xn:Int)):=J.cell 0;obtain ⟨xo,xf⟩:=C.open aW;rw [cC] at xo;have X:=hD C;have Y:=hD Z;have ae:=hD J;have ai:=hD ay;have cb:=hD aK;have bU:=hD Z.size;clear C Z J ay aK cC;by_cases aQ:m < O.length
                ·obtain ⟨gt,ot,ct,dU,dE⟩:=rd_int (x_g ai.out (x_l _)) aQ;injection dU with q1 q2 q3;subst q1;obtain ⟨z5,bP⟩:∃ z5,O[m]?=some z5:=⟨_,List.getElem?_eq_getElem aQ⟩;have cQ:O.getD m 0=z5:=(by simp [List.getD,bP]);rw [cQ] at dE;have bC:Hid (lineK c1 (tn:Int) y k (m+1) = {c3 with h:=c3.h++[((tn:Int),(k:Int),z5)]}):=hD (by rw [v_b _ _ _ _ _ (by rw [aD.out];exact bP),cb.out]);have bI:((m:Int) < (O.length:Int))=True:=eq_true (by omega);have dM:((0:Int)≤(m:Int))=True:=eq_true (by omega);have dX:IntKind.i64.wrap ((m:Int)+1)=((m+1:Nat):Int):=(by rw [show ((m:Int)+1)=((m+1:Nat):Int) by omega];exact IntWalk.i64_in _ (by omega));have cj:=hD aQ;clear q2 q3 bP cQ aQ;go_wp2_with (at_builtin;go_loud (refine x_h (w:=wr.alloc (.cells #[.int .i64 (tn:Int),.int .i64 (k:Int),.int .i64 z5] 209)) rfl (.tmp 142) (.tmp 150) 208 208 rfl 209 (.agg #[.int .i64 0,.int .i64 0,.int .i64 0]) 3 24 underlying208 info209 rfl (X.out.h.alloc _) rfl (Src.new (P:=prog) underlying208 wr 1 [.int .i64 (tn:Int),.int .i64 (k:Int),.int .i64 z5] 209 rfl (by simp [Value.oneCell'])) rfl (by unfold maxLen;omega) (by omega) (by have:=bU.out;have:=au.out;simp;omega) ?_);intro v' wa A;go_loud (obtain ⟨hA,b7,b5⟩:=(X.out.idle ((Keep.refl kF wr).alloc _)).op (o:=((tn:Int),(k:Int),z5)) A;have HA:=hD hA;have cg:=hD ((Y.out.alloc _).trans b7 (fun k hk e=>by have:=au.out;omega));have dk:=hD (b5 _ _ (ae.out.alloc _));have dq:=hD (x_b (ai.out.alloc _) A.keep (fun b hb q=>x_f X.out.h ai.out (by decide) b q hb));clear A hA b7 b5))
                 go_roundw
                 case rel=>exact ⟨m+1,cj.out,rfl,by rw [bC.out];exact HA.out,dq.out,cg.out,dk.out⟩
                 case measure=>have:=cj.out;simp [intOf];omega
                ·have bI:((m:Int) < (O.length:Int))=False:=eq_false (by omega);have cf:Hid (c3=lineK c1 (tn:Int) y (k+1) 0):=hD (by rw [← cb.out,show m=O.length by omega];unfold lineK;rw [aD.out,v_a]);clear aQ;go_wp2_with fail
                 go_roundw
                 case rel=>exact ⟨k+1,ch.out,rfl,by rw [← cf.out];exact X.out,Y.out,ae.out⟩
                 case measure=>have:=ch.out;simp [intOf];omega
              ·have bF:((k:Int) < 2)=False:=eq_false (by omega);have dJ:decide ((k:Int) < 2)=false:=decide_eq_false (by omega);have aY:Hid (k=2):=hD (by omega);clear bG;go_wp2_with fail
               go_roundw
               case rel=>
                have e:c2=lineS c1 (tn:Int) y:=(by rw [← ca.out,aY.out,lineK_two]);have hl:(lineS c1 (tn:Int) y).all.length=c1.all.length:=List.length_set;exact ⟨j+1,bR,_,ar.out,rfl,bT.out,by rw [HS.out,hl],by rw [HS.out,← e];exact X.out,by rw [HS.out,hl];exact bD.out.2.2,av.out,Y.out⟩
               case measure=>have:=ar.out;simp [intOf];omega
   ·have dI:((j:Int) < (l.length:Int))=False:=eq_false (by omega);have HD:Hid (c=dayF l):=hD (by rw [← HC.out,List.take_of_length_le (by omega)];rfl);have bX:Hid (l.any badCall=false):=hD (by have h:=dl.out;rw [List.take_of_length_le (by omega)] at h;rw [List.any_eq_false];exact fun x hx=>by rw [h x hx];simp)
    obtain ⟨v0,v1,v2,v3,v4,v5,v6,rfl⟩:∃ v0 v1 v2 v3 v4 v5 v6,vs=[v0,v1,v2,v3,v4,v5,v6]:=by
     have h7:=M.out.len;match vs,h7 with
     | [a,b,c,d,e,f,g],_=>exact ⟨a,b,c,d,e,f,g,rfl⟩
    obtain ⟨s0,k0,rfl,_⟩:=x_a (M.out.own 0 v0 rfl);obtain ⟨s1,k1,rfl,_⟩:=x_a (M.out.own 1 v1 rfl);obtain ⟨s2,k2,rfl,_⟩:=x_a (M.out.own 2 v2 rfl);obtain ⟨s3,k3,rfl,_⟩:=x_a (M.out.own 3 v3 rfl);obtain ⟨s4,k4,rfl,_⟩:=x_a (M.out.own 4 v4 rfl);obtain ⟨s5,k5,rfl,_⟩:=x_a (M.out.own 5 v5 rfl);obtain ⟨s6,k6,rfl,_⟩:=x_a (M.out.own 6 v6 rfl);have f0:wr.cell? ⟨r4,0,none⟩=some (.slice s0 (rowP c 0).length k0):=(M.out.cell (k:=0) rfl).1;have f1:wr.cell? ⟨r4,1,none⟩=some (.slice s1 (rowP c 1).length k1):=(M.out.cell (k:=1) rfl).1;have f2:wr.cell? ⟨r4,2,none⟩=some (.slice s2 (rowP c 2).length k2):=(M.out.cell (k:=2) rfl).1;have f3:wr.cell? ⟨r4,3,none⟩=some (.slice s3 (rowP c 3).length k3):=(M.out.cell (k:=3) rfl).1;have f4:wr.cell? ⟨r4,4,none⟩=some (.slice s4 (rowP c 4).length k4):=(M.out.cell (k:=4) rfl).1;have f5:wr.cell? ⟨r4,5,none⟩=some (.slice s5 (rowP c 5).length k5):=(M.out.cell (k:=5) rfl).1;have f6:wr.cell? ⟨r4,6,none⟩=some (.slice s6 (rowP c 6).length k6):=(M.out.cell (k:=6) rfl).1;obtain ⟨vz,eo⟩:∃ vz,vz=([.slice s0 (rowP c 0).length k0,.slice s1 (rowP c 1).length k1,.slice s2 (rowP c 2).length k2,.slice s3 (rowP c 3).length k3,.slice s4 (rowP c 4).length k4,.slice s5 (rowP c 5).length k5,.slice s6 (rowP c 6).length k6]:List Value):=⟨_,rfl⟩;have dF:=M.out;rw [← eo] at dF;have eg:=hD dF;have hx:=run_index205 s0 s1 s2 s3 s4 s5 s6 (rowP c 0).length (rowP c 1).length (rowP c 2).length (rowP c 3).length (rowP c 4).length (rowP c 5).length (rowP c 6).length k0 k1 k2 k3 k4 k5 k6;have HX:=hD hx;clear dF hx eo M cX;go_wp2_with fail
    go_loopw [156] (fun s156 wx=>∃ m:Nat,m≤7∧s156 = .int .i64 (m:Int)∧(∀ k,k < m→(rowP c k).length≤6)∧PlAt B0 wx r4 r5 vz (.slice bV c.h.length ax) c∧Keep (fun _=>False) w wx) (fun v _=>7 - (intOf v).toNat)
    case atStart=>exact ⟨0,by omega,rfl,fun k hk=>by omega,eg.out,HK.out⟩
    case round=>
     clear f0 f1 f2 f3 f4 f5 f6 eg HK;obtain ⟨m,eF,rfl,b8,bW,hk⟩:=hrel;have aj:=hD b8;have M:=hD bW;have HK:=hD hk;clear b8 bW hk;have eA:m=0∨m=1∨m=2∨m=3∨m=4∨m=5∨m=6∨m=7:=(by omega);clear eF;rcases eA with rfl | rfl | rfl | rfl | rfl | rfl | rfl | rfl
     ·obtain ⟨x0,x1,x2,x3,x4,x5,x6⟩:=HX.out;by_cases h6:(rowP c 0).length≤6
      ·have d6:decide ((6:Int) < ((rowP c 0).length:Int))=false:=decide_eq_false (by omega);have H6:=hD h6;clear h6;go_wp2_with fail
       go_roundw
       case rel=>exact ⟨0+1,by omega,rfl,fun k hk=>(by
        by_cases e:k=0
        ·rw [e];exact H6.out
        ·exact aj.out k (by omega)),M.out,HK.out⟩
       case measure=>simp [intOf]
      ·have d6:decide ((6:Int) < ((rowP c 0).length:Int))=true:=decide_eq_true (by omega);have U:Hid (dayBad l=true):=hD (bad_row (k:=0) (by rw [← HD.out];omega));clear h6;go_wp2_with fail
       go_ret2;exact ⟨HK.out,.inl ⟨U.out,rfl⟩⟩
     ·obtain ⟨x0,x1,x2,x3,x4,x5,x6⟩:=HX.out;by_cases h6:(rowP c 1).length≤6
      ·have d6:decide ((6:Int) < ((rowP c 1).length:Int))=false:=decide_eq_false (by omega);have H6:=hD h6;clear h6;go_wp2_with fail
       go_roundw
       case rel=>exact ⟨1+1,by omega,rfl,fun k hk=>(by
        by_cases e:k=1
        ·rw [e];exact H6.out
        ·exact aj.out k (by omega)),M.out,HK.out⟩
       case measure=>simp [intOf]
      ·have d6:decide ((6:Int) < ((rowP c 1).length:Int))=true:=decide_eq_true (by omega);have U:Hid (dayBad l=true):=hD (bad_row (k:=1) (by rw [← HD.out];omega));clear h6;go_wp2_with fail
       go_ret2;exact ⟨HK.out,.inl ⟨U.out,rfl⟩⟩
     ·obtain ⟨x0,x1,x2,x3,x4,x5,x6⟩:=HX.out;by_cases h6:(rowP c 2).length≤6
      ·have d6:decide ((6:Int) < ((rowP c 2).length:Int))=false:=decide_eq_false (by omega);have H6:=hD h6;clear h6;go_wp2_with fail
       go_roundw
       case rel=>exact ⟨2+1,by omega,rfl,fun k hk=>(by
        by_cases e:k=2
        ·rw [e];exact H6.out
        ·exact aj.out k (by omega)),M.out,HK.out⟩
       case measure=>simp [intOf]
      ·have d6:decide ((6:Int) < ((rowP c 2).length:Int))=true:=decide_eq_true (by omega);have U:Hid (dayBad l=true):=hD (bad_row (k:=2) (by rw [← HD.out];omega));clear h6;go_wp2_with fail
       go_ret2;exact ⟨HK.out,.inl ⟨U.out,rfl⟩⟩
     ·obtain ⟨x0,x1,x2,x3,x4,x5,x6⟩:=HX.out;by_cases h6:(rowP c 3).length≤6
      ·have d6:decide ((6:Int) < ((rowP c 3).length:Int))=false:=decide_eq_false (by omega);have H6:=hD h6;clear h6;go_wp2_with fail
       go_roundw
       case rel=>exact ⟨3+1,by omega,rfl,fun k hk=>(by
        by_cases e:k=3
        ·rw [e];exact H6.out
        ·exact aj.out k (by omega)),M.out,HK.out⟩
       case measure=>simp [intOf]
      ·have d6:decide ((6:Int) < ((rowP c 3).length:Int))=true:=decide_eq_true (by omega);have U:Hid (dayBad l=true):=hD (bad_row (k:=3) (by rw [← HD.out];omega));clear h6;go_wp2_with fail
       go_ret2;exact ⟨HK.out,.inl ⟨U.out,rfl⟩⟩
     ·obtain ⟨x0,x1,x2,x3,x4,x5,x6⟩:=HX.out;by_cases h6:(rowP c 4).length≤6
      ·have d6:decide ((6:Int) < ((rowP c 4).length:Int))=false:=decide_eq_false (by omega);have H6:=hD h6;clear h6;go_wp2_with fail
       go_roundw
       case rel=>exact ⟨4+1,by omega,rfl,fun k hk=>(by
        by_cases e:k=4
        ·rw [e];exact H6.out
        ·exact aj.out k (by omega)),M.out,HK.out⟩
       case measure=>simp [intOf]
      ·have d6:decide ((6:Int) < ((rowP c 4).length:Int))=true:=decide_eq_true (by omega);have U:Hid (dayBad l=true):=hD (bad_row (k:=4) (by rw [← HD.out];omega));clear h6;go_wp2_with fail
       go_ret2;exact ⟨HK.out,.inl ⟨U.out,rfl⟩⟩
     ·obtain ⟨x0,x1,x2,x3,x4,x5,x6⟩:=HX.out;by_cases h6:(rowP c 5).length≤6
      ·have d6:decide ((6:Int) < ((rowP c 5).length:Int))=false:=decide_eq_false (by omega);have H6:=hD h6;clear h6;go_wp2_with fail
       go_roundw
       case rel=>exact ⟨5+1,by omega,rfl,fun k hk=>(by
        by_cases e:k=5
        ·rw [e];exact H6.out
        ·exact aj.out k (by omega)),M.out,HK.out⟩
       case measure=>simp [intOf]
      ·have d6:decide ((6:Int) < ((rowP c 5).length:Int))=true:=decide_eq_true (by omega);have U:Hid (dayBad l=true):=hD (bad_row (k:=5) (by rw [← HD.out];omega));clear h6;go_wp2_with fail
       go_ret2;exact ⟨HK.out,.inl ⟨U.out,rfl⟩⟩
     ·obtain ⟨x0,x1,x2,x3,x4,x5,x6⟩:=HX.out;by_cases h6:(rowP c 6).length≤6
      ·have d6:decide ((6:Int) < ((rowP c 6).length:Int))=false:=decide_eq_false (by omega);have H6:=hD h6;clear h6;go_wp2_with fail
       go_roundw
       case rel=>exact ⟨6+1,by omega,rfl,fun k hk=>(by
        by_cases e:k=6
        ·rw [e];exact H6.out
        ·exact aj.out k (by omega)),M.out,HK.out⟩
       case measure=>simp [intOf]
      ·have d6:decide ((6:Int) < ((rowP c 6).length:Int))=true:=decide_eq_true (by omega);have U:Hid (dayBad l=true):=hD (bad_row (k:=6) (by rw [← HD.out];omega));clear h6;go_wp2_with fail
       go_ret2;exact ⟨HK.out,.inl ⟨U.out,rfl⟩⟩
     ·by_cases cV:c.h.length≤40
      ·have e6:decide ((40:Int) < (c.h.length:Int))=false:=decide_eq_false (by omega);have bu:=okC_of cZ aj.out cV;rw [HD.out] at bu;have bN:=day_valid bX.out bu;have U:Hid (dayBad l=false):=hD (by unfold dayBad;rw [dp.out,bX.out,bu,bN];rfl);have aV:validL (fun _=>false) (dayF l).h=true:=(by have h:=bN;unfold validHB at h;simp only [Bool.and_eq_true] at h;exact h.2);have ek:=lockT_any (w:=wr) (v:=.slice bV c.h.length ax) (h:=c.h) (x_g M.out.h (opsC_one _)) cV (fun o ho=>validL_ok _ _ aV o (by rw [← HD.out];exact ho)) (fun g hg=>(x_d M.out.h g hg).2);have er:=hD ek;clear bu bN aV ek cV;go_wp2_with (go_at_call 113;refine Calls.mono er.out ?_;rintro e w5 ⟨dK,s',vd,va,rfl,cL,cI,dN⟩;obtain ⟨eQ,e7,rfl,_⟩:=x_a dN;have eu:=hD (M.out.idle dK);have ea:=hD (HK.out.trans dK n3);have cv:=hD cL;have cn:=hD cI;have ed:=hD dN;clear dK cL cI dN)
       obtain ⟨done,cD⟩:∃ d,s'.done=d:=⟨_,rfl⟩;have eS:done.length≤100:=(by rw [← cD];have h1:=cn.out.tot;unfold tot at h1;omega);rw [cD] at ed ⊢;have e2:Hid (∀ o∈done,o.2.1=2→1≤o.1∧o.1≤c.all.length):=hD (by rw [← cD,HD.out];exact done_txn (by rw [← HD.out];exact cv.out));have ep:=hD cD;have ev:=hD (x_g ed.out (opsC_one _));have ew:=hD (fun k=>row_small HI.out.each k);have et:=hD (fun i=>linesOf_len (all:=c.all) (m:=j) (fun t ht=>(HI.out.each t ht).1) (done.take i));clear cD;go_loopw [173,18] (fun s173 s18 wx=>∃ i:Nat,i≤done.length∧s173 = .int .i64 (i:Int)∧wx.ownsRow w5.heap.size 9 1 s18 (linesOf (done.take i) c.all).length (strCells (linesOf (done.take i) c.all))∧Keep (fun _=>False) w5 wx) (fun v _ _=>done.length - (intOf v).toNat)
       case atStart=>exact ⟨0,Nat.zero_le _,rfl,by rw [List.take_zero];exact World.ownsRow_nil _ _ _ _,Keep.refl _ _⟩
       case round=>
        obtain ⟨i,hi,rfl,db,cY⟩:=hrel;obtain ⟨L,hL⟩:∃ L,linesOf (done.take i) c.all=L:=⟨_,rfl⟩;have eR:L.length≤1200:=(by rw [← hL];have h1:=et.out i;have h2:(done.take i).length≤100:=(by rw [List.length_take];omega);have h3:(done.take i).length * j≤100 * 12:=Nat.mul_le_mul h2 (by omega);omega);rw [hL] at db;obtain ⟨eV,eN,rfl,_⟩:=x_a db;have dt:=hD db;have dn:=hD cY;have b4:=hD hL;have du:=hD (eu.out.idle cY);have ey:=hD (ev.out.keep cY n3);clear db cY hL;by_cases cW:i < done.length
        ·obtain ⟨g9,o9,c9,p9,dV,dP,q0,q1,q2⟩:=rd_op ey.out cW;injection dV with h1 h2 h3;subst h1;obtain ⟨txn,kind,bz⟩:=p9;have dI:((i:Int) < (done.length:Int))=True:=eq_true (by omega);have eC:((0:Int)≤(i:Int))=True:=eq_true (by omega);have eU:IntKind.i64.wrap ((i:Int)+1)=((i+1:Nat):Int):=(by rw [show ((i:Int)+1)=((i+1:Nat):Int) by omega];exact IntWalk.i64_in _ (by omega));have t0:wr.cell? ⟨g9,o9+i * 3,none⟩=some (.int .i64 txn):=(by rw [Nat.mul_comm i 3];exact q0);have t1:wr.cell? ⟨g9,o9+i * 3+1,none⟩=some (.int .i64 kind):=(by rw [Nat.mul_comm i 3,Nat.add_assoc];exact q1);have t2:wr.cell? ⟨g9,o9+i * 3+2,none⟩=some (.int .i64 bz):=(by rw [Nat.mul_comm i 3,Nat.add_assoc];exact q2);have cS:=hD cW;have de:=e2.out _ (List.mem_of_getElem? dP);simp only at de;have cw:Hid (linesOf (done.take (i+1)) c.all=L++(if kind=2 then c.all.getD (txn - 1).toNat [] else [])):=hD (by rw [List.take_add_one,dP];show linesOf (done.take i++[(txn,kind,bz)]) c.all=_;rw [linesOf_snoc,b4.out]);clear h2 h3 q0 q1 q2 dP cW;by_cases ad:kind=2
         ·have z2:(kind == 2)=true:=beq_iff_eq.2 ad;obtain ⟨eO,eP⟩:=de ad;obtain ⟨tn,cO⟩:=Int.eq_ofNat_of_zero_le (show 0≤txn by omega);subst cO;have dc:((0:Int)≤(tn:Int))=True:=eq_true (by omega);have dd:((tn:Int) < 7)=True:=eq_true (by omega);have aV:tn < vz.length:=(by rw [du.out.len];omega);obtain ⟨vi,az⟩:∃ vi,vz[tn]?=some vi:=⟨_,List.getElem?_eq_getElem aV⟩;have G:=du.out.own tn vi az;have aT:=ew.out tn;have bk:Hid (linesOf (done.take (i+1)) c.all=L++rowP c tn):=hD (by rw [cw.out,if_pos ad];unfold rowP;rw [if_neg (by omega),show ((tn:Int) - 1).toNat=tn - 1 by omega]);obtain ⟨ti,aZ⟩:∃ ti,rowP c tn=ti:=⟨_,rfl⟩;rw [aZ] at G aT bk;obtain ⟨a7,R,rfl,_⟩:=x_a G;obtain ⟨w9,di⟩:∃ w9,w9=wr.alloc (.cells #[.int .i64 (tn:Int),.int .i64 kind,.int .i64 bz] 209):=⟨_,rfl⟩;have cF:Keep kF wr w9:=(by rw [di];exact (Keep.refl _ _).alloc _);have cK:=du.out.idle cF;have y0:(wr.alloc (.cells #[.int .i64 (tn:Int),.int .i64 kind,.int .i64 bz] 209)).cell? ⟨r4,tn,none⟩=some (.slice a7 ti.length R):=(by rw [← di];exact (cK.cell az).1);have dv:=hD (x_g (x_b G cF n3) (x_p _));have cq:=hD (x_b dt.out cF n3);have ec:=hD (dn.out.trans cF n3);have e3:=hD di;clear ad de eO eP aV az G aZ cK cF di;go_wp2_with (at_builtin;rw [← e3.out];go_loud (refine x_h (w:=w9) rfl (.tmp 180) (.tmp 184) 44 44 rfl 9 (.string ⟨#[]⟩) 1 16 underlying44 y_t rfl cq.out rfl (dv.out.src underlying44) rfl (by unfold maxLen;omega) (by omega) ec.out.size ?_);intro v' wa A;have HA:=hD A;clear A)
          go_roundw
          case rel=>
           refine ⟨i+1,cS.out,rfl,?_,ec.out.trans HA.out.keep (fun k hk e=>by have:=(x_d cq.out k e).1;omega)⟩;rw [bk.out];have:=HA.out.own;rw [List.length_append,show strCells (L++ti)=strCells L++strCells ti by simp [strCells]];exact this
          case measure=>have:=cS.out;simp [intOf];omega
         ·have z2:(kind == 2)=false:=beq_eq_false_iff_ne.2 ad;have bk:Hid (linesOf (done.take (i+1)) c.all=L):=hD (by rw [cw.out,if_neg ad,List.append_nil]);clear ad de;go_wp2_with fail
          go_roundw
          case rel=>exact ⟨i+1,cS.out,rfl,by rw [bk.out];exact x_b dt.out ((Keep.refl kF wr).alloc _) n3,dn.out.alloc _⟩
          case measure=>have:=cS.out;simp [intOf];omega
        ·have dI:((i:Int) < (done.length:Int))=False:=eq_false (by omega);have cf:Hid (L=linesOf done c.all):=hD (by rw [← b4.out,List.take_of_length_le (by omega)]);clear cW;go_wp2_with fail
         go_ret2;refine ⟨ea.out.trans dn.out n3,.inr ⟨U.out,s',_,by rw [← HD.out];exact cv.out,cn.out,rfl,?_⟩⟩;rw [ep.out,← HD.out,← cf.out];exact x_i dt.out ea.out.size
      ·have e6:decide ((40:Int) < (c.h.length:Int))=true:=decide_eq_true (by omega);have U:Hid (dayBad l=true):=hD (bad_long (by rw [← HD.out];omega));clear cV;go_wp2_with fail
       go_ret2;exact ⟨HK.out,.inl ⟨U.out,rfl⟩⟩
theorem Dayed.det {S S1:St} {L os ds:List ByteArray} (h:Dayed S L os ds S1):∀ {S2:St} {os2 ds2:List ByteArray},Dayed S L os2 ds2 S2→os=os2∧ds=ds2∧S1=S2:=by
 induction h with
 | nil S=>intro S2 os2 ds2 h2;cases h2;exact ⟨rfl,rfl,rfl⟩
 | ok e _ ih=>
  intro S2 os2 ds2 h2;cases h2 with
  | ok e2 t=>obtain ⟨a,b,c⟩:=ih t;exact ⟨by rw [a],by rw [b],c⟩
  | bad e2 t=>exact absurd e e2
 | bad e _ ih=>
  intro S2 os2 ds2 h2;cases h2 with
  | ok e2 t=>exact absurd e2 e
  | bad e2 t=>obtain ⟨a,b,c⟩:=ih t;exact ⟨by rw [a],b,c⟩
theorem RHouseAt.app {base b:Nat} {w w':World} {H:RHV} {D:Dsk} {S:St} {ls:List ByteArray} {v v':Value} {n m:Nat} {e:TypeId} {size:Nat} {xs news:List Value} (h:RHouseAt base w H D S ls) (a:App w b e size v n xs m news v' w') (hv:∀ k,v.ownBlock=some k→¬ H.tp k∧¬ H.fp k) (hb:∀ k,v.ownBlock=some k→base≤k):RHouseAt base w' H D S ls∧∀ k,v'.ownBlock=some k→¬ H.tp k∧¬ H.fp k:=by
 refine ⟨h.keep a.keep (fun i hi e=>(hv i e).1 hi) (fun i hi e=>(hv i e).2 hi) (fun i e=>hb i e),fun k hk=>?_⟩;rcases a.fresh with f | ⟨g,f,hg⟩
 ·exact hv k (f ▸ hk)
 ·rw [f] at hk;have e:g=k:=Option.some.inj hk;exact ⟨fun t=>by have:=h.tp_lt k t;omega,fun t=>by have:=h.fp_lt k t;omega⟩
theorem RHChg.app {w1 wy wz:World} {H H2:RHV} (c:RHChg w1 H H2 wy) {v v':Value} {n m:Nat} {e:TypeId} {size:Nat} {xs news:List Value} (ho:wy.ownsRow w1.heap.size e size v n xs) {b:Nat} (a:App wy b e size v n xs m news v' wz):RHChg w1 H H2 wz:=
  ⟨c.h,c.d,c.tp,c.fp,c.keep.trans a.keep (fun k hk q=>by have:=(x_d ho k q).1;omega)⟩
structure RDayAt (base n:Nat) (w1:World) (H:RHV) (S:St) (ls L:List ByteArray) (vo:Value) (H':RHV) (S':St) (os ds:List ByteArray) (wx:World):Prop where
  dayed:Dayed S L os ds S'
  at_:RHouseAt base wx H' (gN n (ls++ds)) S' (ls++ds)
  chg:RHChg w1 H H' wx
  out:wx.ownsRow w1.heap.size 9 1 vo os.length (strCells os)
  ap:∀ k,vo.ownBlock=some k→¬ H'.tp k∧¬ H'.fp k
theorem RDayAt.start {base n:Nat} {w1:World} {H:RHV} {S:St} {ls:List ByteArray} (h:RHouseAt base w1 H (gN n ls) S ls):RDayAt base n w1 H S ls [] (.slice none 0 0) H S [] [] w1:=
  ⟨.nil _,by rw [List.append_nil];exact h,RHChg.refl _ _,World.ownsRow_nil _ _ _ _,fun k e=>by cases e⟩
theorem RDayAt.mid {base n:Nat} {w1 wx wy:World} {H H' H2:RHV} {S S':St} {ls L os ds:List ByteArray} {vo:Value} (h:RDayAt base n w1 H S ls L vo H' S' os ds wx) (c:RHChg wx H' H2 wy):wy.ownsRow w1.heap.size 9 1 vo os.length (strCells os)∧(∀ k,vo.ownBlock=some k→¬ H2.tp k∧¬ H2.fp k)∧RHChg w1 H H2 wy:=by
 refine ⟨x_b h.out c.keep (fun g hg e=>(h.ap g hg).1 e),fun k hk=>⟨fun e=>?_,fun e=>?_⟩,h.chg.trans c⟩
 ·rcases c.tp k e with q | q
  ·exact (h.ap k hk).1 q
  ·have:=(x_d h.out k hk).2;omega
 ·rcases c.fp k e with q | q
  ·exact (h.ap k hk).2 q
  ·have:=(x_d h.out k hk).2;omega
theorem RDayAt.ok {base n:Nat} {w1 wx wy wz:World} {H H' H2:RHV} {S S':St} {ls L os ds:List ByteArray} {vo v':Value} {s:ByteArray} (hb:base≤w1.heap.size) (h:RDayAt base n w1 H S ls L vo H' S' os ds wx) (he:(doF runF S' s).err=0) (c:RHChg wx H' H2 wy) (h':RHouseAt base wy H2 (gN n (ls++ds++[s])) (doF runF S' s).st (ls++ds++[s])) (a:App wy w1.heap.size 9 1 vo os.length (strCells os) 1 [.string (doF runF S' s).out] v' wz):RDayAt base n w1 H S ls (L++[s]) v' H2 (doF runF S' s).st (os++[(doF runF S' s).out]) (ds++[s]) wz:=by
 obtain ⟨h1,h2,h3⟩:=h.mid c;obtain ⟨h4,h5⟩:=h'.app a h2 (fun k e=>by have:=(x_d h1 k e).1;omega);refine ⟨h.dayed.snoc he,by rw [← List.append_assoc];exact h4,h3.app h1 a,?_,h5⟩;have:=a.own;rw [List.length_append,show strCells (os++[(doF runF S' s).out])=strCells os++[.string (doF runF S' s).out] by simp [strCells]];exact this
theorem RDayAt.bad {base n:Nat} {w1 wx wy wz:World} {H H' H2:RHV} {S S':St} {ls L os ds:List ByteArray} {vo v':Value} {s:ByteArray} (hb:base≤w1.heap.size) (h:RDayAt base n w1 H S ls L vo H' S' os ds wx) (he:(doF runF S' s).err≠0) (c:RHChg wx H' H2 wy) (h':RHouseAt base wy H2 (gN n (ls++ds)) S' (ls++ds)) (a:App wy w1.heap.size 9 1 vo os.length (strCells os) 1 [.string bang] v' wz):RDayAt base n w1 H S ls (L++[s]) v' H2 S' (os++[bang]) ds wz:=by
 obtain ⟨h1,h2,h3⟩:=h.mid c;obtain ⟨h4,h5⟩:=h'.app a h2 (fun k e=>by have:=(x_d h1 k e).1;omega);refine ⟨h.dayed.snoc_bad he,h4,h3.app h1 a,?_,h5⟩;have:=a.own;rw [List.length_append,show strCells (os++[bang])=strCells os++[.string bang] by simp [strCells]];exact this
def RDayPost (base n:Nat) (w:World) (H:RHV) (S:St) (ls:List ByteArray) (l:List CallR) (e:Ending) (w':World):Prop:=
  (dayBad l=true∧e = .returned (.tuple #[.slice none 0 0,.int .i64 2])∧Keep kF w w')∨
  (dayBad l=false∧∃ s' H' S' os ds vo,LRun 0 s0L (dayF l).h s'∧e = .returned (.tuple #[vo,.int .i64 0])∧Dayed S (linesOf s'.done (dayF l).all) os ds S'∧
    RHouseAt base w' H' (gN n (ls++ds)) S' (ls++ds)∧RHChg w H H' w'∧w'.ownsRow w.heap.size 9 1 vo os.length (strCells os)∧∀ k,vo.ownBlock=some k→¬ H'.tp k∧¬ H'.fp k)
theorem rday_any {base n:Nat} {w:World} {Q:RHV} {S:St} {g:List Int} {ls:List ByteArray} {l:List CallR} {v:Value} (hG:GW base w) (h:RHouseAt base w Q (gN n ls) S ls) (hg:g.length=8) (hrep:Rep runF (S0 g) ls S) (hls:ls.length≤1000) (hr:Rd w 2 v l.length (callsC l)) (hsz:∀ c∈l,c.2.size≤1048576) (hn:dayBad l=false→∀ s',LRun 0 s0L (dayF l).h s'→(cat ls).length+201 * ((linesOf s'.done (dayF l).all).length+1)≤n):Calls prog 41 #[.pointer (some ⟨Q.h,0,none⟩),v] w (RDayPost base n w Q S ls l):=by
 have HP:=hD (plan_any hG.glob hr hsz);obtain ⟨ao,bi,rfl,_⟩:=hr.shape;have c7:=h.blk.cell 7;simp at c7;have HH:=hD h;have aJ:Hid (∀ k,Q.tp k→base≤k∧k < w.heap.size):=hD (fun k hk=>⟨h.tp_ge k hk,h.tp_lt k hk⟩);have aP:=hD hG;have ax:=hD hrep;have aO:=hD hg;have aV:=hD hG.size;have aG:=hD hn;have ay:=hD hsz;clear h hG hrep hg hn hsz hr;cases J:dayBad l
 ·have HB:=hD J;clear J;go_enter func41,ntmps41;go_wp2_with (go_at_call 76;refine Calls.mono HP.out ?_;rintro e w1 ⟨ah,ak⟩;obtain ⟨_,s',vd,al,aB,rfl,aA⟩:=ak.resolve_left (fun q=>by rw [HB.out] at q;cases q.1);obtain ⟨aK,a7,rfl,_⟩:=x_a aA;have W:=hD ah;have Y:=hD al;have aw:=hD aA;clear ah ak al aB aA)
  have aE:=aG.out HB.out s' Y.out;have ac:∀ s∈linesOf s'.done (dayF l).all,s.size≤1048576:=fun s hs=>(by obtain ⟨t,ht,bf⟩:=linesOf_mem hs;obtain ⟨x,hx,bg⟩:=((dayF_inv l).each t ht).2 s bf;rw [← bg];exact ay.out x hx);have a8:=day_lines HB.out Y.out;obtain ⟨L,hL⟩:∃ L,linesOf s'.done (dayF l).all=L:=⟨_,rfl⟩;rw [hL] at aw aE ac a8 ⊢;have aT:=hD hL;have au:=hD ac
  have aU:Hid (∀ wx,Keep Q.tp w1 wx→Rd wx 1 (.slice aK L.length a7) L.length (strCells L)):=hD fun wx kx=>
   (x_g aw.out (x_p L)).keep kx (fun k hk e=>by have:=(x_d aw.out k hk).1;have:=(aJ.out k e).2;omega)
  have U:=hD (RDayAt.start (n:=n) (HH.out.idle W.out));have aS:Hid (Keep Q.tp w w1):=hD (W.out.mono (fun _ _ e=>e.elim));have an:Hid (base≤w1.heap.size):=hD (Nat.le_trans aV.out W.out.size);clear hL ac aG HP c7;go_loopw [27,8] (fun s27 s8 wx=>∃ (i:Nat) (H':RHV) (S':St) (os ds:List ByteArray),i≤L.length∧s27 = .int .i64 i∧RDayAt base n w1 Q S ls (L.take i) s8 H' S' os ds wx) (fun v _ _=>L.length - (intOf v).toNat)
  case atStart=>exact ⟨0,Q,S,[],[],Nat.zero_le _,rfl,U.out⟩
  case round=>
   clear U;obtain ⟨i,H',S',os,ds,hi,rfl,O⟩:=hrel;obtain ⟨bh,aW,rfl,_⟩:=x_a O.out;have aC:=aU.out wr O.chg.keep;have C:=hD O;clear O;by_cases aa:i < L.length
   ·obtain ⟨b,o,aX,ae⟩:∃ b o,aK=some ⟨b,o,none⟩∧wr.cell? ⟨b,o+i,none⟩=some (.string (L.getD i ByteArray.empty)):=by
     rcases aC.2.2 with ⟨h,h'⟩ | ⟨b,o,c,h,_,_,hx⟩
     ·omega
     ·injection h with h1 h2 h3;exact ⟨b,o,h1,hx _ _ (y_c L i aa)⟩
    subst aX;obtain ⟨s,hs⟩:∃ s,L.getD i ByteArray.empty=s:=⟨_,rfl⟩;have aM:s∈L:=(by rw [← hs];simp [List.getD,List.getElem?_eq_getElem aa]);have aI:Hid (L.take (i+1)=L.take i++[s]):=hD (by rw [List.take_add_one,List.getElem?_eq_getElem aa,← hs];simp [List.getD,List.getElem?_eq_getElem aa]);rw [hs] at ae;have a6:=hD (au.out s aM);have aZ:((i:Int) < (L.length:Int))=True:=eq_true (by omega);have bj:(0:Int)≤(i:Int):=(by omega);have bk:IntKind.i64.wrap ((i:Int)+1)=((i+1:Nat):Int):=(by rw [show ((i:Int)+1)=((i+1:Nat):Int) by omega];exact IntWalk.i64_in _ (by omega));have aD:=C.out.dayed.sub;have aL:(L.take i).length=i:=(by rw [List.length_take];omega);have ba:os.length≤1000:=(by rw [aD.2.1,aL];omega);have aY:ds.length≤i:=(by have:=aD.2.2;rw [aL] at this;exact this);have Z:(cat (ls++ds)).length+201≤n:=(by have:=y_r C.out.dayed.rep;rw [cat_append,List.length_append];omega);have aj:(ls++ds).length≤1000000:=(by rw [List.length_append];omega);have aQ:Hid (Inv (ls++ds).length S'):=hD (rep_inv aO.out (ax.out.append C.out.dayed.rep));have A:=v_e (S:=S') Z s;have aH:=hD (rhdo_any (aP.out.keep (aS.out.trans C.out.chg.keep n3) (fun q hq e=>by have:=aJ.out q e;omega)).glob (Nat.le_trans an.out C.out.chg.keep.size) C.out.at_ aQ.out aj a6.out aj Z);have aF:=hD C.out.chg.h;obtain ⟨R,hR⟩:∃ R,doF runF S' s=R:=⟨_,rfl⟩;rw [hR] at A;have ad:=hD hR;obtain ⟨re,rs,ro⟩:=R;have am:=hD aa;clear aa hs aM aC aD hR Z;by_cases he:re=0
    ·subst he;rw [if_pos rfl] at A;have az:=hD A;clear A
     go_wp2_with (first
       | (go_at_call 40;have hh:=aH.out;rw [az.out,aF.out] at hh;refine Calls.mono hh ?_;clear hh;rintro e w5 ⟨H2,rfl,ag,M⟩;have ar:=hD ag;have aq:=hD M;have X:=hD (C.out.mid M);have a1:=hD (Nat.le_trans C.out.chg.keep.size M.keep.size);clear ag M)
       | (at_builtin;refine x_h (w:=w5.alloc (.cells #[.string ro] 9)) rfl (.tmp 42) (.tmp 44) 44 44 rfl 9 (.string ⟨#[]⟩) 1 16 underlying44 y_t rfl (X.out.1.alloc _) rfl (Src.new (P:=prog) underlying44 w5 1 [.string ro] 9 rfl (by simp [Value.oneCell'])) rfl (by unfold maxLen;omega) (by omega) (Nat.le_trans a1.out (by simp)) ?_;intro v' wa G;have HA:=hD G;clear G))
     go_roundw
     case rel=>
      have hz:(doF runF S' s).err=0:=(by rw [ad.out]);have ai:Keep kF w5 (w5.alloc (.cells #[.string ro] 9)):=(Keep.refl _ _).alloc _;have hd:=C.out.ok (s:=s) an.out hz (aq.out.trans (RHChg.idle H2 ai)) (by rw [ad.out];exact ar.out.idle ai) (by rw [ad.out];exact HA.out);rw [ad.out] at hd;exact ⟨i+1,H2,rs,os++[ro],ds++[s],am.out,by go_num,by rw [aI.out];exact hd⟩
     case measure=>have:=am.out;simp [intOf];omega
    ·rw [if_neg he] at A;have az:=hD A;have z0:(re != 0)=true:=(by simp [he]);have av:Hid ((doF runF S' s).err≠0):=hD (by rw [ad.out];exact he);clear A he
     go_wp2_with (first
       | (go_at_call 40;have hh:=aH.out;rw [az.out,aF.out] at hh;refine Calls.mono hh ?_;clear hh;rintro e w5 ⟨H2,rfl,ag,M⟩;have ar:=hD ag;have aq:=hD M;have X:=hD (C.out.mid M);have a1:=hD (Nat.le_trans C.out.chg.keep.size M.keep.size);clear ag M)
       | (at_builtin;refine x_h (w:=w5.alloc (.cells #[.string ⟨#[33]⟩] 9)) rfl (.tmp 42) (.tmp 44) 44 44 rfl 9 (.string ⟨#[]⟩) 1 16 underlying44 y_t rfl (X.out.1.alloc _) rfl (Src.new (P:=prog) underlying44 w5 1 [.string ⟨#[33]⟩] 9 rfl (by simp [Value.oneCell'])) rfl (by unfold maxLen;omega) (by omega) (Nat.le_trans a1.out (by simp)) ?_;intro v' wa G;have HA:=hD G;clear G))
     go_roundw
     case rel=>
      have ai:Keep kF w5 (w5.alloc (.cells #[.string ⟨#[33]⟩] 9)):=(Keep.refl _ _).alloc _;exact ⟨i+1,H2,S',os++[bang],ds,am.out,by go_num,by rw [aI.out];exact C.out.bad an.out av.out (aq.out.trans (RHChg.idle H2 ai)) (ar.out.idle ai) HA.out⟩
     case measure=>have:=am.out;simp [intOf];omega
   ·have aZ:((i:Int) < (L.length:Int))=False:=eq_false (by omega);have aN:Hid (L.take i=L):=hD (List.take_of_length_le (by omega));clear aa aC;go_wp2_with fail
    go_ret2;have hd:=C.out;rw [aN.out] at hd;exact .inr ⟨HB.out,s',H',S',os,ds,_,Y.out,rfl,by rw [aT.out];exact hd.dayed,hd.at_,(RHChg.idle Q W.out).trans hd.chg,x_i hd.out W.out.size,hd.ap⟩
 ·have HB:=hD J;clear J;go_enter func41,ntmps41;go_wp2_with (go_at_call 76;refine Calls.mono HP.out ?_;rintro e w1 ⟨ah,ak⟩;obtain ⟨_,rfl⟩:=ak.resolve_right (fun q=>by rw [HB.out] at q;cases q.1);have W:=hD ah;clear ah ak)
  go_ret2;exact .inl ⟨HB.out,rfl,W.out⟩
end Go.Proofs.YthdkamnclbfehaaGreatDoor
