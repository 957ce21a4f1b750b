/- A part of the proof. -/
import Derived.Test.YthdkamnclbfehaaGreatDoorDaysM18
import Derived.Test.YthdkamnclbfehaaGreatDoorDaysM31
set_option linter.all false
set_option maxHeartbeats 20000000
set_option maxRecDepth 100000
namespace Go.Proofs.YthdkamnclbfehaaGreatDoor
open Go.RowKit
def endB:ByteArray:=bs [101,110,100]
structure CS where
  cur:Int→Int
  over:Int→Int
  all:List (List ByteArray)
  h:List LOp
def upI (f:Int→Int) (k v:Int):Int→Int:=fun y=>if y=k then v else f y
def itemsF (s:ByteArray):List Int:=match formF s with | none=>[] | some (_,_,a)=>touchB s a
def newS (c:CS) (k:Int):CS:=if c.cur k=0 then {c with all:=c.all++[[]],cur:=upI c.cur k ((c.all.length:Int)+1)} else c
def lineS (c:CS) (t:Int) (s:ByteArray):CS:=
  {c with all:=c.all.set (t - 1).toNat (c.all.getD (t - 1).toNat []++[s]),h:=c.h++(itemsF s).map (fun i=>(t,0,i))++(itemsF s).map (fun i=>(t,1,i))}
def endCS (c:CS) (k t:Int):CS:={c with h:=c.h++[(t,2,0)],over:=upI c.over k (c.over k+1),cur:=upI c.cur k 0}
def colS (ends:Int→Int) (c:CS) (x:CallR):CS:=
  if c.over x.1=ends x.1 then c
  else if c.cur x.1=0∧x.2=endB then {c with over:=upI c.over x.1 (c.over x.1+1)}
  else if x.2=endB then endCS c x.1 (c.cur x.1)
  else lineS (newS c x.1) ((newS c x.1).cur x.1) x.2
def endsS (f:Int→Int) (x:CallR):Int→Int:=if x.2=endB then upI f x.1 (f x.1+1) else f
def endsF (l:List CallR):Int→Int:=l.foldl endsS (fun _=>0)
def c00:CS:=⟨fun _=>0,fun _=>0,[],[]⟩
def dayF (l:List CallR):CS:=l.foldl (colS (endsF l)) c00
theorem touchB_len {s:ByteArray} {so:List UInt8} {f:Nat} {a:FA} (h:formF s=some (so,f,a)):(touchB s a).length≤4:=by
 obtain ⟨_,h3,_,_⟩:=form_n h;unfold touchB;refine Nat.le_trans (compact_len _) ?_;rw [z_n];unfold touchL;split
 ·simp
 ·split
  ·simp;omega
  ·split
   ·simp;omega
   ·simp;omega
theorem x_w (s:ByteArray):(itemsF s).length≤4:=by
 unfold itemsF;split
 ·simp
 ·rename_i so f a e;exact touchB_len e
structure CInv (l:List CallR) (c:CS) (j:Nat):Prop where
  cur:∀ k,0≤c.cur k∧c.cur k≤c.all.length
  over:∀ k,0≤c.over k∧c.over k≤j
  len:c.all.length≤j
  each:∀ t∈c.all,t.length≤j∧∀ s∈t,∃ x∈l,x.2=s
  h:c.h.length≤8 * j
  txn:∀ o∈c.h,1≤o.1∧o.1≤c.all.length
theorem cinv_start (l:List CallR):CInv l c00 0:=
  ⟨fun k=>⟨Int.le_refl _,by simp [c00]⟩,fun k=>⟨Int.le_refl _,by simp [c00]⟩,Nat.le_refl _,fun t h=>(by cases h),Nat.le_refl _,fun o h=>(by cases h)⟩
theorem CInv.next {l:List CallR} {c:CS} {j:Nat} (h:CInv l c j):CInv l c (j+1):=
  ⟨h.cur,fun k=>⟨(h.over k).1,by have:=(h.over k).2;omega⟩,by have:=h.len;omega,fun t ht=>⟨by have:=(h.each t ht).1;omega,(h.each t ht).2⟩,by have:=h.h;omega,h.txn⟩
theorem CInv.new {l:List CallR} {c:CS} {j:Nat} (h:CInv l c j) (k:Int):(∀ i,0≤(newS c k).cur i∧(newS c k).cur i≤(newS c k).all.length)∧1≤(newS c k).cur k∧(newS c k).over=c.over∧(newS c k).all.length≤j+1∧(∀ t∈(newS c k).all,t.length≤j∧∀ s∈t,∃ x∈l,x.2=s)∧(newS c k).h=c.h∧c.all.length≤(newS c k).all.length:=by
 unfold newS;by_cases e:c.cur k=0
 ·rw [if_pos e];refine ⟨fun i=>?_,?_,rfl,by have:=h.len;simp;omega,fun t ht=>?_,rfl,by simp⟩
  ·have:=h.cur i;dsimp only [upI];rw [List.length_append];split <;> simp <;> omega
  ·dsimp only [upI];rw [if_pos rfl];omega
  ·rcases List.mem_append.1 ht with q | q
   ·exact h.each t q
   ·simp at q;rw [q];exact ⟨Nat.zero_le _,fun s hs=>by cases hs⟩
 ·rw [if_neg e];exact ⟨h.cur,by have:=h.cur k;omega,rfl,by have:=h.len;omega,h.each,rfl,Nat.le_refl _⟩
theorem CInv.step {l:List CallR} {c:CS} {j:Nat} (h:CInv l c j) (ends:Int→Int) {x:CallR} (hx:x∈l):CInv l (colS ends c x) (j+1):=by
 unfold colS;split
 ·exact h.next
 ·split
  ·refine ⟨h.cur,fun k=>?_,by have:=h.len;show c.all.length≤_;omega,fun t ht=>⟨by have:=(h.each t ht).1;omega,(h.each t ht).2⟩,by have:=h.h;show c.h.length≤_;omega,h.txn⟩;dsimp only [upI];have:=h.over k;have:=h.over x.1;split <;> omega
  ·rename_i A;split
   ·rename_i he;have hc:=h.cur x.1;have h0:c.cur x.1≠0:=fun e=>A ⟨e,he⟩;unfold endCS;refine ⟨fun k=>?_,fun k=>?_,by have:=h.len;show c.all.length≤_;omega,fun t ht=>⟨by have:=(h.each t ht).1;omega,(h.each t ht).2⟩,?_,fun o ho=>?_⟩
    ·dsimp only [upI];have:=h.cur k;split <;> omega
    ·dsimp only [upI];have:=h.over k;have:=h.over x.1;split <;> omega
    ·have:=h.h;show (c.h++_).length≤_;rw [List.length_append];simp;omega
    ·rcases List.mem_append.1 ho with q | q
     ·exact h.txn o q
     ·simp at q;rw [q];show 1≤c.cur x.1∧c.cur x.1≤_;dsimp only;omega
   ·obtain ⟨n1,n2,n3,n4,n5,n6,n7⟩:=h.new x.1;have C:=x_w x.2;unfold lineS;refine ⟨fun k=>?_,fun k=>?_,?_,fun t ht=>?_,?_,fun o ho=>?_⟩
    ·dsimp only;rw [List.length_set];exact n1 k
    ·dsimp only;rw [n3];have:=h.over k;omega
    ·dsimp only;rw [List.length_set];exact n4
    ·rcases List.mem_or_eq_of_mem_set ht with q | q
     ·exact ⟨by have:=(n5 t q).1;omega,(n5 t q).2⟩
     ·rw [q]
      have hd:∀ (a:List (List ByteArray)) i,a.getD i []=[]∨a.getD i []∈a:=fun a i=>by
       by_cases e:i < a.length
       ·right;simp [List.getD,List.getElem?_eq_getElem e]
       ·left;simp [List.getD,List.getElem?_eq_none (Nat.le_of_not_lt e)]
      rcases hd (newS c x.1).all ((newS c x.1).cur x.1 - 1).toNat with e | e
      ·rw [e];exact ⟨by simp,fun s hs=>by simp at hs;exact ⟨x,hx,hs.symm⟩⟩
      ·refine ⟨by have:=(n5 _ e).1;rw [List.length_append,List.length_singleton];omega,fun s hs=>?_⟩;rcases List.mem_append.1 hs with q2 | q2
       ·exact (n5 _ e).2 s q2
       ·simp at q2;exact ⟨x,hx,q2.symm⟩
    ·have:=h.h;dsimp only;rw [n6,List.length_append,List.length_append,List.length_map,List.length_map];omega
    ·have hc:=n1 x.1;dsimp only at ho ⊢;rw [List.length_set];rw [n6] at ho;rcases List.mem_append.1 ho with q | q
     ·rcases List.mem_append.1 q with q | q
      ·have:=h.txn o q;omega
      ·obtain ⟨i,_,rfl⟩:=List.mem_map.1 q;exact ⟨n2,hc.2⟩
     ·obtain ⟨i,_,rfl⟩:=List.mem_map.1 q;exact ⟨n2,hc.2⟩
theorem cinv_fold (l:List CallR) (ends:Int→Int):∀ (p:List CallR) (c:CS) (j:Nat),(∀ x∈p,x∈l)→CInv l c j→CInv l (p.foldl (colS ends) c) (j+p.length)
  | [],c,j,_,h=>h
  | x::p,c,j,hp,h=>by
    have:=cinv_fold l ends p _ (j+1) (fun y hy=>hp y (List.mem_cons_of_mem _ hy)) (h.step ends (hp x List.mem_cons_self))
    rw [List.foldl_cons,List.length_cons,show j+(p.length+1)=j+1+p.length by omega]
    exact this
theorem dayF_inv (l:List CallR):CInv l (dayF l) l.length:=by
 have:=cinv_fold l (endsF l) l c00 0 (fun _ h=>h) (cinv_start l);rw [Nat.zero_add] at this;exact this
theorem take_inv (l:List CallR) (j:Nat) (hj:j≤l.length):CInv l ((l.take j).foldl (colS (endsF l)) c00) j:=by
 have:=cinv_fold l (endsF l) (l.take j) c00 0 (fun _ h=>List.mem_of_mem_take h) (cinv_start l);rw [Nat.zero_add,List.length_take,Nat.min_eq_left hj] at this;exact this
theorem ends_take (l:List CallR) (j:Nat):∀ k,0≤(l.take j).foldl endsS (fun _=>0) k∧(l.take j).foldl endsS (fun _=>0) k≤j:=by
 have h:∀ (p:List CallR) (f:Int→Int) (n:Nat),(∀ k,0≤f k∧f k≤n)→∀ k,0≤p.foldl endsS f k∧p.foldl endsS f k≤(n+p.length:Nat):=by
  intro p;induction p with
  | nil=>intro f n h;exact h
  | cons x p ih=>
   intro f n h k
   have:=ih (endsS f x) (n+1) (fun i=>by
    unfold endsS upI;have:=h i;have:=h x.1;split
    ·dsimp only;split <;> omega
    ·omega) k
   rw [List.foldl_cons,List.length_cons];omega
 intro k;have:=h (l.take j) (fun _=>0) 0 (fun _=>⟨Int.le_refl _,Int.le_refl _⟩) k;rw [List.length_take] at this;omega
theorem fold_snoc {α β:Type} (f:β→α→β) (b:β) (l:List α) {j:Nat} {x:α} (h:l[j]?=some x):(l.take (j+1)).foldl f b=f ((l.take j).foldl f b) x:=by
 rw [List.take_add_one,h,List.foldl_append];rfl
end Go.Proofs.YthdkamnclbfehaaGreatDoor
namespace Go.Proofs.YthdkamnclbfehaaGreatDoor
open Go.RowKit Tryz
theorem zero3 (W:World):(zeroValue 3).run prog W = .ok (.int .i64 0) W:=by kernel_rfl
def Cnt (w:World) (b n:Nat) (f:Int→Int):Prop:=∃ g,MapAt w b n g∧∀ x,(kI x).wf=true→(g x).getD (.int .i64 0) = .int .i64 (f x)
theorem Cnt.made (w:World):Cnt (w.alloc (.map #[] 0)) w.heap.size 0 (fun _=>0):=⟨_,MapAt.made w,fun _ _=>rfl⟩
theorem Cnt.lt {w:World} {b n:Nat} {f:Int→Int} (h:Cnt w b n f):b < w.heap.size:=by obtain ⟨g,h,_⟩:=h;exact h.lt
theorem Cnt.mono {w:World} {b n m:Nat} {f:Int→Int} (h:Cnt w b n f) (hn:n≤m):Cnt w b m f:=by obtain ⟨g,h,e⟩:=h;exact ⟨g,h.mono hn,e⟩
theorem Cnt.keep {S:Nat→Prop} {w w':World} {b n:Nat} {f:Int→Int} (h:Cnt w b n f) (k:Keep S w w') (hS:¬ S b):Cnt w' b n f:=by obtain ⟨g,h,e⟩:=h;exact ⟨g,h.keep k hS,e⟩
theorem Cnt.look {w:World} {b n:Nat} {f:Int→Int} (h:Cnt w b n f) {t:TypeId} (ht:prog.underlying t=some (.map 3 3)) {x:Int} (hx:(kI x).wf=true):(Instr.lookup t (.map (some b)) (.int .i64 x) false).run prog w = .ok (.int .i64 (f x)) w:=by
 obtain ⟨g,h,e⟩:=h;rw [h.look ht zero3 hx,e x hx]
theorem Cnt.store {w:World} {b n:Nat} {f:Int→Int} (h:Cnt w b n f) {t:TypeId} (ht:prog.underlying t=some (.map 3 3)) (hn:n < maxLen) {x:Int} (hx:(kI x).wf=true) (y:Int):∃ w',(Instr.mapUpdate t (.map (some b)) (.int .i64 x) (.int .i64 y)).run prog w = .ok () w'∧Cnt w' b (n+1) (upI f x y)∧Keep (fun k=>k=b) w w'∧w'.heap.size=w.heap.size:=by
 obtain ⟨g,h,e⟩:=h;obtain ⟨w',hr,hm,hk,hs⟩:=h.store ht hn hx (.int .i64 y);refine ⟨w',hr,⟨_,hm,fun z hz=>?_⟩,hk,hs⟩;show (if z=x then some (Value.int .i64 y) else g z).getD (.int .i64 0) = .int .i64 (if z=x then y else f z);by_cases q:z=x
 ·rw [if_pos q,if_pos q];rfl
 ·rw [if_neg q,if_neg q];exact e z hz
theorem Cnt.row {w:World} {b n:Nat} {f:Int→Int} (h:Cnt w b n f) {base:Nat} {e:TypeId} {size m:Nat} {v:Value} {xs:List Value} (ho:w.ownsRow base e size v m xs):v.ownBlock≠some b:=fun q=>by
  obtain ⟨cur,fz,hc⟩:=x_j ho q
  obtain ⟨g,hm,_⟩:=h
  exact hm.ne_cells hc rfl
theorem Cnt.keepRow {w w':World} {b n:Nat} {f:Int→Int} (h:Cnt w b n f) {base:Nat} {e:TypeId} {size m:Nat} {v:Value} {xs:List Value} (ho:w.ownsRow base e size v m xs) (k:Keep (fun k=>v.ownBlock=some k) w w'):Cnt w' b n f:=
  h.keep k (h.row ho)
theorem Cnt.blk {w:World} {b n r:Nat} {f:Int→Int} (h:Cnt w b n f) {cs:Array Value} {t:TypeId} (hb:Blk w r cs t):r≠b:=fun q=>by
  obtain ⟨g,hm,_⟩:=h
  exact hm.ne_cells hb q.symm
def KB (w w':World):Prop:=∀ r cs,Blk w r cs 129→Blk w' r cs 129
theorem KB.trans {a b c:World} (h:KB a b) (k:KB b c):KB a c:=fun r cs q=>k r cs (h r cs q)
theorem KB.idle {a b:World} (k:Keep kF a b):KB a b:=fun r cs q=>q.keep k (fun e=>e)
structure TxAt (base:Nat) (w:World) (va:Value) (vs:List Value) (all:List (List ByteArray)):Prop where
  len:vs.length=all.length
  row:w.ownsRow base 148 1 va all.length vs
  own:∀ (i:Nat) v t,vs[i]?=some v→all[i]?=some t→w.ownsRow base 9 1 v t.length (strCells t)
  apart:∀ (i j:Nat) v u g,vs[i]?=some v→vs[j]?=some u→v.ownBlock=some g→u.ownBlock=some g→i=j
theorem TxAt.start (base:Nat) (w:World):TxAt base w (.slice none 0 0) [] []:=
  ⟨rfl,World.ownsRow_nil _ _ _ _,fun i v t h=>by simp at h,fun i j v u g h=>by simp at h⟩
theorem TxAt.get {base:Nat} {w:World} {va:Value} {vs:List Value} {all:List (List ByteArray)} (h:TxAt base w va vs all) {i:Nat} {v:Value} (hv:vs[i]?=some v):∃ t,all[i]?=some t∧w.ownsRow base 9 1 v t.length (strCells t):=by
 have hi:i < vs.length:=(List.getElem?_eq_some_iff.1 hv).1;have A:i < all.length:=(by rw [← h.len];exact hi);have ht:all[i]?=some all[i]:=List.getElem?_eq_getElem A;exact ⟨_,ht,h.own i v _ hv ht⟩
theorem TxAt.keep {S:Nat→Prop} {base:Nat} {w w':World} {va:Value} {vs:List Value} {all:List (List ByteArray)} (h:TxAt base w va vs all) (k:Keep S w w') (ha:∀ g,va.ownBlock=some g→¬ S g) (hs:∀ (i:Nat) v g,vs[i]?=some v→v.ownBlock=some g→¬ S g):TxAt base w' va vs all:=
  ⟨h.len,x_b h.row k ha,fun i v t hv ht=>x_b (h.own i v t hv ht) k (fun g hg=>hs i v g hv hg),h.apart⟩
theorem TxAt.keepRow {base:Nat} {w w':World} {va:Value} {vs:List Value} {all:List (List ByteArray)} (h:TxAt base w va vs all) {b:Nat} {e:TypeId} {size m:Nat} {v:Value} {xs:List Value} (ho:w.ownsRow b e size v m xs) (e1:e≠148) (e2:e≠9) (k:Keep (fun k=>v.ownBlock=some k) w w'):TxAt base w' va vs all:=
  h.keep k (fun g hg q=>x_f ho h.row e1 g q hg) (fun i u g hv hg q=>by obtain ⟨t,_,ht⟩:=h.get hv;exact x_f ho ht e2 g q hg)
theorem TxAt.keepMap {base b n:Nat} {f:Int→Int} {w w':World} {va:Value} {vs:List Value} {all:List (List ByteArray)} (h:TxAt base w va vs all) (hm:Cnt w b n f) (k:Keep (fun k=>k=b) w w'):TxAt base w' va vs all:=
  h.keep k (fun g hg q=>hm.row h.row (q ▸ hg)) (fun i u g hv hg q=>by obtain ⟨t,_,ht⟩:=h.get hv;exact hm.row ht (q ▸ hg))
theorem TxAt.one {base:Nat} {w:World} {va:Value} {vs:List Value} {all:List (List ByteArray)} (h:TxAt base w va vs all):∀ u∈vs,u.oneCell'=true:=fun u hu=>by
  obtain ⟨i,hi⟩:=List.mem_iff_getElem?.1 hu
  obtain ⟨t,_,ht⟩:=h.get hi
  obtain ⟨ao,cap,rfl,_⟩:=x_a ht
  rfl
theorem TxAt.new {base:Nat} {w w':World} {va v':Value} {vs:List Value} {all:List (List ByteArray)} (h:TxAt base w va vs all) (a:App w base 148 1 va all.length vs 1 [.slice none 0 0] v' w'):TxAt base w' v' (vs++[.slice none 0 0]) (all++[[]]):=by
 have A:∀ (i:Nat) v,(vs++[Value.slice none 0 0])[i]?=some v→(vs[i]?=some v∧i < vs.length)∨(i=vs.length∧v = .slice none 0 0):=fun i v hv=>by
  by_cases hi:i < vs.length
  ·rw [List.getElem?_append_left hi] at hv;exact .inl ⟨hv,hi⟩
  ·rw [List.getElem?_append_right (by omega)] at hv
   have:i - vs.length=0:=by
    rcases Nat.eq_zero_or_pos (i - vs.length) with e | e
    ·exact e
    ·rw [List.getElem?_eq_none (by simp;omega)] at hv;cases hv
   rw [this] at hv;exact .inr ⟨by omega,(Option.some.inj hv).symm⟩
 refine ⟨by simp [h.len],by rw [List.length_append];exact a.own,fun i v t hv ht=>?_,fun i j v u g hi hj hg hu=>?_⟩
 ·rcases A i v hv with ⟨q,hl⟩ | ⟨rfl,rfl⟩
  ·rw [List.getElem?_append_left (h.len ▸ hl)] at ht;exact x_b (h.own i v t q ht) a.keep (fun b hb e=>x_f h.row (h.own i v t q ht) (by decide) b e hb)
  ·rw [h.len,List.getElem?_append_right (Nat.le_refl _),Nat.sub_self] at ht;cases ht;exact World.ownsRow_nil _ _ _ _
 ·rcases A i v hi with ⟨q,_⟩ | ⟨_,rfl⟩
  ·rcases A j u hj with ⟨q',_⟩ | ⟨_,rfl⟩
   ·exact h.apart i j v u g q q' hg hu
   ·cases hu
  ·cases hg
theorem TxAt.line {base:Nat} {w w1:World} {g cap i:Nat} {v v':Value} {vs:List Value} {all:List (List ByteArray)} {t:List ByteArray} {s:ByteArray} (h:TxAt base w (.slice (some ⟨g,0,none⟩) all.length cap) vs all) (hv:vs[i]?=some v) (ht:all[i]?=some t) (a:App w base 9 1 v t.length (strCells t) 1 [.string s] v' w1):TxAt base (w1.setCell ⟨g,i,none⟩ v') (.slice (some ⟨g,0,none⟩) all.length cap) (vs.set i v') (all.set i (t++[s])):=by
 have hi:i < vs.length:=(List.getElem?_eq_some_iff.1 hv).1;have G:w1.ownsRow base 9 1 v' (t++[s]).length (strCells (t++[s])):=(by have:=a.own;rw [List.length_append,show strCells (t++[s])=strCells t++[.string s] by simp [strCells]];exact this);have R:=h.own i v t hv ht;have A:=x_b h.row a.keep (fun b hb q=>x_f R h.row (by decide) b q hb);have U:=(x_d h.row g rfl).2;have M:∀ b,v'.ownBlock=some b→b≠g:=fun b hb e=>x_f G A (by decide) b hb (e ▸ rfl);refine ⟨by simp [h.len],by rw [List.length_set];exact ownsRow_set A i hi v',fun j u x hu hx=>?_,fun j k u z b hu hz hub hzb=>?_⟩
 ·by_cases e:j=i
  ·subst e;rw [List.getElem?_set_self hi] at hu;rw [List.getElem?_set_self (h.len ▸ hi)] at hx;cases hu;cases hx;exact x_e G _ _ (fun q=>M _ q rfl)
  ·rw [List.getElem?_set_ne (Ne.symm e)] at hu hx;have hj:=h.own j u x hu hx;have J:=x_b hj a.keep (fun b hb q=>e (h.apart j i u v b hu hv hb q));exact x_e J _ _ (fun q=>x_f J A (by decide) _ q rfl)
 ·have C:∀ (m:Nat) y c,m≠i→vs[m]?=some y→y.ownBlock=some c→v'.ownBlock≠some c:=fun m y c hm hy hc q=>by
   obtain ⟨tm,_,O⟩:=h.get hy;rcases a.fresh with f | ⟨g2,f,hf⟩
   ·exact hm (h.apart m i y v c hy hv hc (f ▸ q))
   ·have:=(x_d O c hc).2;rw [f] at q;have:g2=c:=Option.some.inj q;omega
  by_cases e1:j=i
  ·by_cases e2:k=i
   ·rw [e1,e2]
   ·rw [List.getElem?_set_ne (Ne.symm e2)] at hz;subst e1;rw [List.getElem?_set_self hi] at hu;cases hu;exact absurd hub (C k z b e2 hz hzb)
  ·rw [List.getElem?_set_ne (Ne.symm e1)] at hu;by_cases e2:k=i
   ·subst e2;rw [List.getElem?_set_self hi] at hz;cases hz;exact absurd hzb (C j u b e1 hu hub)
   ·rw [List.getElem?_set_ne (Ne.symm e2)] at hz;exact h.apart j k u z b hu hz hub hzb
structure ColAt (base:Nat) (w:World) (be bc bo:Nat) (ends:Int→Int) (va:Value) (vs:List Value) (vh:Value) (cs:CS) (n:Nat):Prop where
  e:Cnt w be n ends
  c:Cnt w bc n cs.cur
  o:Cnt w bo n cs.over
  ne:be≠bc∧be≠bo∧bc≠bo
  ge:base≤be∧base≤bc∧base≤bo
  tx:TxAt base w va vs cs.all
  h:w.ownsRow base 146 3 vh cs.h.length (opsC cs.h)
theorem ColAt.mono {base be bc bo n m:Nat} {w:World} {ends:Int→Int} {va vh:Value} {vs:List Value} {c:CS} (h:ColAt base w be bc bo ends va vs vh c n) (hn:n≤m):ColAt base w be bc bo ends va vs vh c m:=
  ⟨h.e.mono hn,h.c.mono hn,h.o.mono hn,h.ne,h.ge,h.tx,h.h⟩
theorem ColAt.idle {base be bc bo n:Nat} {w w':World} {ends:Int→Int} {va vh:Value} {vs:List Value} {c:CS} (h:ColAt base w be bc bo ends va vs vh c n) (k:Keep kF w w'):ColAt base w' be bc bo ends va vs vh c n:=
  ⟨h.e.keep k (fun e=>e),h.c.keep k (fun e=>e),h.o.keep k (fun e=>e),h.ne,h.ge,h.tx.keep k n3 (fun _ _ _ _ _ e=>e),x_b h.h k n3⟩
theorem ColAt.over {base be bc bo n:Nat} {w:World} {ends:Int→Int} {va vh:Value} {vs:List Value} {c:CS} (h:ColAt base w be bc bo ends va vs vh c n) {t:TypeId} (ht:prog.underlying t=some (.map 3 3)) (hn:n≤1000000) {k:Int} (hk:(kI k).wf=true) (y:Int):∃ w',(Instr.mapUpdate t (.map (some bo)) (.int .i64 k) (.int .i64 y)).run prog w = .ok () w'∧ColAt base w' be bc bo ends va vs vh {c with over:=upI c.over k y} (n+1)∧Keep (fun k=>base≤k) w w'∧KB w w':=by
 obtain ⟨w',hr,hm,A,_⟩:=h.o.store ht (by unfold maxLen;omega) hk y;exact ⟨w',hr,⟨(h.e.keep A h.ne.2.1).mono (Nat.le_succ _),(h.c.keep A h.ne.2.2).mono (Nat.le_succ _),hm,h.ne,h.ge,h.tx.keepMap h.o A,x_b h.h A (fun g hg q=>h.o.row h.h (q ▸ hg))⟩,A.mono (fun i _ e=>by have e':i=bo:=e;rw [e'];exact h.ge.2.2),fun r cs q=>q.keep A (h.o.blk q)⟩
theorem ColAt.cur {base be bc bo n:Nat} {w:World} {ends:Int→Int} {va vh:Value} {vs:List Value} {c:CS} (h:ColAt base w be bc bo ends va vs vh c n) {t:TypeId} (ht:prog.underlying t=some (.map 3 3)) (hn:n≤1000000) {k:Int} (hk:(kI k).wf=true) (y:Int):∃ w',(Instr.mapUpdate t (.map (some bc)) (.int .i64 k) (.int .i64 y)).run prog w = .ok () w'∧ColAt base w' be bc bo ends va vs vh {c with cur:=upI c.cur k y} (n+1)∧Keep (fun k=>base≤k) w w'∧KB w w':=by
 obtain ⟨w',hr,hm,A,_⟩:=h.c.store ht (by unfold maxLen;omega) hk y;exact ⟨w',hr,⟨(h.e.keep A h.ne.1).mono (Nat.le_succ _),hm,(h.o.keep A (Ne.symm h.ne.2.2)).mono (Nat.le_succ _),h.ne,h.ge,h.tx.keepMap h.c A,x_b h.h A (fun g hg q=>h.c.row h.h (q ▸ hg))⟩,A.mono (fun i _ e=>by have e':i=bc:=e;rw [e'];exact h.ge.2.1),fun r cs q=>q.keep A (h.c.blk q)⟩
theorem ColAt.new {base be bc bo n:Nat} {w w':World} {ends:Int→Int} {va vh v':Value} {vs:List Value} {c:CS} (h:ColAt base w be bc bo ends va vs vh c n) (a:App w base 148 1 va c.all.length vs 1 [.slice none 0 0] v' w') :
    ColAt base w' be bc bo ends v' (vs++[.slice none 0 0]) vh {c with all:=c.all++[[]]} n∧Keep (fun k=>base≤k) w w'∧KB w w':=
  ⟨⟨h.e.keepRow h.tx.row a.keep,h.c.keepRow h.tx.row a.keep,h.o.keepRow h.tx.row a.keep,h.ne,h.ge,h.tx.new a,x_b h.h a.keep (fun g hg q=>x_f h.h h.tx.row (by decide) g hg q)⟩,
   a.keep.mono (fun i _ e=>(x_d h.tx.row i e).1),fun r cs q=>q.keep a.keep (x_c h.tx.row q (by decide))⟩
theorem ColAt.op {base be bc bo n:Nat} {w w':World} {ends:Int→Int} {va vh v':Value} {vs:List Value} {c:CS} {o:LOp} (h:ColAt base w be bc bo ends va vs vh c n) (a:App w base 146 3 vh c.h.length (opsC c.h) 1 [.int .i64 o.1,.int .i64 o.2.1,.int .i64 o.2.2] v' w') :
    ColAt base w' be bc bo ends va vs v' {c with h:=c.h++[o]} n∧Keep (fun k=>base≤k) w w'∧KB w w':=
  ⟨⟨h.e.keepRow h.h a.keep,h.c.keepRow h.h a.keep,h.o.keepRow h.h a.keep,h.ne,h.ge,h.tx.keepRow h.h (by decide) (by decide) a.keep,by
      have:=a.own
      show w'.ownsRow base 146 3 v' (c.h++[o]).length (opsC (c.h++[o]))
      rw [u_p,List.length_append]
      exact this⟩,
   a.keep.mono (fun i _ e=>(x_d h.h i e).1),fun r cs q=>q.keep a.keep (x_c h.h q (by decide))⟩
theorem ColAt.line {base be bc bo n g cap i:Nat} {w w1:World} {ends:Int→Int} {vh v v':Value} {vs:List Value} {c:CS} {t:List ByteArray} {s:ByteArray} (h:ColAt base w be bc bo ends (.slice (some ⟨g,0,none⟩) c.all.length cap) vs vh c n) (hv:vs[i]?=some v) (ht:c.all[i]?=some t) (a:App w base 9 1 v t.length (strCells t) 1 [.string s] v' w1):ColAt base (w1.setCell ⟨g,i,none⟩ v') be bc bo ends (.slice (some ⟨g,0,none⟩) c.all.length cap) (vs.set i v') vh {c with all:=c.all.set i (t++[s])} n∧Keep (fun k=>base≤k) w (w1.setCell ⟨g,i,none⟩ v')∧KB w (w1.setCell ⟨g,i,none⟩ v'):=by
 have C:=h.tx.own i v t hv ht;have G:Keep (fun k=>k=g) w1 (w1.setCell ⟨g,i,none⟩ v'):=(Keep.refl _ _).setCell _ _ (fun _=>rfl);have A:=x_b h.tx.row a.keep (fun b hb q=>x_f C h.tx.row (by decide) b q hb);have J:=(x_d h.tx.row g rfl).1;have ke:=h.e.keepRow C a.keep;have kc:=h.c.keepRow C a.keep;have ko:=h.o.keepRow C a.keep;have kh:=x_b h.h a.keep (fun b hb q=>x_f h.h C (by decide) b hb q);refine ⟨⟨ke.keep G (fun e=>ke.row A (e ▸ rfl)),kc.keep G (fun e=>kc.row A (e ▸ rfl)),ko.keep G (fun e=>ko.row A (e ▸ rfl)),h.ne,h.ge,?_,x_b kh G (fun b hb e=>x_f kh A (by decide) b hb (e ▸ rfl))⟩,(a.keep.mono (fun i _ e=>(x_d C i e).1)).trans G (fun i _ e=>by have e':i=g:=e;rw [e'];exact J),fun r cs q=>(q.keep a.keep (x_c C q (by decide))).keep G (fun e=>x_c A (q.keep a.keep (x_c C q (by decide))) (by decide) (e ▸ rfl))⟩;have:=h.tx.line hv ht a;rw [show ({c with all:=c.all.set i (t++[s])}:CS).all=c.all.set i (t++[s]) from rfl];have M:(c.all.set i (t++[s])).length=c.all.length:=List.length_set;exact this
end Go.Proofs.YthdkamnclbfehaaGreatDoor
namespace Go.Proofs.YthdkamnclbfehaaGreatDoor
open Go.RowKit
def gN (n:Nat) (ls:List ByteArray):Dsk:=⟨false,-1,n,(cat ls).length,cat ls⟩
theorem v_e {n:Nat} {S:St} {ls:List ByteArray} (hl:(cat ls).length+201≤n) (s:ByteArray):hdoF runF (gN n ls) S ls false s=if (doF runF S s).err=0 then ⟨0,(doF runF S s).out,gN n (ls++[s]),(doF runF S s).st,ls++[s],false⟩ else ⟨(doF runF S s).err,bs [],gN n ls,S,ls,false⟩:=by
 unfold hdoF;rw [if_neg (by simp)];by_cases he:(doF runF S s).err=0
 ·rw [if_pos he,if_pos he];have A:=doF_size he;have C:s.data.toList.length=s.size:=(by simp);have ea:appendF (gN n ls) (s.data.toList++[10])=(0,{gN n ls with bytes:=cat ls++(s.data.toList++[10])}):=(by unfold appendF;rw [if_neg (by simp only [gN,List.length_append,List.length_cons,List.length_nil];omega)];simp [onF,gN]);rw [ea];dsimp only;rw [if_pos rfl];have es:syncF {gN n ls with bytes:=cat ls++(s.data.toList++[10])}=(0,gN n (ls++[s])):=(by simp [syncF,onF,gN,cat_snoc]);rw [es];simp
 ·rw [if_neg he,if_neg he]
theorem v_d (a:List (List ByteArray)) (i:Nat):a.getD i []=[]∨a.getD i []∈a:=by
 by_cases e:i < a.length
 ·right;simp [List.getD,List.getElem?_eq_getElem e]
 ·left;simp [List.getD,List.getElem?_eq_none (Nat.le_of_not_lt e)]
def linesOf (done:List LOp) (all:List (List ByteArray)):List ByteArray:=done.flatMap fun o=>if o.2.1=2 then all.getD (o.1 - 1).toNat [] else []
theorem linesOf_snoc (done:List LOp) (o:LOp) (all:List (List ByteArray)):linesOf (done++[o]) all=linesOf done all++(if o.2.1=2 then all.getD (o.1 - 1).toNat [] else []):=by simp [linesOf]
theorem linesOf_take_le (done:List LOp) (all:List (List ByteArray)) (i:Nat):(linesOf (done.take i) all).length≤(linesOf done all).length:=by
 conv=>rhs;rw [← List.take_append_drop i done]
 unfold linesOf;rw [List.flatMap_append,List.length_append];omega
theorem linesOf_mem {done:List LOp} {all:List (List ByteArray)} {s:ByteArray} (h:s∈linesOf done all):∃ t∈all,s∈t:=by
 unfold linesOf at h;obtain ⟨o,_,ho⟩:=List.mem_flatMap.1 h;split at ho
 ·rcases v_d all (o.1 - 1).toNat with e | e
  ·rw [e] at ho;cases ho
  ·exact ⟨_,e,ho⟩
 ·cases ho
theorem linesOf_len {all:List (List ByteArray)} {m:Nat} (hm:∀ t∈all,t.length≤m):∀ done:List LOp,(linesOf done all).length≤done.length * m
  | []=>by simp [linesOf]
  | o::l=>by
    have ih:=linesOf_len hm l
    have e:linesOf (o::l) all=(if o.2.1=2 then all.getD (o.1 - 1).toNat [] else [])++linesOf l all:=rfl
    have h1:(if o.2.1=2 then all.getD (o.1 - 1).toNat [] else []).length≤m:=by
      split
      · rcases v_d all (o.1 - 1).toNat with e | e
        · rw [e];exact Nat.zero_le _
        · exact hm _ e
      · simp
    rw [e,List.length_append,List.length_cons,Nat.succ_mul]
    omega
theorem HouseAt.app {base b:Nat} {w w':World} {H:HV} {D:Dsk} {S:St} {ls:List ByteArray} {lost:Bool} {v v':Value} {n m:Nat} {e:TypeId} {size:Nat} {xs news:List Value} (h:HouseAt base w H D S ls lost) (a:App w b e size v n xs m news v' w') (hv:∀ k,v.ownBlock=some k→¬ H.tp k∧¬ H.V.fp k):HouseAt base w' H D S ls lost∧∀ k,v'.ownBlock=some k→¬ H.tp k∧¬ H.V.fp k:=by
 refine ⟨h.keep a.keep (fun i hi e=>(hv i e).1 hi) (fun i hi e=>(hv i e).2 hi),fun k hk=>?_⟩;rcases a.fresh with f | ⟨g,f,hg⟩
 ·exact hv k (f ▸ hk)
 ·rw [f] at hk;have e:g=k:=Option.some.inj hk;exact ⟨fun t=>by have:=h.tp_lt k t;omega,fun t=>by have:=h.fp_lt k t;omega⟩
structure DayAt (base n:Nat) (w1:World) (H:HV) (S:St) (ls L:List ByteArray) (vo:Value) (H':HV) (S':St) (os ds:List ByteArray) (wx:World):Prop where
  dayed:Dayed S L os ds S'
  at_:HouseAt base wx H' (gN n (ls++ds)) S' (ls++ds) false
  chg:HChg w1 H H' wx
  out:wx.ownsRow w1.heap.size 9 1 vo os.length (strCells os)
  ap:∀ k,vo.ownBlock=some k→¬ H'.tp k∧¬ H'.V.fp k
theorem DayAt.start {base n:Nat} {w1:World} {H:HV} {S:St} {ls:List ByteArray} (h:HouseAt base w1 H (gN n ls) S ls false):DayAt base n w1 H S ls [] (.slice none 0 0) H S [] [] w1:=
  ⟨.nil _,by rw [List.append_nil];exact h,HChg.refl _ _,World.ownsRow_nil _ _ _ _,fun k e=>by cases e⟩
theorem DayAt.idle {base n:Nat} {w1 wx wy:World} {H H':HV} {S S':St} {ls L os ds:List ByteArray} {vo:Value} (h:DayAt base n w1 H S ls L vo H' S' os ds wx) (k:Keep kF wx wy):DayAt base n w1 H S ls L vo H' S' os ds wy:=
  ⟨h.dayed,h.at_.idle k,h.chg.trans (HChg.idle H' k),x_b h.out k n3,h.ap⟩
theorem DayAt.mid {base n:Nat} {w1 wx wy:World} {H H' H2:HV} {S S':St} {ls L os ds:List ByteArray} {vo:Value} (h:DayAt base n w1 H S ls L vo H' S' os ds wx) (c:HChg wx H' H2 wy):wy.ownsRow w1.heap.size 9 1 vo os.length (strCells os)∧(∀ k,vo.ownBlock=some k→¬ H2.tp k∧¬ H2.V.fp k)∧HChg w1 H H2 wy:=by
 refine ⟨x_b h.out c.keep (fun g hg e=>(h.ap g hg).1 e),fun k hk=>⟨fun e=>?_,fun e=>?_⟩,h.chg.trans c⟩
 ·rcases c.tp k e with q | q
  ·exact (h.ap k hk).1 q
  ·have:=(x_d h.out k hk).2;omega
 ·rcases c.fp k e with q | q
  ·exact (h.ap k hk).2 q
  ·have:=(x_d h.out k hk).2;omega
theorem HChg.app {w1 wy wz:World} {H H2:HV} (c:HChg w1 H H2 wy) {v v':Value} {n m:Nat} {e:TypeId} {size:Nat} {xs news:List Value} (ho:wy.ownsRow w1.heap.size e size v n xs) {b:Nat} (a:App wy b e size v n xs m news v' wz):HChg w1 H H2 wz:=
  ⟨c.h,c.d,c.tp,c.fp,c.keep.trans a.keep (fun k hk q=>by have:=(x_d ho k q).1;omega)⟩
theorem DayAt.ok {base n:Nat} {w1 wx wy wz:World} {H H' H2:HV} {S S':St} {ls L os ds:List ByteArray} {vo v':Value} {s:ByteArray} (h:DayAt base n w1 H S ls L vo H' S' os ds wx) (he:(doF runF S' s).err=0) (c:HChg wx H' H2 wy) (h':HouseAt base wy H2 (gN n (ls++ds++[s])) (doF runF S' s).st (ls++ds++[s]) false) (a:App wy w1.heap.size 9 1 vo os.length (strCells os) 1 [.string (doF runF S' s).out] v' wz):DayAt base n w1 H S ls (L++[s]) v' H2 (doF runF S' s).st (os++[(doF runF S' s).out]) (ds++[s]) wz:=by
 obtain ⟨h1,h2,h3⟩:=h.mid c;obtain ⟨h4,h5⟩:=h'.app a h2;refine ⟨h.dayed.snoc he,by rw [← List.append_assoc];exact h4,h3.app h1 a,?_,h5⟩;have:=a.own;rw [List.length_append,show strCells (os++[(doF runF S' s).out])=strCells os++[.string (doF runF S' s).out] by simp [strCells]];exact this
theorem DayAt.bad {base n:Nat} {w1 wx wy wz:World} {H H' H2:HV} {S S':St} {ls L os ds:List ByteArray} {vo v':Value} {s:ByteArray} (h:DayAt base n w1 H S ls L vo H' S' os ds wx) (he:(doF runF S' s).err≠0) (c:HChg wx H' H2 wy) (h':HouseAt base wy H2 (gN n (ls++ds)) S' (ls++ds) false) (a:App wy w1.heap.size 9 1 vo os.length (strCells os) 1 [.string bang] v' wz):DayAt base n w1 H S ls (L++[s]) v' H2 S' (os++[bang]) ds wz:=by
 obtain ⟨h1,h2,h3⟩:=h.mid c;obtain ⟨h4,h5⟩:=h'.app a h2;refine ⟨h.dayed.snoc_bad he,h4,h3.app h1 a,?_,h5⟩;have:=a.own;rw [List.length_append,show strCells (os++[bang])=strCells os++[.string bang] by simp [strCells]];exact this
end Go.Proofs.YthdkamnclbfehaaGreatDoor
namespace Go.Proofs.YthdkamnclbfehaaGreatDoor
open Go.RowKit Tryz
theorem info148:(prog.info? 148).map (fun i=>(i.zero,i.size,i.bytes))=some (some (.agg #[.slice none 0 0]),1,24):=by kernel_rfl
theorem enters106:Enters 106:=enters_of func106 (by kernel_rfl) rfl
def okC (c:CS):Bool:=!(c.all.any fun t=>decide (6 < t.length)) && (decide (c.all.length≤6) && decide (c.h.length≤40))
def ColPost (w:World) (l:List CallR) (e:Ending) (w':World):Prop:=
  ∃ va vs vh,e = .returned (.tuple #[va,vh,.bool (okC (dayF l))])∧TxAt w.heap.size w' va vs (dayF l).all∧w'.ownsRow w.heap.size 146 3 vh (dayF l).h.length (opsC (dayF l).h)∧Keep kF w w'
def ColRel (w:World) (l:List CallR) (bc:Nat) (s37 s2 s3:Value) (wx:World):Prop:=
  ∃ (j:Nat) (vs:List Value),j≤l.length∧s37 = .int .i64 j∧ColAt w.heap.size wx w.heap.size bc (bc+1) (endsF l) s2 vs s3 ((l.take j).foldl (colS (endsF l)) c00) (l.length+2 * j)∧Keep kF w wx
theorem kI3 {x:Int} (h:0≤x∧x≤3):(kI x).wf=true:=z_u h.1 (by omega)
theorem u_y {x:Int} (h:0≤x∧x≤1000000):IntKind.i64.wrap x=x:=IntWalk.i64_in _ (by omega)
def opsUp (t:Int) (its:List Int) (k m:Nat):List LOp:=((List.range k).flatMap fun (q:Nat)=>its.map fun i=>(t,(q:Int),i))++(its.take m).map fun i=>(t,(k:Int),i)
theorem opsUp_start (t:Int) (its:List Int):opsUp t its 0 0=[]:=by simp [opsUp]
theorem v_a (t:Int) (its:List Int) (k:Nat):opsUp t its k its.length=opsUp t its (k+1) 0:=by
 unfold opsUp;rw [List.range_succ,List.flatMap_append];simp
theorem opsUp_snoc (t:Int) (its:List Int) (k m:Nat) {x:Int} (h:its[m]?=some x):opsUp t its k (m+1)=opsUp t its k m++[(t,(k:Int),x)]:=by
 unfold opsUp;rw [List.take_add_one,h];simp
theorem opsUp_two (t:Int) (its:List Int):opsUp t its 2 0=its.map (fun i=>(t,0,i))++its.map (fun i=>(t,1,i)):=by
 unfold opsUp;rw [show List.range 2=[0,1] from rfl];simp
theorem y_y (t:Int) (its:List Int) (k m:Nat) (hk:k≤2) (hi:its.length≤4):(opsUp t its k m).length≤12:=by
 have h1:(its.take m).length≤4:=(by rw [List.length_take];omega);unfold opsUp;rw [List.length_append,List.length_map];rcases (by omega:k=0∨k=1∨k=2) with rfl | rfl | rfl
 ·simp;simp at h1;omega
 ·rw [show List.range 1=[0] from rfl];simp;simp at h1;omega
 ·rw [show List.range 2=[0,1] from rfl];simp;simp at h1;omega
def lineK (c:CS) (t:Int) (s:ByteArray) (k m:Nat):CS:=
  {c with all:=c.all.set (t - 1).toNat (c.all.getD (t - 1).toNat []++[s]),h:=c.h++opsUp t (itemsF s) k m}
theorem lineK_start (c:CS) (t:Int) (s:ByteArray):lineK c t s 0 0 = {c with all:=c.all.set (t - 1).toNat (c.all.getD (t - 1).toNat []++[s])}:=by
 unfold lineK;rw [opsUp_start,List.append_nil]
theorem lineK_two (c:CS) (t:Int) (s:ByteArray):lineK c t s 2 0=lineS c t s:=by
 unfold lineK lineS;rw [opsUp_two,List.append_assoc]
theorem v_b (c:CS) (t:Int) (s:ByteArray) (k m:Nat) {x:Int} (h:(itemsF s)[m]?=some x):lineK c t s k (m+1) = {lineK c t s k m with h:=(lineK c t s k m).h++[(t,(k:Int),x)]}:=by
 unfold lineK;rw [opsUp_snoc _ _ _ _ h,List.append_assoc]
theorem colS_over {ends:Int→Int} {c:CS} {x:Int} {y:ByteArray} (h:c.over x=ends x):colS ends c (x,y)=c:=by
 unfold colS;rw [if_pos h]
theorem colS_skip {ends:Int→Int} {c:CS} {x:Int} {y:ByteArray} (h:c.over x≠ends x) (h0:c.cur x=0) (hy:y=endB):colS ends c (x,y) = {c with over:=upI c.over x (c.over x+1)}:=by
 unfold colS;rw [if_neg h,if_pos ⟨h0,hy⟩]
theorem colS_end {ends:Int→Int} {c:CS} {x:Int} {y:ByteArray} (h:c.over x≠ends x) (h0:c.cur x≠0) (hy:y=endB):colS ends c (x,y)=endCS c x (c.cur x):=by
 unfold colS;rw [if_neg h,if_neg (fun q=>h0 q.1),if_pos hy]
theorem colS_line {ends:Int→Int} {c:CS} {x:Int} {y:ByteArray} (h:c.over x≠ends x) (hy:y≠endB):colS ends c (x,y)=lineS (newS c x) ((newS c x).cur x) y:=by
 unfold colS;rw [if_neg h,if_neg (fun q=>hy q.2),if_neg hy]
theorem ColAt.idleApp {base be bc bo n:Nat} {w W w':World} {ends:Int→Int} {va vh v v':Value} {vs:List Value} {c:CS} {b m k:Nat} {e:TypeId} {size:Nat} {xs news:List Value} (h:ColAt base w be bc bo ends va vs vh c n) (_:App W b e size v m xs k news v' w') (q:Keep kF w W):ColAt base W be bc bo ends va vs vh c n:=h.idle q
theorem row_cell {w:World} {base:Nat} {e:TypeId} {g n cap:Nat} {xs:List Value} (h:w.ownsRow base e 1 (.slice (some ⟨g,0,none⟩) n cap) n xs) {i:Nat} {u:Value} (hu:xs[i]?=some u):w.cell? ⟨g,i,none⟩=some u∧w.frozen? ⟨g,i,none⟩=false:=by
 rcases h.2 with ⟨hv,_⟩ | ⟨g',c,cur,hv,hb,C,M,G,J,A⟩
 ·cases hv
 ·cases hv;refine ⟨?_,by simp [World.frozen?,C]⟩;rw [cell_of_row w g i cur e (0,0) C];rw [← A,List.getElem?_take] at hu;split at hu
  ·simpa using hu
  ·cases hu
theorem end_t {y:ByteArray} (h:y=endB):(y.toList == [101,110,100])=true:=beq_iff_eq.2 ((x_n _ _).2 h)
theorem end_f {y:ByteArray} (h:y≠endB):(y.toList == [101,110,100])=false:=beq_eq_false_iff_ne.2 (fun q=>h ((x_n _ _).1 q))
theorem collect_any {w:World} {v:Value} {l:List CallR} (hG:Glob w) (hr:Rd w 2 v l.length (callsC l)) (hl:l.length≤12) (hgood:∀ c∈l,(0≤c.1∧c.1≤3)∧c.2.size≤9223372036854775807∧(c.2=endB∨∃ so f a,formF c.2=some (so,f,a))):Calls prog 72 #[v] w (ColPost w l):=by
 obtain ⟨ao,dr,rfl,_⟩:=hr.shape;have HR:=hD hr;have HG:=hD hG;have cK:=hD hgood;clear hr hG hgood;have dy:=@run_makeMap prog;go_enter func72,ntmps72;go_wp2_with fail
 go_loopw [20] (fun v20 wr=>∃ j:Nat,j≤l.length∧v20 = .int .i64 j∧Cnt wr w.heap.size j ((l.take j).foldl endsS (fun _=>0))∧Keep (fun _=>False) w wr) (fun v _=>l.length - (intOf v).toNat)
 case atStart=>exact ⟨0,by omega,rfl,Cnt.made w,(Keep.refl _ _).alloc _⟩
 case round=>
  obtain ⟨j,hj,rfl,cU,hk⟩:=hrel;have bA:=hD cU;have HK:=hD hk;clear cU hk;by_cases aU:j < l.length
  ·obtain ⟨g,o,cp,p,cG,hp,e0,e1⟩:=rd_call (HR.out.keep HK.out n3) aU;obtain ⟨x,y⟩:=p;injection cG with h1 h2 h3;subst h1;have bV:((j:Int) < (l.length:Int))=True:=eq_true (by omega);have di:((0:Int)≤(j:Int))=True:=eq_true (by omega);have hw:IntKind.i64.wrap ((j:Int)+1)=((j+1:Nat):Int):=(by rw [show ((j:Int)+1)=((j+1:Nat):Int) by omega];exact IntWalk.i64_in _ (by omega));have b7:=cK.out _ (List.mem_of_getElem? hp);have df:=ends_take l j x;obtain ⟨f,hf⟩:∃ f,(l.take j).foldl endsS (fun _=>0)=f:=⟨_,rfl⟩;rw [hf] at df;have aX:Hid ((l.take (j+1)).foldl endsS (fun _=>0)=endsS f (x,y)):=hD (by rw [fold_snoc _ _ _ hp,hf]);have HC:Hid (Cnt wr w.heap.size j f):=hD (hf ▸ bA.out);have ac:=hD aU;have an:=kI3 b7.1;clear bA hf h2 h3 hp aU b7;by_cases aa:y=endB
   ·have z:=end_t aa;have HE:Hid (endsS f (x,y)=upI f x (f x+1)):=hD (by unfold endsS;rw [if_pos aa]);have dv:=(HC.out.keep ((Keep.refl kF wr).alloc (.cells #[.int .i64 x,.string y] 129)) (fun e=>e)).look underlying187 an;obtain ⟨w2,cC,ad,aE,_⟩:=(HC.out.keep ((Keep.refl kF wr).alloc (.cells #[.int .i64 x,.string y] 129)) (fun e=>e)).store underlying187 (by unfold maxLen;omega) an (f x+1);have dA:IntKind.i64.wrap (f x+1)=f x+1:=u_y (by omega);have aO:=hD ad;have bj:=hD ((HK.out.alloc (.cells #[.int .i64 x,.string y] 129)).trans aE (fun k hk e=>by have e':k=w.heap.size:=e;omega));clear aa ad aE;go_wp2_with fail
    go_roundw
    case rel=>exact ⟨j+1,by have:=ac.out;omega,rfl,by rw [aX.out,HE.out];exact aO.out,bj.out⟩
    case measure=>have:=ac.out;simp [intOf];omega
   ·have z:=end_f aa;have HE:Hid (endsS f (x,y)=f):=hD (by unfold endsS;rw [if_neg aa]);clear aa;go_wp2_with fail
    go_roundw
    case rel=>exact ⟨j+1,by have:=ac.out;omega,rfl,by rw [aX.out,HE.out];exact (HC.out.keep ((Keep.refl kF wr).alloc _) (fun e=>e)).mono (Nat.le_succ _),HK.out.alloc _⟩
    case measure=>have:=ac.out;simp [intOf];omega
  ·have bV:((j:Int) < (l.length:Int))=False:=eq_false (by omega);have cS:ColAt w.heap.size ((wr.alloc (.map #[] 0)).alloc (.map #[] 0)) w.heap.size wr.heap.size (wr.heap.size+1) (endsF l) (.slice none 0 0) [] (.slice none 0 0) c00 (l.length+2 * 0):=(by have dm:=HK.out.size;have dw:=bA.out.lt;have e1:=bA.out;rw [List.take_of_length_le (by omega)] at e1;have e3:=Cnt.made (wr.alloc (.map #[] 0));rw [World.size_alloc] at e3;exact ⟨(e1.keep (((Keep.refl kF wr).alloc _).alloc _) (fun e=>e)).mono (by omega),((Cnt.made wr).keep ((Keep.refl kF _).alloc _) (fun e=>e)).mono (by omega),e3.mono (by omega),⟨by omega,by omega,by omega⟩,⟨Nat.le_refl _,dm,by omega⟩,TxAt.start _ _,World.ownsRow_nil _ _ _ _⟩);have bZ:=hD cS;have cM:Hid (Keep kF w ((wr.alloc (.map #[] 0)).alloc (.map #[] 0))):=hD ((HK.out.alloc _).alloc _);clear cS aU bA;go_wp2_with fail
   obtain ⟨bc,J⟩:∃ bc,wr.heap.size=bc:=⟨_,rfl⟩;rw [J] at bZ ⊢;clear J;go_loopw [37,2,3] (fun s37 s2 s3 wx=>ColRel w l bc s37 s2 s3 wx) (fun s37 _ _ _=>l.length - (intOf s37).toNat)
   case atStart=>exact ⟨0,[],Nat.zero_le _,rfl,bZ.out,cM.out⟩
   case round=>
    clear bZ cM HK bV;obtain ⟨j,vs,hj,rfl,aC,hk⟩:=hrel;have X:=take_inv l j hj;obtain ⟨c,hc⟩:∃ c,(l.take j).foldl (colS (endsF l)) c00=c:=⟨_,rfl⟩;rw [hc] at aC X;obtain ⟨cQ,bF,rfl,_⟩:=x_a aC.tx.row;obtain ⟨bU,aT,rfl,_⟩:=x_a aC.h;have aw:=hD aC;have HK:=hD hk;have HI:=hD X;have cV:=X.len;have bp:=X.h;clear aC hk;by_cases aU:j < l.length
    ·obtain ⟨g,o,cp,p,cG,hp,e0,e1⟩:=rd_call (HR.out.keep HK.out n3) aU;obtain ⟨x,y⟩:=p;injection cG with h1 h2 h3;subst h1;have bV:((j:Int) < (l.length:Int))=True:=eq_true (by omega);have di:((0:Int)≤(j:Int))=True:=eq_true (by omega);have hw:IntKind.i64.wrap ((j:Int)+1)=((j+1:Nat):Int):=(by rw [show ((j:Int)+1)=((j+1:Nat):Int) by omega];exact IntWalk.i64_in _ (by omega));have b7:=cK.out _ (List.mem_of_getElem? hp);have an:=kI3 b7.1;have ci:=hD b7.2;have aX:Hid ((l.take (j+1)).foldl (colS (endsF l)) c00=colS (endsF l) c (x,y)):=hD (by rw [fold_snoc _ _ _ hp,hc]);have ac:=hD aU;have bh:=X.over x;have aZ:=X.cur x;clear h2 h3 hp aU b7 hc X;go_upto_region 13 with fail
     obtain ⟨w1,bX⟩:∃ w1,w1=wr.alloc (.cells #[.int .i64 x,.string y] 129):=⟨_,rfl⟩;obtain ⟨r,cB⟩:∃ r,r=wr.heap.size:=⟨_,rfl⟩;have bf:Keep kF wr w1:=(by rw [bX];exact (Keep.refl _ _).alloc _);have bi:Hid (Blk w1 r #[.int .i64 x,.string y] 129):=hD (by rw [bX,cB];exact Blk.new _ _ _);have am:=hD (aw.out.idle bf);have aP:=hD (HK.out.trans bf n3);rw [← bX,← cB];clear bX bf cB e0 e1 aw;have b0:w1.cell? ⟨r,0,none⟩=some (.int .i64 x):=bi.out.cell 0;have b1:w1.cell? ⟨r,1,none⟩=some (.string y):=bi.out.cell 1;have hle:=am.out.e.look underlying187 an;have b6:=am.out.c.look underlying187 an;have cX:=am.out.o.look underlying187 an;have dB:IntKind.i64.wrap (c.over x+1)=c.over x+1:=u_y (by omega);by_cases aN:c.over x=endsF l x
     ·have z:(c.over x == endsF l x)=true:=beq_iff_eq.2 aN;have HS:=hD (colS_over (y:=y) aN);clear aN;go_wp2_with fail
      go_roundw
      case rel=>exact ⟨j+1,vs,ac.out,rfl,by rw [aX.out,HS.out];exact am.out.mono (by omega),aP.out⟩
      case measure=>have:=ac.out;simp [intOf];omega
     ·have z:(c.over x == endsF l x)=false:=beq_eq_false_iff_ne.2 aN;by_cases aa:y=endB
      ·have zy:=end_t aa;by_cases ak:c.cur x=0
       ·have zc:(c.cur x == 0)=true:=beq_iff_eq.2 ak;have HS:=hD (colS_skip aN ak aa);obtain ⟨w2,cC,ad,aE,_⟩:=am.out.over underlying187 (by omega) an (c.over x+1);have aO:=hD ad;have bj:=hD (aP.out.trans aE (fun k hk e=>by omega));clear aN ak aa ad aE;go_wp2_with fail
        go_roundw
        case rel=>exact ⟨j+1,vs,ac.out,rfl,by rw [aX.out,HS.out];exact aO.out.mono (by omega),bj.out⟩
        case measure=>have:=ac.out;simp [intOf];omega
       ·have zc:(c.cur x == 0)=false:=beq_eq_false_iff_ne.2 ak;have HS:=hD (colS_end aN ak aa);clear aN ak aa;go_wp2_with (at_builtin;refine x_h (w:=w1.alloc (.cells #[.int .i64 (c.cur x),.int .i64 2,.int .i64 0] 146)) rfl (.tmp 86) (.tmp 89) 140 140 rfl 146 (.agg #[.int .i64 0,.int .i64 0,.int .i64 0]) 3 24 underlying140 info146 rfl (am.out.h.alloc _) rfl (Src.new (P:=prog) underlying140 w1 1 [.int .i64 (c.cur x),.int .i64 2,.int .i64 0] 146 rfl (by simp [Value.oneCell'])) rfl (by unfold maxLen;omega) (by omega) (Nat.le_trans aP.out.size (by simp)) ?_;intro v' wa A;go_loud (obtain ⟨hA,aF,a8⟩:=(am.out.idle ((Keep.refl kF w1).alloc _)).op (o:=(c.cur x,2,0)) A;have dj:=hA.o.look underlying187 an;obtain ⟨w5,cY,bG,al,bH⟩:=hA.over underlying187 (by omega) an (c.over x+1);obtain ⟨w6,dz,cR,cW,dd⟩:=bG.cur underlying187 (by omega) an 0;have hq:=a8 _ _ ((bi.out.alloc _));have f0:wa.cell? ⟨r,0,none⟩=some (.int .i64 x):=hq.cell 0;have f1:w5.cell? ⟨r,0,none⟩=some (.int .i64 x):=(bH _ _ hq).cell 0;have da:=hD cR;have db:=hD (((((aP.out.alloc _).trans aF (fun k hk e=>by omega)).trans al (fun k hk e=>by omega)).trans cW (fun k hk e=>by omega)));clear A hA aF a8 bG al bH cR cW dd hq))
        go_roundw
        case rel=>exact ⟨j+1,vs,ac.out,rfl,by rw [aX.out,HS.out];exact da.out.mono (by omega),db.out⟩
        case measure=>have:=ac.out;simp [intOf];omega
      ·have zy:=end_f aa;have HS:=hD (colS_line (x:=x) aN aa);obtain ⟨so,fm,fa,aD⟩:=ci.out.2.resolve_left aa;have cJ:=hD aD;have cL:Hid (itemsF y=touchB y fa):=hD (by unfold itemsF;rw [aD]);have cN:=hD (HI.out.new x);clear aN aa aD;by_cases ak:c.cur x=0
       focus
        have zc:(c.cur x == 0)=true:=beq_iff_eq.2 ak;have HN:Hid (newS c x = {c with all:=c.all++[[]],cur:=upI c.cur x ((c.all.length:Int)+1)}):=hD (by unfold newS;rw [if_pos ak]);clear ak;go_upto_region 19 with (at_builtin;go_loud (refine x_h (w:=w1.alloc (.cells #[.slice none 0 0] 148)) rfl (.tmp 70) (.tmp 72) 138 138 rfl 148 (.agg #[.slice none 0 0]) 1 24 underlying138 info148 rfl (am.out.tx.row.alloc _) rfl (Src.new (P:=prog) underlying138 w1 1 [.slice none 0 0] 148 rfl (by simp [Value.oneCell'])) rfl (by unfold maxLen;omega) (by omega) (Nat.le_trans aP.out.size (by simp)) ?_);intro v' wa A;go_loud (obtain ⟨dc,ck,rfl,_⟩:=x_a A.own;obtain ⟨hA,aF,a8⟩:=(am.out.idle ((Keep.refl kF w1).alloc _)).new A;obtain ⟨w5,cY,bG,al,bH⟩:=hA.cur underlying187 (by omega) an ((c.all.length:Int)+1);have hq:=a8 _ _ ((bi.out.alloc _));have f0:wa.cell? ⟨r,0,none⟩=some (.int .i64 x):=hq.cell 0;have cI:=hD (bH _ _ hq);have cH:=hD bG;have b4:=hD ((((aP.out.alloc _).trans aF (fun k hk e=>by omega)).trans al (fun k hk e=>by omega)));clear A hA aF a8 bG al bH hq))
        obtain ⟨bz,ag⟩:∃ bz,bz=Value.slice dc (c.all.length+1) ck:=⟨_,rfl⟩;have C:=cH.out;have Z:=b4.out;have J:=cI.out;rw [← ag] at C;rw [← ag];have C:ColAt w.heap.size w5 w.heap.size bc (bc+1) (endsF l) bz (vs++[.slice none 0 0]) (.slice bU c.h.length aT) (newS c x) (l.length+2 * j+1):=(by rw [HN.out];exact C);obtain ⟨b2,aW⟩:∃ b2,vs++[Value.slice none 0 0]=b2:=⟨_,rfl⟩;rw [aW] at C;clear ag aW cH b4 cI cY f0 hle b6 cX b0 b1 am aP bi bh aZ HI HN zc
       rotate_left
       focus
        have zc:(c.cur x == 0)=false:=beq_eq_false_iff_ne.2 ak;have HN:Hid (newS c x=c):=hD (by unfold newS;rw [if_neg ak]);clear ak;go_upto_region 19 with fail
        obtain ⟨bz,ag⟩:∃ bz,bz=Value.slice cQ c.all.length bF:=⟨_,rfl⟩;have C:=am.out.mono (show l.length+2 * j≤l.length+2 * j+1 by omega);have Z:=aP.out;have J:=bi.out;rw [← ag] at C;rw [← ag];have C:ColAt w.heap.size w1 w.heap.size bc (bc+1) (endsF l) bz vs (.slice bU c.h.length aT) (newS c x) (l.length+2 * j+1):=(by rw [HN.out];exact C);obtain ⟨b2,aW⟩:∃ b2,vs=b2:=⟨_,rfl⟩;rw [aW] at C;clear ag hle b6 cX b0 b1 am aP bi bh aZ HI HN zc
       rotate_left
       all_goals
        obtain ⟨n1,n2,_,n4,n5,n6,_⟩:=cN.out;obtain ⟨c1,cT⟩:∃ c1,newS c x=c1:=⟨_,rfl⟩;rw [cT] at C n1 n2 n4 n5 n6 HS;have de:c.h.length=c1.h.length:=(by rw [n6]);rw [de] at C bp ⊢;have ba:=n1 x;obtain ⟨tt,cD⟩:∃ tt,c1.cur x=tt:=⟨_,rfl⟩;rw [cD] at n2 ba HS;obtain ⟨i,hi⟩:∃ i:Nat,tt=(i:Int)+1:=⟨(tt - 1).toNat,by omega⟩;have cw:i < c1.all.length:=(by omega);have bL:i < b2.length:=(by rw [C.tx.len];exact cw);obtain ⟨cP,aj,cE,c6,_,bg,aK⟩:=x_a C.tx.row;subst cE
        obtain ⟨g1,dh⟩:∃ g1,cP=some ⟨g1,0,none⟩:=by
         rcases cP with _ | ⟨a,b,s⟩
         ·have:=(bg rfl).1;omega
         ·have:=aK _ rfl;simp only at this;obtain ⟨rfl,rfl,_⟩:=this;exact ⟨a,rfl⟩
        subst dh;obtain ⟨vi,bW⟩:∃ vi,b2[i]?=some vi:=⟨_,List.getElem?_eq_getElem bL⟩;obtain ⟨ti,bP⟩:∃ ti,c1.all[i]?=some ti:=⟨_,List.getElem?_eq_getElem cw⟩;have aI:=C.tx.own i vi ti bW bP;have dn:ti.length≤12:=(by have:=(n5 ti (List.mem_of_getElem? bP)).1;omega);obtain ⟨bu,ah,rfl,_⟩:=x_a aI;obtain ⟨a0,a1⟩:=row_cell C.tx.row bW
       focus
        have cj:(w5.alloc (.cells #[.string y] 9)).cell? ⟨g1,i,none⟩=some (.slice bu ti.length ah):=(((Keep.refl kF w5).alloc _).cell (p:=⟨g1,i,none⟩) (x_d C.tx.row g1 rfl).2 (fun e=>e)).trans a0;have b0:w5.cell? ⟨r,0,none⟩=some (.int .i64 x):=J.cell 0;have b1:w5.cell? ⟨r,1,none⟩=some (.string y):=J.cell 1
       rotate_left
       focus
        have cj:(w1.alloc (.cells #[.string y] 9)).cell? ⟨g1,i,none⟩=some (.slice bu ti.length ah):=(((Keep.refl kF w1).alloc _).cell (p:=⟨g1,i,none⟩) (x_d C.tx.row g1 rfl).2 (fun e=>e)).trans a0;have b0:w1.cell? ⟨r,0,none⟩=some (.int .i64 x):=J.cell 0;have b1:w1.cell? ⟨r,1,none⟩=some (.string y):=J.cell 1
       rotate_left
       all_goals
        have b6:=C.c.look underlying187 an;rw [cD] at b6;have dl:IntKind.i64.wrap (tt - 1)=(i:Int):=(by rw [show tt - 1=(i:Int) by omega];exact u_y (by omega));have dt:((0:Int)≤(i:Int))=True:=eq_true (by omega);have du:((i:Int) < (c1.all.length:Int))=True:=eq_true (by omega)
       focus
        have ai:Hid (∀ W,Keep (fun k=>k≠r) w5 W→W.cell? ⟨r,1,none⟩=some (.string y)):=hD fun W k=>(J.keep k (fun e=>e rfl)).cell 1
       rotate_left
       focus
        have ai:Hid (∀ W,Keep (fun k=>k≠r) w1 W→W.cell? ⟨r,1,none⟩=some (.string y)):=hD fun W k=>(J.keep k (fun e=>e rfl)).cell 1
       rotate_left
       all_goals
        have aM:Hid (g1≠r):=hD (fun e=>x_c C.tx.row J (by decide) (e ▸ rfl));have bT:Hid (∀ k,(Value.slice bu ti.length ah).ownBlock=some k→k≠r):=hD (fun k e q=>x_c aI J (by decide) (q ▸ e))
       focus
        have bD:Hid (∀ W,Keep kF w5 W→W.ownsRow w.heap.size 9 1 (.slice bu ti.length ah) ti.length (strCells ti)):=hD fun W k=>x_b aI k n3
       rotate_left
       focus
        have bD:Hid (∀ W,Keep kF w1 W→W.ownsRow w.heap.size 9 1 (.slice bu ti.length ah) ti.length (strCells ti)):=hD fun W k=>x_b aI k n3
       rotate_left
       all_goals
        have bR:=hD Z.size;have aY:=hD bW;have b5:=hD bP;have M:=hD C;have O:=hD Z;have Y:=hD J;have bS:Hid ({c1 with all:=c1.all.set i (ti++[y])}=lineK c1 tt y 0 0):=hD (by rw [lineK_start,show (tt - 1).toNat=i by omega];congr 2;simp [List.getD,bP]);clear C Z J aI bW bP hi cD n1 n2 n4 n5 n6 cN cw bL ba cT bg aK c6;go_upto_region 24 with fail
       ·go_cut [99] from 99 to 113 (fun s99 wx=>∃ vs',ColAt w.heap.size wx w.heap.size bc (bc+1) (endsF l) (.slice (some ⟨g1,0,none⟩) c1.all.length aj) vs' (.slice bU c1.h.length aT) (lineK c1 tt y 0 0) (l.length+2 * j+1)∧Keep (fun _=>False) w wx∧Blk wx r #[.int .i64 x,.string y] 129)
        case first=>
         rename_i Jq Kq cn cq;refine wp_region_noPanic ?_;refine wp_region_held_drew (S:=fun W=>W.cell? ⟨r,1,none⟩=some (.string y)) (by kernel_rfl) (ai.out _ ((Keep.refl _ _).drew)) fun hHeld=>?_;refine wS 0 ?_;refine wS 1 ?_;refine wS 2 ?_;refine wS 3 ?_;refine wS 4 ?_;refine wS 5 ?_;refine wS 6 ?_;refine wS 7 ?_;refine wS 9 ?_;refine wS 10 ?_;refine wR (rs:=[8,11]) ?_;refine AllReadyH.cons (o:=_) rfl (fun K hK=>?_) (AllReadyH.cons (o:=_) rfl (fun K hK=>?_) AllReadyH.nil)
         all_goals
          go_simp;refine hK.out _ _ ?_ fun hHeld=>?_
          ·((try dsimp only);refine ai.out _ ?_;repeat (first | exact aQ.out | exact Keep.refl _ _ | apply Keep.drew | apply Keep.alloc | refine Keep.setCell ?_ _ _ (fun _=>aM.out)))
          clear hK K;(try simp only [tA])
         focus
          refine wR (rs:=[11]) ?_
         rotate_left
         focus
          refine wR (rs:=[8]) ?_
         rotate_left
         all_goals
          refine aR rfl fun K hK=>?_;go_simp;refine hK.out _ _ ?_ fun hHeld=>?_
          ·((try dsimp only);refine ai.out _ ?_;repeat (first | exact aQ.out | exact Keep.refl _ _ | apply Keep.drew | apply Keep.alloc | refine Keep.setCell ?_ _ _ (fun _=>aM.out)))
          clear hK K;(try simp only [tA]);refine wB 12 fun K hK=>?_;refine x_q (base:=w.heap.size) (.tmp 107) (.tmp 110) 44 44 rfl 9 (.string ⟨#[]⟩) 1 16 underlying44 y_t rfl (v:=.slice bu ti.length ah) (n:=ti.length) (xs:=strCells ti) (bD.out _ kW) rfl (m:=1) (news:=[.string y]) (by first | exact (Rd.new w5 1 1 [.string y] 9 rfl (by simp [Value.oneCell']) (by unfold maxLen;omega)).src underlying44 | exact (Rd.new w5 1 1 [.string y] 9 rfl (by simp [Value.oneCell']) (by unfold maxLen;omega)).drew.src underlying44 | exact ((Rd.new w5 1 1 [.string y] 9 rfl (by simp [Value.oneCell']) (by unfold maxLen;omega)).keep ((Keep.refl kF _).drew) n3).src underlying44) rfl (by unfold maxLen;omega) (by omega) (Nat.le_trans bR.out (Keep.size (show Keep kF w5 _ from kW))) (fun v' w7 A=>?_);obtain ⟨bE,a7,rfl,_⟩:=x_a A.own;have aJ:=M.out.idleApp A kW;have bk:=hD (aJ.line aY.out b5.out A);have cA:=row_cell (x_b aJ.tx.row A.keep (fun b hb q=>x_f (aJ.tx.own i _ ti aY.out b5.out) aJ.tx.row (by decide) b q hb)) aY.out;obtain ⟨y1,y0⟩:=cA;have aQ:Hid (Keep (fun k=>k≠r) w5 w7):=hD (Keep.trans (show Keep (fun k=>k≠r) w5 _ from kW) A.keep (fun k _ e=>bT.out k e));have cb:Hid (KB w5 (w7.setCell ⟨g1,i,none⟩ (.slice bE (ti.length+1) a7))):=hD ((KB.idle (show Keep kF w5 _ from kW)).trans bk.out.2.2);have ce:Hid (Keep kF w (w7.setCell ⟨g1,i,none⟩ (.slice bE (ti.length+1) a7))):=hD ((O.out.trans (show Keep kF w5 _ from kW) n3).trans bk.out.2.1 (fun k hk e=>by omega));clear A aJ;refine hK.out _ _ ?_ fun hHeld=>?_
          ·((try dsimp only);refine ai.out _ ?_;repeat (first | exact aQ.out | exact Keep.refl _ _ | apply Keep.drew | apply Keep.alloc | refine Keep.setCell ?_ _ _ (fun _=>aM.out)))
          clear hK K;(try simp only [tA]);refine wS 13 ?_;refine wS 14 ?_;refine wA 15 fun K hK=>?_;go_simp;refine hK.out _ _ ?_ fun hHeld=>?_
          ·((try dsimp only);refine ai.out _ ?_;repeat (first | exact aQ.out | exact Keep.refl _ _ | apply Keep.drew | apply Keep.alloc | refine Keep.setCell ?_ _ _ (fun _=>aM.out)))
          clear hK K;(try simp only [tA]);refine wpAnyH_done (by kernel_rfl) ?_ _;refine NoPanic.normal ?_;refine cq _ _ (Met.intro (cn _ _ ?_));exact ⟨_,_,_,_,_,_,_,_,_,_,_,_,_,_,_,⟨_,bS.out ▸ bk.out.1,ce.out,cb.out _ _ Y.out⟩,rfl⟩
        case rest=>
         clear b0 b1 a0 cj a1 b6 ai aM bT bD bR aY b5 M O Y bS;obtain ⟨b3,aB,aG,aA⟩:=hcut;have au:=hD aB;have az:=hD aG;have aq:=hD aA;clear aB aG aA;go_wp2_with fail
         go_loopw [114,3] (fun s114 s3 wx=>∃ k:Nat,k≤2∧s114 = .int .i64 k∧ColAt w.heap.size wx w.heap.size bc (bc+1) (endsF l) (.slice (some ⟨g1,0,none⟩) c1.all.length aj) b3 s3 (lineK c1 tt y k 0) (l.length+2 * j+1)∧Keep (fun _=>False) w wx∧Blk wx r #[.int .i64 x,.string y] 129) (fun v _ _=>2 - (intOf v).toNat)
         case atStart=>exact ⟨0,by omega,rfl,au.out,az.out,aq.out⟩
         case round=>
          clear au az aq;obtain ⟨k,aE,rfl,C,Z,J⟩:=hrel;obtain ⟨c2,ad⟩:∃ c2,lineK c1 tt y k 0=c2:=⟨_,rfl⟩;have bN:c2.h.length≤200:=(by rw [← ad];show (c1.h++opsUp tt (itemsF y) k 0).length≤200;have:=y_y tt (itemsF y) k 0 aE (x_w y);rw [List.length_append];omega);rw [ad] at C;obtain ⟨cr,bJ,rfl,_⟩:=x_a C.h;have b1:wr.cell? ⟨r,1,none⟩=some (.string y):=J.cell 1;have M:=hD C;have O:=hD Z;have Y:=hD J;have aO:=hD ad;clear C Z J ad;by_cases bq:k < 2
          ·have bf:((k:Int) < 2)=True:=eq_true (by omega);have cz:decide ((k:Int) < 2)=true:=decide_eq_true (by omega);have dp:IntKind.i64.wrap ((k:Int)+1)=((k+1:Nat):Int):=(by rw [show ((k:Int)+1)=((k+1:Nat):Int) by omega];exact IntWalk.i64_in _ (by omega));have bB:=hD bq;clear bq;go_wp2_with (go_at_call 104;have hh:=touches_any (HG.out.keep O.out) ci.out.1 cJ.out;rw [← cL.out] at hh;refine Calls.mono hh ?_;clear hh;rintro e w5 ⟨vt,rfl,ae,aV⟩;obtain ⟨bx,aL,rfl,_⟩:=x_a ae;have U:=hD ae;have av:=hD (M.out.idle aV);have a6:=hD (O.out.trans aV n3);have ar:=hD (Y.out.keep aV (fun e=>e));clear ae aV)
           obtain ⟨G,R⟩:∃ G,itemsF y=G:=⟨_,rfl⟩;have cy:G.length≤4:=(by rw [← R];exact x_w y);rw [R] at U ⊢;have ay:=hD R;obtain ⟨bt,bI⟩:∃ bt,wr.heap.size=bt:=⟨_,rfl⟩;rw [bI] at U;clear R b1 bI;go_loopw [121,3] (fun s121 s3 wx=>∃ m:Nat,m≤G.length∧s121 = .int .i64 m∧ColAt w.heap.size wx w.heap.size bc (bc+1) (endsF l) (.slice (some ⟨g1,0,none⟩) c1.all.length aj) b3 s3 (lineK c1 tt y k m) (l.length+2 * j+1)∧wx.ownsRow bt 3 1 (.slice bx G.length aL) G.length (icells G)∧Keep (fun _=>False) w wx∧Blk wx r #[.int .i64 x,.string y] 129) (fun v _ _=>G.length - (intOf v).toNat)
           case atStart=>exact ⟨0,Nat.zero_le _,rfl,by rw [aO.out];exact av.out,U.out,a6.out,ar.out⟩
           case round=>
            clear av a6 ar U M O Y;obtain ⟨m,hm,rfl,C,ae,Z,J⟩:=hrel;obtain ⟨c3,aS⟩:∃ c3,lineK c1 tt y k m=c3:=⟨_,rfl⟩;have bO:c3.h.length≤200:=(by rw [← aS];show (c1.h++opsUp tt (itemsF y) k m).length≤200;have:=y_y tt (itemsF y) k m aE (x_w y);rw [List.length_append];omega);rw [aS] at C;obtain ⟨cu,bK,rfl,_⟩:=x_a C.h;have M:=hD C;have O:=hD Z;have Y:=hD J;have U:=hD ae;have b8:=hD aS;clear C Z J ae aS;by_cases aH:m < G.length
            ·obtain ⟨gt,ot,ct,cF,cv⟩:=rd_int (x_g U.out (x_l _)) aH;injection cF with q1 q2 q3;subst q1;obtain ⟨z5,br⟩:∃ z5,G[m]?=some z5:=⟨_,List.getElem?_eq_getElem aH⟩;have bQ:G.getD m 0=z5:=(by simp [List.getD,br]);rw [bQ] at cv;have bl:Hid (lineK c1 tt y k (m+1) = {c3 with h:=c3.h++[(tt,(k:Int),z5)]}):=hD (by rw [v_b _ _ _ _ _ (by rw [ay.out];exact br),b8.out]);have c8:((m:Int) < (G.length:Int))=True:=eq_true (by omega);have dk:((0:Int)≤(m:Int))=True:=eq_true (by omega);have dq:IntKind.i64.wrap ((m:Int)+1)=((m+1:Nat):Int):=(by rw [show ((m:Int)+1)=((m+1:Nat):Int) by omega];exact IntWalk.i64_in _ (by omega));have bC:=hD aH;clear q2 q3 br bQ aH;go_wp2_with (at_builtin;go_loud (refine x_h (w:=wr.alloc (.cells #[.int .i64 tt,.int .i64 (k:Int),.int .i64 z5] 146)) rfl (.tmp 125) (.tmp 130) 140 140 rfl 146 (.agg #[.int .i64 0,.int .i64 0,.int .i64 0]) 3 24 underlying140 info146 rfl (M.out.h.alloc _) rfl (Src.new (P:=prog) underlying140 wr 1 [.int .i64 tt,.int .i64 (k:Int),.int .i64 z5] 146 rfl (by simp [Value.oneCell'])) rfl (by unfold maxLen;omega) (by omega) (Nat.le_trans O.out.size (by simp)) ?_);intro v' wa A;go_loud (obtain ⟨hA,aF,a8⟩:=(M.out.idle ((Keep.refl kF wr).alloc _)).op (o:=(tt,(k:Int),z5)) A;have HA:=hD hA;have cd:=hD ((O.out.alloc _).trans aF (fun k hk e=>by omega));have bY:=hD (a8 _ _ (Y.out.alloc _));have cf:=hD (x_b (U.out.alloc _) A.keep (fun b hb q=>x_f M.out.h U.out (by decide) b q hb));clear A hA aF a8))
             go_roundw
             case rel=>exact ⟨m+1,bC.out,rfl,by rw [bl.out];exact HA.out,cf.out,cd.out,bY.out⟩
             case measure=>have:=bC.out;simp [intOf];omega
            ·have c8:((m:Int) < (G.length:Int))=False:=eq_false (by omega);have ca:Hid (c3=lineK c1 tt y (k+1) 0):=hD (by rw [← b8.out,show m=G.length by omega];unfold lineK;rw [ay.out,v_a]);clear aH;go_wp2_with fail
             go_roundw
             case rel=>exact ⟨k+1,bB.out,rfl,by rw [← ca.out];exact M.out,O.out,Y.out⟩
             case measure=>have:=bB.out;simp [intOf];omega
          ·have bf:((k:Int) < 2)=False:=eq_false (by omega);have cz:decide ((k:Int) < 2)=false:=decide_eq_false (by omega);have bj:Hid (k=2):=hD (by omega);clear bq;go_wp2_with fail
           go_roundw
           case rel=>
            have h:=M.out.mono (show l.length+2 * j+1≤l.length+2 * (j+1) by omega);have e:c2=lineS c1 tt y:=(by rw [← aO.out,bj.out,lineK_two]);exact ⟨j+1,b3,ac.out,rfl,by rw [aX.out,HS.out,← e];exact h,O.out⟩
           case measure=>have:=ac.out;simp [intOf];omega
       ·go_cut [99] from 99 to 113 (fun s99 wx=>∃ vs',ColAt w.heap.size wx w.heap.size bc (bc+1) (endsF l) (.slice (some ⟨g1,0,none⟩) c1.all.length aj) vs' (.slice bU c1.h.length aT) (lineK c1 tt y 0 0) (l.length+2 * j+1)∧Keep (fun _=>False) w wx∧Blk wx r #[.int .i64 x,.string y] 129)
        case first=>
         rename_i Jq Kq cn cq;refine wp_region_noPanic ?_;refine wp_region_held_drew (S:=fun W=>W.cell? ⟨r,1,none⟩=some (.string y)) (by kernel_rfl) (ai.out _ ((Keep.refl _ _).drew)) fun hHeld=>?_;refine wS 0 ?_;refine wS 1 ?_;refine wS 2 ?_;refine wS 3 ?_;refine wS 4 ?_;refine wS 5 ?_;refine wS 6 ?_;refine wS 7 ?_;refine wS 9 ?_;refine wS 10 ?_;refine wR (rs:=[8,11]) ?_;refine AllReadyH.cons (o:=_) rfl (fun K hK=>?_) (AllReadyH.cons (o:=_) rfl (fun K hK=>?_) AllReadyH.nil)
         all_goals
          go_simp;refine hK.out _ _ ?_ fun hHeld=>?_
          ·((try dsimp only);refine ai.out _ ?_;repeat (first | exact aQ.out | exact Keep.refl _ _ | apply Keep.drew | apply Keep.alloc | refine Keep.setCell ?_ _ _ (fun _=>aM.out)))
          clear hK K;(try simp only [tA])
         focus
          refine wR (rs:=[11]) ?_
         rotate_left
         focus
          refine wR (rs:=[8]) ?_
         rotate_left
         all_goals
          refine aR rfl fun K hK=>?_;go_simp;refine hK.out _ _ ?_ fun hHeld=>?_
          ·((try dsimp only);refine ai.out _ ?_;repeat (first | exact aQ.out | exact Keep.refl _ _ | apply Keep.drew | apply Keep.alloc | refine Keep.setCell ?_ _ _ (fun _=>aM.out)))
          clear hK K;(try simp only [tA]);refine wB 12 fun K hK=>?_;refine x_q (base:=w.heap.size) (.tmp 107) (.tmp 110) 44 44 rfl 9 (.string ⟨#[]⟩) 1 16 underlying44 y_t rfl (v:=.slice bu ti.length ah) (n:=ti.length) (xs:=strCells ti) (bD.out _ kW) rfl (m:=1) (news:=[.string y]) (by first | exact (Rd.new w1 1 1 [.string y] 9 rfl (by simp [Value.oneCell']) (by unfold maxLen;omega)).src underlying44 | exact (Rd.new w1 1 1 [.string y] 9 rfl (by simp [Value.oneCell']) (by unfold maxLen;omega)).drew.src underlying44 | exact ((Rd.new w1 1 1 [.string y] 9 rfl (by simp [Value.oneCell']) (by unfold maxLen;omega)).keep ((Keep.refl kF _).drew) n3).src underlying44) rfl (by unfold maxLen;omega) (by omega) (Nat.le_trans bR.out (Keep.size (show Keep kF w1 _ from kW))) (fun v' w7 A=>?_);obtain ⟨bE,a7,rfl,_⟩:=x_a A.own;have aJ:=M.out.idleApp A kW;have bk:=hD (aJ.line aY.out b5.out A);have cA:=row_cell (x_b aJ.tx.row A.keep (fun b hb q=>x_f (aJ.tx.own i _ ti aY.out b5.out) aJ.tx.row (by decide) b q hb)) aY.out;obtain ⟨y1,y0⟩:=cA;have aQ:Hid (Keep (fun k=>k≠r) w1 w7):=hD (Keep.trans (show Keep (fun k=>k≠r) w1 _ from kW) A.keep (fun k _ e=>bT.out k e));have cb:Hid (KB w1 (w7.setCell ⟨g1,i,none⟩ (.slice bE (ti.length+1) a7))):=hD ((KB.idle (show Keep kF w1 _ from kW)).trans bk.out.2.2);have ce:Hid (Keep kF w (w7.setCell ⟨g1,i,none⟩ (.slice bE (ti.length+1) a7))):=hD ((O.out.trans (show Keep kF w1 _ from kW) n3).trans bk.out.2.1 (fun k hk e=>by omega));clear A aJ;refine hK.out _ _ ?_ fun hHeld=>?_
          ·((try dsimp only);refine ai.out _ ?_;repeat (first | exact aQ.out | exact Keep.refl _ _ | apply Keep.drew | apply Keep.alloc | refine Keep.setCell ?_ _ _ (fun _=>aM.out)))
          clear hK K;(try simp only [tA]);refine wS 13 ?_;refine wS 14 ?_;refine wA 15 fun K hK=>?_;go_simp;refine hK.out _ _ ?_ fun hHeld=>?_
          ·((try dsimp only);refine ai.out _ ?_;repeat (first | exact aQ.out | exact Keep.refl _ _ | apply Keep.drew | apply Keep.alloc | refine Keep.setCell ?_ _ _ (fun _=>aM.out)))
          clear hK K;(try simp only [tA]);refine wpAnyH_done (by kernel_rfl) ?_ _;refine NoPanic.normal ?_;refine cq _ _ (Met.intro (cn _ _ ?_));exact ⟨_,_,_,_,_,_,_,_,_,_,_,_,_,_,_,⟨_,bS.out ▸ bk.out.1,ce.out,cb.out _ _ Y.out⟩,rfl⟩
        case rest=>
         clear b0 b1 a0 cj a1 b6 ai aM bT bD bR aY b5 M O Y bS;obtain ⟨b3,aB,aG,aA⟩:=hcut;have au:=hD aB;have az:=hD aG;have aq:=hD aA;clear aB aG aA;go_wp2_with fail
         go_loopw [114,3] (fun s114 s3 wx=>∃ k:Nat,k≤2∧s114 = .int .i64 k∧ColAt w.heap.size wx w.heap.size bc (bc+1) (endsF l) (.slice (some ⟨g1,0,none⟩) c1.all.length aj) b3 s3 (lineK c1 tt y k 0) (l.length+2 * j+1)∧Keep (fun _=>False) w wx∧Blk wx r #[.int .i64 x,.string y] 129) (fun v _ _=>2 - (intOf v).toNat)
         case atStart=>exact ⟨0,by omega,rfl,au.out,az.out,aq.out⟩
         case round=>
          clear au az aq;obtain ⟨k,aE,rfl,C,Z,J⟩:=hrel;obtain ⟨c2,ad⟩:∃ c2,lineK c1 tt y k 0=c2:=⟨_,rfl⟩;have bN:c2.h.length≤200:=(by rw [← ad];show (c1.h++opsUp tt (itemsF y) k 0).length≤200;have:=y_y tt (itemsF y) k 0 aE (x_w y);rw [List.length_append];omega);rw [ad] at C;obtain ⟨cr,bJ,rfl,_⟩:=x_a C.h;have b1:wr.cell? ⟨r,1,none⟩=some (.string y):=J.cell 1;have M:=hD C;have O:=hD Z;have Y:=hD J;have aO:=hD ad;clear C Z J ad;by_cases bq:k < 2
          ·have bf:((k:Int) < 2)=True:=eq_true (by omega);have cz:decide ((k:Int) < 2)=true:=decide_eq_true (by omega);have dp:IntKind.i64.wrap ((k:Int)+1)=((k+1:Nat):Int):=(by rw [show ((k:Int)+1)=((k+1:Nat):Int) by omega];exact IntWalk.i64_in _ (by omega));have bB:=hD bq;clear bq;go_wp2_with (go_at_call 104;have hh:=touches_any (HG.out.keep O.out) ci.out.1 cJ.out;rw [← cL.out] at hh;refine Calls.mono hh ?_;clear hh;rintro e w5 ⟨vt,rfl,ae,aV⟩;obtain ⟨bx,aL,rfl,_⟩:=x_a ae;have U:=hD ae;have av:=hD (M.out.idle aV);have a6:=hD (O.out.trans aV n3);have ar:=hD (Y.out.keep aV (fun e=>e));clear ae aV)
           obtain ⟨G,R⟩:∃ G,itemsF y=G:=⟨_,rfl⟩;have cy:G.length≤4:=(by rw [← R];exact x_w y);rw [R] at U ⊢;have ay:=hD R;obtain ⟨bt,bI⟩:∃ bt,wr.heap.size=bt:=⟨_,rfl⟩;rw [bI] at U;clear R b1 bI;go_loopw [121,3] (fun s121 s3 wx=>∃ m:Nat,m≤G.length∧s121 = .int .i64 m∧ColAt w.heap.size wx w.heap.size bc (bc+1) (endsF l) (.slice (some ⟨g1,0,none⟩) c1.all.length aj) b3 s3 (lineK c1 tt y k m) (l.length+2 * j+1)∧wx.ownsRow bt 3 1 (.slice bx G.length aL) G.length (icells G)∧Keep (fun _=>False) w wx∧Blk wx r #[.int .i64 x,.string y] 129) (fun v _ _=>G.length - (intOf v).toNat)
           case atStart=>exact ⟨0,Nat.zero_le _,rfl,by rw [aO.out];exact av.out,U.out,a6.out,ar.out⟩
           case round=>
            clear av a6 ar U M O Y;obtain ⟨m,hm,rfl,C,ae,Z,J⟩:=hrel;obtain ⟨c3,aS⟩:∃ c3,lineK c1 tt y k m=c3:=⟨_,rfl⟩;have bO:c3.h.length≤200:=(by rw [← aS];show (c1.h++opsUp tt (itemsF y) k m).length≤200;have:=y_y tt (itemsF y) k m aE (x_w y);rw [List.length_append];omega);rw [aS] at C;obtain ⟨cu,bK,rfl,_⟩:=x_a C.h;have M:=hD C;have O:=hD Z;have Y:=hD J;have U:=hD ae;have b8:=hD aS;clear C Z J ae aS;by_cases aH:m < G.length
            ·obtain ⟨gt,ot,ct,cF,cv⟩:=rd_int (x_g U.out (x_l _)) aH;injection cF with q1 q2 q3;subst q1;obtain ⟨z5,br⟩:∃ z5,G[m]?=some z5:=⟨_,List.getElem?_eq_getElem aH⟩;have bQ:G.getD m 0=z5:=(by simp [List.getD,br]);rw [bQ] at cv;have bl:Hid (lineK c1 tt y k (m+1) = {c3 with h:=c3.h++[(tt,(k:Int),z5)]}):=hD (by rw [v_b _ _ _ _ _ (by rw [ay.out];exact br),b8.out]);have c8:((m:Int) < (G.length:Int))=True:=eq_true (by omega);have dk:((0:Int)≤(m:Int))=True:=eq_true (by omega);have dq:IntKind.i64.wrap ((m:Int)+1)=((m+1:Nat):Int):=(by rw [show ((m:Int)+1)=((m+1:Nat):Int) by omega];exact IntWalk.i64_in _ (by omega));have bC:=hD aH;clear q2 q3 br bQ aH;go_wp2_with (at_builtin;go_loud (refine x_h (w:=wr.alloc (.cells #[.int .i64 tt,.int .i64 (k:Int),.int .i64 z5] 146)) rfl (.tmp 125) (.tmp 130) 140 140 rfl 146 (.agg #[.int .i64 0,.int .i64 0,.int .i64 0]) 3 24 underlying140 info146 rfl (M.out.h.alloc _) rfl (Src.new (P:=prog) underlying140 wr 1 [.int .i64 tt,.int .i64 (k:Int),.int .i64 z5] 146 rfl (by simp [Value.oneCell'])) rfl (by unfold maxLen;omega) (by omega) (Nat.le_trans O.out.size (by simp)) ?_);intro v' wa A;go_loud (obtain ⟨hA,aF,a8⟩:=(M.out.idle ((Keep.refl kF wr).alloc _)).op (o:=(tt,(k:Int),z5)) A;have HA:=hD hA;have cd:=hD ((O.out.alloc _).trans aF (fun k hk e=>by omega));have bY:=hD (a8 _ _ (Y.out.alloc _));have cf:=hD (x_b (U.out.alloc _) A.keep (fun b hb q=>x_f M.out.h U.out (by decide) b q hb));clear A hA aF a8))
             go_roundw
             case rel=>exact ⟨m+1,bC.out,rfl,by rw [bl.out];exact HA.out,cf.out,cd.out,bY.out⟩
             case measure=>have:=bC.out;simp [intOf];omega
            ·have c8:((m:Int) < (G.length:Int))=False:=eq_false (by omega);have ca:Hid (c3=lineK c1 tt y (k+1) 0):=hD (by rw [← b8.out,show m=G.length by omega];unfold lineK;rw [ay.out,v_a]);clear aH;go_wp2_with fail
             go_roundw
             case rel=>exact ⟨k+1,bB.out,rfl,by rw [← ca.out];exact M.out,O.out,Y.out⟩
             case measure=>have:=bB.out;simp [intOf];omega
          ·have bf:((k:Int) < 2)=False:=eq_false (by omega);have cz:decide ((k:Int) < 2)=false:=decide_eq_false (by omega);have bj:Hid (k=2):=hD (by omega);clear bq;go_wp2_with fail
           go_roundw
           case rel=>
            have h:=M.out.mono (show l.length+2 * j+1≤l.length+2 * (j+1) by omega);have e:c2=lineS c1 tt y:=(by rw [← aO.out,bj.out,lineK_two]);exact ⟨j+1,b3,ac.out,rfl,by rw [aX.out,HS.out,← e];exact h,O.out⟩
           case measure=>have:=ac.out;simp [intOf];omega
    ·have bV:((j:Int) < (l.length:Int))=False:=eq_false (by omega);have bM:(l.take j).foldl (colS (endsF l)) c00=dayF l:=(by rw [List.take_of_length_le (by omega)];rfl);have HD:Hid (c=dayF l):=hD (hc.symm.trans bM);have C:=aw.out
     have ch:Hid (∀ W,Keep kF wr W→Calls prog 105 #[.slice cQ c.all.length bF,.func (.func 106) #[] #[]] W (IdxPost W (.bool (c.all.any fun t=>decide (6 < t.length))))):=hD fun W hkW=>by
      have bn:=C.idle hkW;have cZ:=x_g bn.tx.row bn.tx.one;rw [← bn.tx.len] at cZ;have hp:PredT W 106 #[] vs (fun k=>decide (6 < (c.all.getD k []).length)):=(by intro W1 bf k x hx;obtain ⟨t,ht,ae⟩:=bn.tx.get hx;obtain ⟨ax,cx,rfl,_⟩:=x_a ae;have hg:c.all.getD k []=t:=(by simp [List.getD,ht]);show Calls prog 106 #[.agg #[.slice ax t.length cx]] W1 (fun e w2=>e = .returned (.bool (decide (6 < (c.all.getD k []).length)))∧Keep kF W1 w2);rw [hg];exact large_any ax t.length cx);have h5:=contT_any cZ (by exact enters106) hp (by rw [bn.tx.len];omega)
      have hq:((idxs vs.length).any fun i=>decide (6 < (c.all.getD i.toNat []).length))=c.all.any fun t=>decide (6 < t.length):=by
       rw [bn.tx.len]
       have e:(idxs c.all.length).map (fun i=>c.all.getD i.toNat [])=c.all:=by
        apply List.ext_getElem
        ·simp [idxs]
        ·intro i h1 h2;simp [idxs,List.getD,h2]
       conv=>rhs;rw [← e,List.any_map]
       rfl
      rw [hq,bn.tx.len] at h5;exact h5
     clear aU bM hc C X;obtain ⟨lg,c7⟩:∃ lg,(c.all.any fun t=>decide (6 < t.length))=lg:=⟨_,rfl⟩;rw [c7] at ch
     have cg:Hid (okC (dayF l)=(!lg && (decide ((c.all.length:Int)≤6) && decide ((c.h.length:Int)≤40)))):=hD (by
      rw [← HD.out];unfold okC;rw [c7];congr 2
      ·exact decide_eq_decide.2 (by omega)
      ·exact decide_eq_decide.2 (by omega))
     clear c7;cases lg
     ·by_cases h6:(c.all.length:Int)≤6
      focus
       have u6:decide ((c.all.length:Int)≤6)=true:=decide_eq_true h6;have cO:Hid (okC (dayF l)=decide ((c.h.length:Int)≤40)):=hD (by rw [cg.out,u6];rfl)
      rotate_left
      focus
       have u6:decide ((c.all.length:Int)≤6)=false:=decide_eq_false h6;have cO:Hid (okC (dayF l)=false):=hD (by rw [cg.out,u6];rfl)
      rotate_left
      all_goals
       clear h6;go_wp2_with (go_at_call 105;refine Calls.mono (ch.out _ (Keep.refl _ _)) ?_;rintro e w5 ⟨rfl,al⟩;have b9:=hD (aw.out.idle al);have b4:=hD (HK.out.trans al n3);clear al)
       go_ret3;exact ⟨_,vs,_,by rw [cO.out];rfl,by rw [← HD.out];exact b9.out.tx,by rw [← HD.out];exact b9.out.h,b4.out⟩
     ·go_wp2_with (go_at_call 105;refine Calls.mono (ch.out _ (Keep.refl _ _)) ?_;rintro e w5 ⟨rfl,al⟩;have b9:=hD (aw.out.idle al);have b4:=hD (HK.out.trans al n3);clear al)
      go_ret3;exact ⟨_,vs,_,by rw [cg.out];rfl,by rw [← HD.out];exact b9.out.tx,by rw [← HD.out];exact b9.out.h,b4.out⟩
def dayBad (l:List CallR):Bool:=decide (12 < l.length) || (l.any badCall || (!okC (dayF l) || !validHB (dayF l).h))
def DayPost (base n:Nat) (w:World) (H:HV) (S:St) (ls:List ByteArray) (l:List CallR) (e:Ending) (w':World):Prop:=
  (dayBad l=true∧e = .returned (.tuple #[.slice none 0 0,.int .i64 2])∧Keep kF w w')∨
  (dayBad l=false∧∃ s' H' S' os ds vo,LRun 0 s0L (dayF l).h s'∧Ok s'∧e = .returned (.tuple #[vo,.int .i64 0])∧Dayed S (linesOf s'.done (dayF l).all) os ds S'∧
    HouseAt base w' H' (gN n (ls++ds)) S' (ls++ds) false∧HChg w H H' w'∧w'.ownsRow w.heap.size 9 1 vo os.length (strCells os)∧∀ k,vo.ownBlock=some k→¬ H'.tp k)
theorem Rep.append {F:Nat→St→FA→Res} {S S1 S2:St} {l m:List ByteArray} (h:Rep F S l S1):Rep F S1 m S2→Rep F S (l++m) S2:=by
 induction h with
 | nil S=>exact id
 | cons h t ih=>exact fun q=>.cons h (ih q)
theorem cat_append (l m:List ByteArray):cat (l++m)=cat l++cat m:=by simp [cat]
theorem good_call {l:List CallR} (h:l.any badCall=false) {c:CallR} (hc:c∈l):(0≤c.1∧c.1≤3)∧(c.2=endB∨∃ so f a,formF c.2=some (so,f,a)):=by
 have hb:badCall c=false:=by
  cases e:badCall c with
  | false=>rfl
  | true=>
   have:l.any badCall=true:=List.any_eq_true.2 ⟨c,hc,e⟩;rw [h] at this;cases this
 unfold badCall at hb;simp only [Bool.or_eq_false_iff,decide_eq_false_iff_not,Bool.and_eq_false_iff,Bool.not_eq_false',decide_eq_true_eq] at hb;refine ⟨⟨by omega,by omega⟩,?_⟩;rcases hb.2.2 with q | q
 ·right;unfold okB at q;split at q
  ·cases q
  ·rename_i so f a e;exact ⟨so,f,a,e⟩
 ·exact .inl q
def txnQ (n:Nat) (o:LOp):Prop:=o.2.1=2→1≤o.1∧o.1≤n
theorem done_txn {l:List CallR} {s':LS} (h:LRun 0 s0L (dayF l).h s'):∀ o∈s'.done,o.2.1=2→1≤o.1∧o.1≤(dayF l).all.length:=by
 have hq:=(Of.run (Q:=txnQ (dayF l).all.length) (fun t e=>by cases e) h (Of.start _) (fun o ho _=>(dayF_inv l).txn o ho)).done;exact fun o ho e=>hq o ho e
theorem rd_row {w:World} {g n cap:Nat} {xs:List Value} (h:Rd w 1 (.slice (some ⟨g,0,none⟩) n cap) n xs) {i:Nat} {u:Value} (hu:xs[i]?=some u):w.cell? ⟨g,i,none⟩=some u:=by
 rcases h.2.2 with ⟨hv,_⟩ | ⟨b,o,c,hv,_,_,hx⟩
 ·cases hv
 ·cases hv;have:=hx i u hu;rwa [Nat.zero_add] at this
theorem dayW_any {base n:Nat} {w:World} {H:HV} {S:St} {g:List Int} {ls:List ByteArray} {l:List CallR} {v:Value} (hG:GW base w) (h:HouseAt base w H (gN n ls) S ls false) (hg:g.length=8) (hrep:Rep runF (S0 g) ls S) (hls:ls.length≤1000) (hr:Rd w 2 v l.length (callsC l)) (hl:l.length≤14) (hsz:∀ c∈l,c.2.size≤9223372036854775807) (hn1:n≤1000000) (hn:dayBad l=false→∀ s',LRun 0 s0L (dayF l).h s'→Ok s'→(cat ls).length+201 * ((linesOf s'.done (dayF l).all).length+1)≤n):Calls prog 36 #[.pointer (some ⟨H.h,0,none⟩),v] w (DayPost base n w H S ls l):=by
 obtain ⟨ao,cf,rfl,_⟩:=hr.shape;have c3:=h.blk.cell 3;simp at c3;have HH:=hD h;have aC:Hid (∀ k,H.tp k→base≤k∧k < w.heap.size):=hD (fun k hk=>⟨h.tp_ge k hk,h.tp_lt k hk⟩);have aU:=hD hG;have b5:=hD hrep;have bV:=hD hg;have b9:=hD hG.size;have bN:=hD hn;have aW:=hD hsz;have HR:=hD hr;have ae:=hD (contC_any hr enters70 (badCall_any hG.glob l hsz) (by omega));clear h hG hrep hg hn hsz hr;by_cases bx:12 < l.length
 ·have u0:decide ((12:Int) < (l.length:Int))=true:=decide_eq_true (by omega);have HB:Hid (dayBad l=true):=hD (by unfold dayBad;rw [decide_eq_true bx];rfl);clear bx;go_enter func36,ntmps36
  go_wp2_with (first
    | (go_at_call 52;refine (y_d HH.out).mono ?_;rintro e w' ⟨rfl,rfl⟩))
  go_ret2;exact .inl ⟨HB.out,rfl,Keep.refl _ _⟩
 ·have u0:decide ((12:Int) < (l.length:Int))=false:=decide_eq_false (by omega);have bH:l.length≤12:=(by omega);have aq:Hid (decide (12 < l.length)=false):=hD (decide_eq_false bx);clear bx;cases ah:l.any badCall
  ·have J:=hD ah
   have am:Hid (∀ W,Keep kF w W→Calls prog 72 #[.slice ao l.length cf] W (ColPost W l)):=hD fun W hk=>
    collect_any (aU.out.glob.keep hk) (HR.out.keep hk n3) bH (fun c hc=>⟨(good_call J.out hc).1,aW.out c hc,(good_call J.out hc).2⟩)
   clear ah;have cz:=(dayF_inv l).h;have cj:=(dayF_inv l).len;cases X:okC (dayF l)
   ·have ar:=hD X;have HB:Hid (dayBad l=true):=hD (by unfold dayBad;rw [aq.out,J.out,X];rfl);clear X;go_enter func36,ntmps36
    go_wp2_with (first
      | (go_at_call 52;refine (y_d HH.out).mono ?_;rintro e w' ⟨rfl,rfl⟩)
      | (go_at_call 69;refine Calls.mono ae.out ?_;rintro e w1 ⟨rfl,ad⟩;rw [J.out];have ag:=hD ad;clear ad)
      | (go_at_call 72;refine Calls.mono (am.out _ ag.out) ?_;rintro e w2 ⟨va,vs,vh,rfl,ak,aj,Y⟩;obtain ⟨aE,aF,rfl,_⟩:=x_a ak.row;obtain ⟨bP,aY,rfl,_⟩:=x_a aj;rw [ar.out];have aD:=hD ak;have br:=hD aj;have aM:=hD (ag.out.trans Y n3);clear ak aj Y))
    go_ret2;exact .inl ⟨HB.out,rfl,aM.out⟩
   ·have ar:=hD X;cases aS:validHB (dayF l).h
    ·have b8:=hD aS;have HB:Hid (dayBad l=true):=hD (by unfold dayBad;rw [aq.out,J.out,X,aS];rfl);clear X aS;go_enter func36,ntmps36
     go_wp2_with (first
       | (go_at_call 52;refine (y_d HH.out).mono ?_;rintro e w' ⟨rfl,rfl⟩)
       | (go_at_call 69;refine Calls.mono ae.out ?_;rintro e w1 ⟨rfl,ad⟩;rw [J.out];have ag:=hD ad;clear ad)
       | (go_at_call 72;refine Calls.mono (am.out _ ag.out) ?_;rintro e w2 ⟨va,vs,vh,rfl,ak,aj,Y⟩;obtain ⟨aE,aF,rfl,_⟩:=x_a ak.row;obtain ⟨bP,aY,rfl,_⟩:=x_a aj;rw [ar.out];have aD:=hD ak;have br:=hD aj;have aM:=hD (ag.out.trans Y n3);clear ak aj Y)
       | (go_at_call 73;refine Calls.mono (lock_any (x_g br.out (opsC_one _)) (by omega)) ?_;rintro e w3 ⟨aP,bg⟩;obtain ⟨_,rfl⟩:=bg.resolve_right (fun q=>by rw [b8.out] at q;cases q.1);have an:=hD (aM.out.trans aP n3);clear aP bg))
     go_ret2;exact .inl ⟨HB.out,rfl,an.out⟩
    ·have b8:=hD aS;have HB:Hid (dayBad l=false):=hD (by unfold dayBad;rw [aq.out,J.out,X,aS];rfl);clear X aS;go_enter func36,ntmps36
     go_wp2_with (first
       | (go_at_call 52;refine (y_d HH.out).mono ?_;rintro e w' ⟨rfl,rfl⟩)
       | (go_at_call 69;refine Calls.mono ae.out ?_;rintro e w1 ⟨rfl,ad⟩;rw [J.out];have ag:=hD ad;clear ad)
       | (go_at_call 72;refine Calls.mono (am.out _ ag.out) ?_;rintro e w2 ⟨va,vs,vh,rfl,ak,aj,Y⟩;obtain ⟨aE,aF,rfl,_⟩:=x_a ak.row;obtain ⟨bP,aY,rfl,_⟩:=x_a aj;rw [ar.out];have aD:=hD ak;have br:=hD aj;have aM:=hD (ag.out.trans Y n3);clear ak aj Y)
       | (go_at_call 73;refine Calls.mono (lock_any (x_g br.out (opsC_one _)) (by omega)) ?_;rintro e w3 ⟨aP,bg⟩;obtain ⟨_,s',vd,cF,rfl,bi,bh,bJ⟩:=bg.resolve_left (fun q=>by rw [b8.out] at q;cases q.1);obtain ⟨cb,bC,rfl,_⟩:=x_a bJ;have a8:=hD bi;have a7:=hD bh;have bq:=hD bJ;have b3:=hD aP;have an:=hD (aM.out.trans aP n3);clear aP bg bi bh bJ))
     obtain ⟨done,aa⟩:∃ done,s'.done=done:=⟨_,rfl⟩;have cy:done.length≤1000:=(by have:=a7.out.tot;unfold tot at this;rw [← aa];omega);obtain ⟨all,aG⟩:∃ all,(dayF l).all=all:=⟨_,rfl⟩;have bz:=done_txn a8.out;have aK:=bN.out HB.out s' a8.out a7.out;have bM:=hD (dayF_inv l).each;rw [aa] at bq bz aK ⊢;rw [aG] at aD bz aK bM cj ⊢;have bT:=hD bz;have bS:=hD aa;have bR:=hD aG;obtain ⟨ac,aJ⟩:∃ ac,(linesOf done all).length=ac:=⟨_,rfl⟩;rw [aJ] at aK;have ca:=hD aJ
     have bO:Hid (∀ wx,Keep H.tp w3 wx→Rd wx 3 (.slice cb done.length bC) done.length (opsC done)∧Rd wx 1 (.slice aE all.length aF) all.length vs∧∀ (i:Nat) vi ti,vs[i]?=some vi→all[i]?=some ti→Rd wx 1 vi ti.length (strCells ti)):=hD fun wx kx=>by
      have cD:=ag.out.size;have cE:=aM.out.size;have bj:=aD.out.keep b3.out n3 (fun _ _ _ _ _ e=>e);refine ⟨(x_g bq.out (opsC_one _)).keep kx (fun k hk e=>?_),(x_g bj.row bj.one).keep kx (fun k hk e=>?_),fun i vi ti hv ht=>(x_g (bj.own i vi ti hv ht) (x_p ti)).keep kx (fun k hk e=>?_)⟩
      ·have:=(x_d bq.out k hk).1;have:=(aC.out k e).2;omega
      ·have:=(x_d bj.row k hk).1;have:=(aC.out k e).2;omega
      ·have:=(x_d (bj.own i vi ti hv ht) k hk).1;have:=(aC.out k e).2;omega
     have bX:=hD aD.out.len;have aI:=x_a aD.out.row;have b4:Hid (aE=none→all.length=0):=hD (by obtain ⟨a2,c2,hv,_,_,hz,_⟩:=aI;cases hv;exact fun e=>(hz e).1);have bZ:Hid (∀ a,aE=some a→a.off=0∧a.spot=none):=hD (by obtain ⟨a2,c2,hv,_,_,_,hz⟩:=aI;cases hv;exact fun a e=>⟨(hz a e).1,(hz a e).2.1⟩);have aw:=hD (DayAt.start (n:=n) (HH.out.idle an.out));have bp:Hid (Keep H.tp w w3):=hD (an.out.mono (fun _ _ e=>e.elim));clear aI aa aG bz aJ aD bq bN HR ae am c3;go_loopw [55,13] (fun s55 s13 wx=>∃ (i:Nat) (H':HV) (S':St) (os ds:List ByteArray),i≤done.length∧s55 = .int .i64 i∧DayAt base n w3 H S ls (linesOf (done.take i) all) s13 H' S' os ds wx) (fun v _ _=>done.length - (intOf v).toNat)
     case atStart=>exact ⟨0,H,S,[],[],Nat.zero_le _,rfl,aw.out⟩
     case round=>
      clear aw;obtain ⟨i,H',S',os,ds,hi,rfl,M⟩:=hrel;obtain ⟨ce,bD,rfl,_⟩:=x_a M.out;have al:=bO.out wr M.chg.keep;have C:=hD M;clear M;by_cases av:i < done.length
      ·obtain ⟨gd,od,cd,p,cv,hp,e0,e1,e2⟩:=rd_op al.1 av;obtain ⟨txn,kind,bl⟩:=p;injection cv with q1 q2 q3;subst q1;have ck:((i:Int) < (done.length:Int))=True:=eq_true (by omega);have c6:((0:Int)≤(i:Int))=True:=eq_true (by omega);have cB:IntKind.i64.wrap ((i:Int)+1)=((i+1:Nat):Int):=(by rw [show ((i:Int)+1)=((i+1:Nat):Int) by omega];exact IntWalk.i64_in _ (by omega));have f0:wr.cell? ⟨gd,od+i * 3,none⟩=some (.int .i64 txn):=(by rw [Nat.mul_comm i 3];exact e0);have f1:wr.cell? ⟨gd,od+i * 3+1,none⟩=some (.int .i64 kind):=(by rw [Nat.mul_comm i 3,Nat.add_assoc];exact e1);have f2:wr.cell? ⟨gd,od+i * 3+2,none⟩=some (.int .i64 bl):=(by rw [Nat.mul_comm i 3,Nat.add_assoc];exact e2);have au:linesOf (done.take (i+1)) all=linesOf (done.take i) all++(if kind=2 then all.getD (txn - 1).toNat [] else []):=(by rw [List.take_add_one,hp];exact linesOf_snoc _ (txn,kind,bl) _);have bn:=hD av;have bG:=bT.out _ (List.mem_of_getElem? hp);clear q2 q3 e0 e1 e2 av hp;by_cases Y:kind=2
       ·have z2:(kind != 2)=false:=(by simp [Y]);rw [if_pos Y] at au;have bf:=bG Y;simp only at bf;obtain ⟨t,ht⟩:∃ t:Nat,txn=(t:Int)+1:=⟨(txn - 1).toNat,by omega⟩;have aJ:t < all.length:=(by omega);rw [show (txn - 1).toNat=t by omega] at au;obtain ⟨ti,bk⟩:∃ ti,all[t]?=some ti:=⟨_,List.getElem?_eq_getElem aJ⟩;obtain ⟨vi,b1⟩:∃ vi,vs[t]?=some vi:=⟨_,List.getElem?_eq_getElem (by rw [bX.out];exact aJ)⟩;rw [show all.getD t []=ti by simp [List.getD,bk]] at au
        obtain ⟨ga,ci⟩:∃ ga,aE=some ⟨ga,0,none⟩:=by
         have h1:=b4.out;have h2:=bZ.out;rcases aE with _ | ⟨a,b,s⟩
         ·have:=h1 rfl;omega
         ·have:=h2 _ rfl;simp only at this;obtain ⟨rfl,rfl⟩:=this;exact ⟨a,rfl⟩
        subst ci;obtain ⟨bB,aZ,cu,_⟩:=(al.2.2 t vi ti b1 bk).shape;subst cu;have bA:=rd_row al.2.1 b1;have a0:∀ A,(wr.alloc A).cell? ⟨ga,t,none⟩=some (.slice bB ti.length aZ):=fun A=>(((Keep.refl kF wr).alloc A).cell (p:=⟨ga,t,none⟩) (World.block_lt_of_cell? _ _ bA) (fun e=>e)).trans bA;clear bA;have b6:Hid (∀ wx,Keep H.tp w3 wx→Rd wx 1 (.slice bB ti.length aZ) ti.length (strCells ti)):=hD fun wx kx=>(bO.out wx kx).2.2 t _ ti b1 bk;have bQ:=bM.out ti (List.mem_of_getElem? bk);have cr:ti.length≤12:=(by omega);have bU:=hD bQ.2;have a6:=hD au;have bF:(linesOf (done.take i) all).length+ti.length≤ac:=(by have h1:=linesOf_take_le done all (i+1);rw [au,ca.out,List.length_append] at h1;exact h1);have cq:IntKind.i64.wrap (txn - 1)=(t:Int):=(by rw [show txn - 1=(t:Int) by omega];exact u_y (by omega));have c8:((0:Int)≤(t:Int))=True:=eq_true (by omega);have cA:((t:Int) < (all.length:Int))=True:=eq_true (by omega);clear Y bG bf au bk b1 al bQ aJ ht;go_wp2_with fail
        go_loopw [70,13] (fun s70 s13 wx=>∃ (k:Nat) (H':HV) (S':St) (os ds:List ByteArray),k≤ti.length∧s70 = .int .i64 k∧DayAt base n w3 H S ls (linesOf (done.take i) all++ti.take k) s13 H' S' os ds wx) (fun v _ _=>ti.length - (intOf v).toNat)
        case atStart=>exact ⟨0,H',S',os,ds,Nat.zero_le _,rfl,by rw [List.take_zero,List.append_nil];exact C.out.idle ((Keep.refl _ _).alloc _)⟩
        case round=>
         clear C f0 f1 f2 a0;obtain ⟨k,H',S',os,ds,hk,rfl,M⟩:=hrel;obtain ⟨ce,bD,rfl,_⟩:=x_a M.out;have al:=b6.out wr M.chg.keep;have C:=hD M;clear M;by_cases aQ:k < ti.length
         ·have ad:((k:Int) < (ti.length:Int))=True:=eq_true (by omega);have c7:((0:Int)≤(k:Int))=True:=eq_true (by omega);have cC:IntKind.i64.wrap ((k:Int)+1)=((k+1:Nat):Int):=by rw [show ((k:Int)+1)=((k+1:Nat):Int) by omega];exact IntWalk.i64_in _ (by omega)
          obtain ⟨b,o,cg,ba⟩:∃ b o,bB=some ⟨b,o,none⟩∧wr.cell? ⟨b,o+k,none⟩=some (.string (ti.getD k ByteArray.empty)):=by
           rcases al.2.2 with ⟨h,h'⟩ | ⟨b,o,c,h,_,_,hx⟩
           ·omega
           ·injection h with h1 h2 h3;exact ⟨b,o,h1,hx _ _ (y_c ti k aQ)⟩
          subst cg;have aH:ti.getD k ByteArray.empty∈ti:=(by simp [List.getD,List.getElem?_eq_getElem aQ]);have aB:Hid (ti.take (k+1)=ti.take k++[ti.getD k ByteArray.empty]):=hD (by rw [List.take_add_one];simp [List.getD,List.getElem?_eq_getElem aQ]);obtain ⟨s,hs⟩:∃ s,ti.getD k ByteArray.empty=s:=⟨_,rfl⟩;rw [hs] at ba aH aB;have bt:Hid (s.size≤9223372036854775807):=hD (by obtain ⟨x,hx,cw⟩:=bU.out s aH;rw [← cw];exact aW.out x hx);have b7:Hid (linesOf (done.take i) all++ti.take (k+1)=(linesOf (done.take i) all++ti.take k)++[s]):=hD (by rw [aB.out,List.append_assoc]);have bK:=C.out.dayed.sub;have bI:(linesOf (done.take i) all++ti.take k).length=(linesOf (done.take i) all).length+k:=(by rw [List.length_append,List.length_take];omega);have cp:os.length≤1000000:=(by rw [bK.2.1,bI];omega);have ch:ds.length+1≤ac:=(by have:=bK.2.2;rw [bI] at this;omega);have bE:(cat (ls++ds)).length+201≤n:=(by have:=y_r C.out.dayed.rep;rw [cat_append,List.length_append];omega);have cn:(ls++ds).length≤1000000:=(by rw [List.length_append];omega);have ax:Hid (Inv (ls++ds).length S'):=hD (rep_inv bV.out (b5.out.append C.out.dayed.rep));have G:=v_e (S:=S') bE s;have ai:=doF_err S' s;obtain ⟨R,hR⟩:∃ R,doF runF S' s=R:=⟨_,rfl⟩;rw [hR] at G ai;have aO:=hD hR;obtain ⟨re,rs,ro⟩:=R;have aN:=hD aQ;clear aQ hs aH aB al bK bI hR;simp only at ai;by_cases he:re=0
          ·subst he;rw [if_pos rfl] at G;have bu:=hD G;clear G ai
           go_wp2_with (first
             | (go_at_call 20;have hh:=hdo_any (F:=runF) (aU.out.keep (bp.out.trans C.out.chg.keep n3) (fun q hq e=>by have:=aC.out q e;omega)).glob (Nat.le_trans b9.out (Nat.le_trans an.out.size C.out.chg.keep.size)) C.out.at_ (ax.out.small (by omega)) (by omega) bt.out (run_ok ax.out (by omega) s);rw [bu.out,C.out.chg.h] at hh;refine Calls.mono hh ?_;clear hh;rintro e w5 ⟨H2,rfl,az,Z⟩;have aL:=hD az;have aT:=hD Z;have O:=hD (C.out.mid Z);have aA:=hD (Nat.le_trans C.out.chg.keep.size Z.keep.size);clear az Z)
             | (at_builtin;refine x_h (w:=w5.alloc (.cells #[.string ro] 9)) rfl (.tmp 97) (.tmp 99) 44 44 rfl 9 (.string ⟨#[]⟩) 1 16 underlying44 y_t rfl (O.out.1.alloc _) rfl (Src.new (P:=prog) underlying44 w5 1 [.string ro] 9 rfl (by simp [Value.oneCell'])) rfl (by unfold maxLen;omega) (by omega) (Nat.le_trans aA.out (by simp)) ?_;intro v' wa U;have HA:=hD U;clear U))
           go_roundw
           case rel=>
            have hz:(doF runF S' s).err=0:=(by rw [aO.out]);have a1:Keep kF w5 (w5.alloc (.cells #[.string ro] 9)):=(Keep.refl _ _).alloc _;have hd:=C.out.ok (s:=s) hz (aT.out.trans (HChg.idle H2 a1)) (by rw [aO.out];exact aL.out.idle a1) (by rw [aO.out];exact HA.out);rw [aO.out] at hd;exact ⟨k+1,H2,rs,os++[ro],ds++[s],aN.out,rfl,by rw [b7.out];exact hd⟩
           case measure=>have:=aN.out;simp [intOf];omega
          ·rw [if_neg he] at G;have bu:=hD G;have cG:(re == 10)=false:=(by simp [ai]);have z0:(re != 0)=true:=(by simp [he]);have aV:Hid ((doF runF S' s).err≠0):=hD (by rw [aO.out];exact he);have bY:Hid (((doF runF S' s).err != 0)=true):=hD (by rw [aO.out];exact z0);clear G ai;by_cases h9:re=9
           ·have z9:(re == 9)=true:=(by simp [h9]);clear h9 he
            go_wp2_with (first
              | (go_at_call 20;have hh:=hdo_any (F:=runF) (aU.out.keep (bp.out.trans C.out.chg.keep n3) (fun q hq e=>by have:=aC.out q e;omega)).glob (Nat.le_trans b9.out (Nat.le_trans an.out.size C.out.chg.keep.size)) C.out.at_ (ax.out.small (by omega)) (by omega) bt.out (run_ok ax.out (by omega) s);rw [bu.out,C.out.chg.h] at hh;refine Calls.mono hh ?_;clear hh;rintro e w5 ⟨H2,rfl,az,Z⟩;have aL:=hD az;have aT:=hD Z;have O:=hD (C.out.mid Z);have aA:=hD (Nat.le_trans C.out.chg.keep.size Z.keep.size);clear az Z)
              | (go_at_call 74;have hh:=full_any (F:=runF) (aU.out.keep (bp.out.trans O.out.2.2.keep n3) (fun q hq e=>by have:=aC.out q e;omega)).glob aL.out (ax.out.small (by omega)) bt.out (run_ok ax.out (by omega) s);rw [O.out.2.2.h,bY.out] at hh;refine Calls.mono hh ?_;clear hh;rintro e w6 ⟨rfl,b0⟩;have bW:=hD (aL.out.idle b0);have bL:=hD (aT.out.trans (HChg.idle H2 b0));have ay:=hD (C.out.mid bL.out);have O:=ay;have aX:=hD (Nat.le_trans aA.out b0.size);have aA:=aX;clear b0 ay aX)
              | (at_builtin;refine x_h (w:=w6.alloc (.cells #[.string ⟨#[33]⟩] 9)) rfl (.tmp 97) (.tmp 99) 44 44 rfl 9 (.string ⟨#[]⟩) 1 16 underlying44 y_t rfl (O.out.1.alloc _) rfl (Src.new (P:=prog) underlying44 w6 1 [.string ⟨#[33]⟩] 9 rfl (by simp [Value.oneCell'])) rfl (by unfold maxLen;omega) (by omega) (Nat.le_trans aA.out (by simp)) ?_;intro v' wa U;have HA:=hD U;clear U))
            go_roundw
            case rel=>
             have a1:Keep kF w6 (w6.alloc (.cells #[.string ⟨#[33]⟩] 9)):=(Keep.refl _ _).alloc _;exact ⟨k+1,H2,S',os++[bang],ds,aN.out,rfl,by rw [b7.out];exact C.out.bad aV.out (bL.out.trans (HChg.idle H2 a1)) (bW.out.idle a1) HA.out⟩
            case measure=>have:=aN.out;simp [intOf];omega
           ·have z9:(re == 9)=false:=(by simp [h9]);clear h9 he
            go_wp2_with (first
              | (go_at_call 20;have hh:=hdo_any (F:=runF) (aU.out.keep (bp.out.trans C.out.chg.keep n3) (fun q hq e=>by have:=aC.out q e;omega)).glob (Nat.le_trans b9.out (Nat.le_trans an.out.size C.out.chg.keep.size)) C.out.at_ (ax.out.small (by omega)) (by omega) bt.out (run_ok ax.out (by omega) s);rw [bu.out,C.out.chg.h] at hh;refine Calls.mono hh ?_;clear hh;rintro e w5 ⟨H2,rfl,az,Z⟩;have aL:=hD az;have aT:=hD Z;have O:=hD (C.out.mid Z);have aA:=hD (Nat.le_trans C.out.chg.keep.size Z.keep.size);clear az Z)
              | (at_builtin;refine x_h (w:=w5.alloc (.cells #[.string ⟨#[33]⟩] 9)) rfl (.tmp 97) (.tmp 99) 44 44 rfl 9 (.string ⟨#[]⟩) 1 16 underlying44 y_t rfl (O.out.1.alloc _) rfl (Src.new (P:=prog) underlying44 w5 1 [.string ⟨#[33]⟩] 9 rfl (by simp [Value.oneCell'])) rfl (by unfold maxLen;omega) (by omega) (Nat.le_trans aA.out (by simp)) ?_;intro v' wa U;have HA:=hD U;clear U))
            go_roundw
            case rel=>
             have a1:Keep kF w5 (w5.alloc (.cells #[.string ⟨#[33]⟩] 9)):=(Keep.refl _ _).alloc _;exact ⟨k+1,H2,S',os++[bang],ds,aN.out,rfl,by rw [b7.out];exact C.out.bad aV.out (aT.out.trans (HChg.idle H2 a1)) (aL.out.idle a1) HA.out⟩
            case measure=>have:=aN.out;simp [intOf];omega
         ·have ad:((k:Int) < (ti.length:Int))=False:=eq_false (by omega);have b2:Hid (linesOf (done.take i) all++ti.take k=linesOf (done.take (i+1)) all):=hD (by rw [a6.out,(List.take_of_length_le (by omega):ti.take k=ti)]);clear aQ al;go_wp2_with fail
          go_roundw
          case rel=>exact ⟨i+1,H',S',os,ds,bn.out,rfl,by rw [← b2.out];exact C.out⟩
          case measure=>have:=bn.out;simp [intOf];omega
       ·have z2:(kind != 2)=true:=(by simpa using Y);rw [if_neg Y,List.append_nil] at au;have a6:=hD au;clear Y au bG al;go_wp2_with fail
        go_roundw
        case rel=>exact ⟨i+1,H',S',os,ds,bn.out,rfl,by rw [a6.out];exact C.out.idle ((Keep.refl _ _).alloc _)⟩
        case measure=>have:=bn.out;simp [intOf];omega
      ·have ck:((i:Int) < (done.length:Int))=False:=eq_false (by omega);have b2:Hid (linesOf (done.take i) all=linesOf done all):=hD (by rw [List.take_of_length_le (by omega)]);clear av al;go_wp2_with fail
       go_ret2;have hd:=C.out;rw [b2.out] at hd;have cx:=an.out.size;refine .inr ⟨HB.out,s',H',S',os,ds,_,a8.out,a7.out,rfl,by rw [bS.out,bR.out];exact hd.dayed,hd.at_,(HChg.idle H an.out).trans hd.chg,x_i hd.out cx,fun k hk=>(hd.ap k hk).1⟩
  ·have J:=hD ah;have HB:Hid (dayBad l=true):=hD (by unfold dayBad;rw [aq.out,ah];rfl);clear ah;go_enter func36,ntmps36
   go_wp2_with (first
     | (go_at_call 52;refine (y_d HH.out).mono ?_;rintro e w' ⟨rfl,rfl⟩)
     | (go_at_call 69;refine Calls.mono ae.out ?_;rintro e w1 ⟨rfl,ad⟩;rw [J.out];have ag:=hD ad;clear ad))
   go_ret2;exact .inl ⟨HB.out,rfl,ag.out⟩
end Go.Proofs.YthdkamnclbfehaaGreatDoor
namespace Go.Proofs.YthdkamnclbfehaaGreatDoor
open Go.RowKit
def cm (l:List LOp):Nat:=(l.filter fun o=>decide (o.2.1=2)).length
theorem z_l (l m:List LOp):cm (l++m)=cm l+cm m:=by unfold cm;rw [List.filter_append,List.length_append]
theorem cm_one (o:LOp) (h:o.2.1≠2):cm [o]=0:=by unfold cm;simp [h]
theorem cm_cons (o:LOp) (l:List LOp):cm (o::l)=cm [o]+cm l:=z_l [o] l
def cmW (l:List (LOp × Int)):Nat:=cm (l.map Prod.fst)
theorem cmW_append (l m:List (LOp × Int)):cmW (l++m)=cmW l+cmW m:=by unfold cmW;rw [List.map_append,z_l]
theorem cmW_cons (p:LOp × Int) (l:List (LOp × Int)):cmW (p::l)=cm [p.1]+cmW l:=cm_cons p.1 (l.map Prod.fst)
def totC (s:LS):Nat:=cm s.done+cmW (s.wt 1)+cmW (s.wt 2)+cmW (s.wt 3)+cmW (s.wt 4)+cmW (s.wt 5)+cmW (s.wt 6)
theorem totC_upd (d:List LOp) (wt:Int→List (LOp × Int)) (s:LS) {x:Int} (hx:1≤x∧x≤6) (l:List (LOp × Int)) (h:wt=updW s.wt x l) (n:Nat) (h2:cm d+cmW l≤cm s.done+cmW (s.wt x)+n) (ab:List Int) (ex:Nat→Int) (sh:Nat→Int→Bool):totC {done:=d,ab:=ab,ex:=ex,sh:=sh,wt:=wt}≤totC s+n:=by
 have:x=1∨x=2∨x=3∨x=4∨x=5∨x=6:=(by omega);subst h;unfold totC updW;rcases this with rfl | rfl | rfl | rfl | rfl | rfl <;> simp <;> omega
theorem totC_do {s:LS} {t at_:Int} {o:LOp} {rest:List (LOp × Int)} (ht:1≤t∧t≤6) (e:s.wt t=(o,at_)::rest):totC (doS s t o rest)≤totC s:=
  totC_upd (s.done++[o]) (updW s.wt t rest) s ht rest rfl 0 (by rw [e,z_l,cmW_cons];dsimp only;omega) _ _ _
theorem totC_abort {s:LS} {t:Int} {p:LOp × Int} {rest:List (LOp × Int)} (ht:1≤t∧t≤6):totC (abortS s t)≤totC s:=
  totC_upd (s.done++[(t,3,0)]) (updW s.wt t []) s ht [] rfl 0 (by rw [z_l,cm_one (t,3,0) (show (3:Int)≠2 by decide)];show _+0≤_;omega) _ _ _
theorem goOnS_totC:∀ (n:Nat) (s:LS) (t:Int),1≤t∧t≤6→totC (goOnS n s t).1≤totC s:=by
 intro n;induction n with
 | zero=>intro s t _;exact Nat.le_refl _
 | succ n ih=>
  intro s t ht;cases e:s.wt t with
  | nil=>rw [y_e e];exact Nat.le_refl _
  | cons p rest=>
   obtain ⟨o,a⟩:=p;by_cases hh:Hdd s o
   ·by_cases hr:Reach s t t
    ·rw [x_x e hh hr];exact totC_abort (p:=(o,a)) (rest:=rest) ht
    ·rw [y_b e hh hr];exact Nat.le_refl _
   ·rw [y_g e hh];exact Nat.le_trans (ih _ t ht) (totC_do ht e)
theorem RetryR.totC {s s':LS} (h:RetryR s s') (hok:Ok s):Go.Proofs.YthdkamnclbfehaaGreatDoor.totC s'≤Go.Proofs.YthdkamnclbfehaaGreatDoor.totC s:=by
 induction h with
 | stop _=>exact Nat.le_refl _
 | go hr _ _ ih=>
  obtain ⟨o,rest,e,_⟩:=hr;obtain ⟨h1,h2,_⟩:=hok.keys e;exact Nat.le_trans (ih (y_l hok _)) (goOnS_totC _ _ _ ⟨h1,h2⟩)
theorem enq_totC {s:LS} {o:LOp} (ho:OpOK o) (i:Int):totC (enq s o i)≤totC s+cm [o]:=
  totC_upd s.done (updW s.wt o.1 (s.wt o.1++[(o,i)])) s ⟨ho.1,ho.2.1⟩ _ rfl _ (by rw [cmW_append,cmW_cons];show _+(_+(_+0))≤_;dsimp only;omega) _ _ _
theorem LStep.totC {s s':LS} {o:LOp} {i:Int} (h:LStep s o i s') (hok:Ok s) (ho:OpOK o) (ht:tot s≤99):Go.Proofs.YthdkamnclbfehaaGreatDoor.totC s'≤Go.Proofs.YthdkamnclbfehaaGreatDoor.totC s+cm [o]:=by
 obtain ⟨h1,h2⟩:=hok.enq ho i ht;have hx:1≤o.1∧o.1≤6:=⟨ho.1,ho.2.1⟩;have h3:=enq_totC (s:=s) ho i;cases h with
 | gone _=>omega
 | wait _ _=>exact h3
 | go _ _ _=>exact Nat.le_trans (goOnS_totC _ _ _ hx) h3
 | re _ _ _ hr=>exact Nat.le_trans (hr.totC (y_l h1 _)) (Nat.le_trans (goOnS_totC _ _ _ hx) h3)
theorem LRun.totC {i:Nat} {s s':LS} {l:List LOp} (h:LRun i s l s'):Ok s→(∀ o∈l,OpOK o)→tot s+l.length≤100→Go.Proofs.YthdkamnclbfehaaGreatDoor.totC s'≤Go.Proofs.YthdkamnclbfehaaGreatDoor.totC s+cm l:=by
 induction h with
 | nil=>intro _ _ _;exact Nat.le_add_right _ _
 | @cons i s s1 s2 o l h1 _ ih=>
  intro C ho ht;rw [List.length_cons] at ht;have A:=ho o List.mem_cons_self;obtain ⟨a,b⟩:=h1.ok C A (by omega);have h2:=h1.totC C A (by omega);have h3:=ih a (fun p hp=>ho p (List.mem_cons_of_mem _ hp)) (by omega);rw [cm_cons];omega
theorem linesOf_cm {all:List (List ByteArray)} {m:Nat} (hm:∀ t∈all,t.length≤m):∀ done:List LOp,(linesOf done all).length≤cm done * m
  | []=>by simp [linesOf]
  | o::l=>by
    have ih:=linesOf_cm hm l
    have e:linesOf (o::l) all=(if o.2.1=2 then all.getD (o.1 - 1).toNat [] else [])++linesOf l all:=rfl
    rw [e,List.length_append,cm_cons,Nat.add_mul]
    by_cases h2:o.2.1=2
    · rw [if_pos h2]
      have h1:(all.getD (o.1 - 1).toNat []).length≤m:=by
        rcases v_d all (o.1 - 1).toNat with e | e
        · rw [e];exact Nat.zero_le _
        · exact hm _ e
      have hc:cm [o]=1:=by unfold cm;simp [h2]
      rw [hc];omega
    · rw [if_neg h2,cm_one o h2]
      simp;exact ih
structure LInv (c:CS) (j:Nat):Prop where
  all:∀ t∈c.all,t.length+cm c.h≤j
  h:cm c.h≤j
theorem LInv.next {c c':CS} {j:Nat} (h:LInv c j) (h1:c'.all=c.all) (h2:c'.h=c.h):LInv c' (j+1):=
  ⟨fun t ht=>by rw [h1] at ht;rw [h2];have:=h.all t ht;omega,by rw [h2];have:=h.h;omega⟩
theorem LInv.step {c:CS} {j:Nat} (h:LInv c j) (ends:Int→Int) (x:CallR):LInv (colS ends c x) (j+1):=by
 unfold colS;split
 ·exact h.next rfl rfl
 ·split
  ·exact h.next rfl rfl
  ·split
   ·have hc:cm (endCS c x.1 (c.cur x.1)).h=cm c.h+1:=(by show cm (c.h++[(c.cur x.1,2,0)])=_;rw [z_l];rfl);refine ⟨fun t ht=>?_,by rw [hc];have:=h.h;omega⟩;have:=h.all t ht;rw [hc];omega
   ·have hn:∀ t∈(newS c x.1).all,t.length+cm c.h≤j:=fun t ht=>by
     unfold newS at ht;split at ht
     ·rcases List.mem_append.1 ht with q | q
      ·exact h.all t q
      ·simp at q;rw [q];have:=h.h;simp;exact this
     ·exact h.all t ht
    have hh:(newS c x.1).h=c.h:=(by unfold newS;split <;> rfl);obtain ⟨c1,A⟩:∃ c1,newS c x.1=c1:=⟨_,rfl⟩;rw [A] at hn hh ⊢;have hz:∀ (k:Int) (l:List Int),k≠2→cm (l.map (fun i=>(c1.cur x.1,k,i)))=0:=fun k l hk=>(by unfold cm;rw [List.length_eq_zero_iff,List.filter_eq_nil_iff];intro o ho;obtain ⟨i,_,rfl⟩:=List.mem_map.1 ho;simpa using hk);have hc:cm (lineS c1 (c1.cur x.1) x.2).h=cm c.h:=(by show cm (c1.h++_++_)=_;rw [z_l,z_l,hz 0 _ (by decide),hz 1 _ (by decide),hh];rfl);refine ⟨fun t ht=>?_,by rw [hc];have:=h.h;omega⟩;rw [hc];rcases List.mem_or_eq_of_mem_set ht with q | q
    ·have:=hn t q;omega
    ·rw [q,List.length_append,List.length_singleton];rcases v_d c1.all (c1.cur x.1 - 1).toNat with e | e
     ·rw [e];have:=h.h;simp;omega
     ·have:=hn _ e;omega
theorem linv_fold (ends:Int→Int):∀ (p:List CallR) (c:CS) (j:Nat),LInv c j→LInv (p.foldl (colS ends) c) (j+p.length)
  | [],c,j,h=>h
  | x::p,c,j,h=>by
    have:=linv_fold ends p _ (j+1) (h.step ends x)
    rw [List.length_cons,show j+(p.length+1)=j+1+p.length by omega]
    exact this
theorem linv_start:LInv c00 0:=⟨fun t h=>(by cases h),Nat.le_refl _⟩
theorem dayF_linv (l:List CallR):LInv (dayF l) l.length:=by
 have:=linv_fold (endsF l) l c00 0 linv_start;rwa [Nat.zero_add] at this
theorem twelve {a:Nat} (h:a≤12):a * (12 - a)≤36:=by
 have:a=0∨a=1∨a=2∨a=3∨a=4∨a=5∨a=6∨a=7∨a=8∨a=9∨a=10∨a=11∨a=12:=(by omega);rcases this with rfl | rfl | rfl | rfl | rfl | rfl | rfl | rfl | rfl | rfl | rfl | rfl | rfl <;> decide
theorem day_lines {l:List CallR} (hb:dayBad l=false) {s':LS} (hr:LRun 0 s0L (dayF l).h s'):(linesOf s'.done (dayF l).all).length≤36:=by
 unfold dayBad at hb;simp only [Bool.or_eq_false_iff,Bool.not_eq_false',decide_eq_false_iff_not] at hb;obtain ⟨C,_,_,hv⟩:=hb;unfold validHB at hv;simp only [Bool.and_eq_true,decide_eq_true_eq] at hv;have A:=validL_ok _ _ hv.2;have ht:=hr.totC ok_s0.1 A (by rw [ok_s0.2];omega);have h0:totC s0L=0:=rfl;have hd:cm s'.done≤totC s':=(by unfold totC;omega);have hi:=dayF_linv l;have hc:cm s'.done≤cm (dayF l).h:=(by omega);have h1:=linesOf_cm (all:=(dayF l).all) (m:=12 - cm (dayF l).h) (fun t ht=>by have:=hi.all t ht;omega) s'.done;have h2:cm s'.done * (12 - cm (dayF l).h)≤cm (dayF l).h * (12 - cm (dayF l).h):=Nat.mul_le_mul_right _ hc;have h3:=twelve (a:=cm (dayF l).h) (by have:=hi.h;omega);omega
def vEnd (e:Int→Bool) (h:List LOp):Int→Bool:=h.foldl (fun e o=>fun y=>if y=o.1 then endsB o else e y) e
theorem z_y:∀ (h m:List LOp) (e:Int→Bool),validL e (h++m)=(validL e h && validL (vEnd e h) m)
  | [],m,e=>by simp [validL,vEnd]
  | o::h,m,e=>by
    have ih:=z_y h m (fun y=>if y=o.1 then endsB o else e y)
    show (opOkB o && !e o.1 && validL _ (h++m))=((opOkB o && !e o.1 && validL _ h) && validL (vEnd _ h) m)
    rw [ih,Bool.and_assoc,Bool.and_assoc,Bool.and_assoc]
theorem z_z (e:Int→Bool) (h m:List LOp):vEnd e (h++m)=vEnd (vEnd e h) m:=by unfold vEnd;rw [List.foldl_append]
theorem vEnd_other:∀ (m:List LOp) (e:Int→Bool) (t y:Int),(∀ o∈m,o.1=t)→y≠t→vEnd e m y=e y
  | [],e,t,y,_,_=>rfl
  | o::m,e,t,y,h,hy=>by
    have h1:=h o List.mem_cons_self
    have:=vEnd_other m (fun y=>if y=o.1 then endsB o else e y) t y (fun p hp=>h p (List.mem_cons_of_mem _ hp)) hy
    show vEnd _ m y=_
    rw [this]
    exact if_neg (fun q=>hy (q.trans h1))
theorem validL_ops:∀ (m:List LOp) (e:Int→Bool) (t:Int),(∀ o∈m,o.1=t∧0≤o.2.1∧o.2.1≤1∧0≤o.2.2∧o.2.2≤5)→1≤t→t≤6→e t=false→validL e m=true∧vEnd e m t=false
  | [],e,t,_,_,_,h=>⟨rfl,h⟩
  | o::m,e,t,h,h1,h6,he=>by
    obtain ⟨a,b,c,d,f⟩:=h o List.mem_cons_self
    have hends:endsB o=false:=by unfold endsB;rw [decide_eq_false (by omega),decide_eq_false (by omega)];rfl
    have A:opOkB o=true:=by unfold opOkB;rw [decide_eq_true (by omega),hends];rfl
    obtain ⟨g1,g2⟩:=validL_ops m (fun y=>if y=o.1 then endsB o else e y) t (fun p hp=>h p (List.mem_cons_of_mem _ hp)) h1 h6 ((if_pos a.symm).trans hends)
    refine ⟨?_,g2⟩
    unfold validL
    rw [A,a,he,← a,g1]
    rfl
structure VInv (c:CS):Prop where
  ok:validL (fun _=>false) c.h=true
  cur:∀ k,c.cur k≠0→vEnd (fun _=>false) c.h (c.cur k)=false
  new:∀ t,(c.all.length:Int) < t→vEnd (fun _=>false) c.h t=false
  one:∀ k i,c.cur k≠0→c.cur k=c.cur i→k=i
theorem vinv_start:VInv c00:=⟨rfl,fun k h=>absurd rfl h,fun t _=>rfl,fun k i h=>absurd rfl h⟩
theorem VInv.newS {l:List CallR} {c:CS} {j:Nat} (h:VInv c) (hi:CInv l c j) (k:Int):VInv (newS c k):=by
 unfold Go.Proofs.YthdkamnclbfehaaGreatDoor.newS;split
 ·rename_i h0;refine ⟨h.ok,fun i hne=>?_,fun t ht=>h.new t (by rw [List.length_append] at ht;simp at ht;omega),fun i i' hne he=>?_⟩
  ·dsimp only [upI] at hne ⊢;split
   ·exact h.new _ (by omega)
   ·rename_i q;rw [if_neg q] at hne;exact h.cur i hne
  ·dsimp only [upI] at hne he;by_cases q:i=k
   ·by_cases q':i'=k
    ·rw [q,q']
    ·rw [if_pos q,if_neg q'] at he;have:=(hi.cur i').2;omega
   ·by_cases q':i'=k
    ·rw [if_neg q,if_pos q'] at he;have:=(hi.cur i).2;omega
    ·rw [if_neg q,if_neg q'] at he;rw [if_neg q] at hne;exact h.one i i' hne he
 ·exact h
theorem VInv.step {l:List CallR} {c:CS} {j:Nat} (h:VInv c) (hi:CInv l c j) (ends:Int→Int) {x:CallR} (hit:∀ i∈itemsF x.2,0≤i∧i≤5) (h6:(colS ends c x).all.length≤6):VInv (colS ends c x):=by
 unfold colS at h6 ⊢;split
 ·exact h
 ·rename_i X;rw [if_neg X] at h6;split
  ·exact ⟨h.ok,h.cur,h.new,h.one⟩
  ·rename_i A;rw [if_neg A] at h6;split
   ·rename_i he;rw [if_pos he] at h6;have h0:c.cur x.1≠0:=fun e=>A ⟨e,he⟩;have hc:=hi.cur x.1;have J:=h.cur x.1 h0;unfold endCS at h6 ⊢;have O:c.all.length≤6:=h6;have G:endsB (c.cur x.1,2,0)=true:=rfl;have W:opOkB (c.cur x.1,2,0)=true:=(by unfold opOkB;rw [decide_eq_true (show 1≤c.cur x.1∧c.cur x.1≤6∧(0:Int)≤2∧(2:Int)≤3∧(0:Int)≤0∧(0:Int)≤5 by omega),G];rfl);refine ⟨?_,fun i A=>?_,fun t ht=>?_,fun i i' A he=>?_⟩
    ·show validL _ (c.h++[(c.cur x.1,2,0)])=true;rw [z_y,h.ok];unfold validL;rw [W,J];rfl
    ·dsimp only [upI] at A ⊢;by_cases q:i=x.1
     ·rw [if_pos q] at A;exact absurd rfl A
     ·rw [if_neg q] at A ⊢;rw [z_z];show (if c.cur i=c.cur x.1 then endsB (c.cur x.1,2,0) else vEnd _ c.h (c.cur i))=false;rw [if_neg (fun e=>q (h.one i x.1 A e))];exact h.cur i A
    ·show vEnd _ (c.h++[(c.cur x.1,2,0)]) t=false;rw [z_z];have R:(c.all.length:Int) < t:=ht;show (if t=c.cur x.1 then endsB (c.cur x.1,2,0) else vEnd _ c.h t)=false;rw [if_neg (by have:=hc.2;have h9:(c.all.length:Int) < t:=R;clear ht;omega)];exact h.new t R
    ·dsimp only [upI] at A he;by_cases q:i=x.1
     ·rw [if_pos q] at A;exact absurd rfl A
     ·rw [if_neg q] at A he;by_cases q':i'=x.1
      ·rw [if_pos q'] at he;exact absurd he A
      ·rw [if_neg q'] at he;exact h.one i i' A he
   ·rename_i he;rw [if_neg he] at h6;have hn:=h.newS hi x.1;obtain ⟨n1,n2,_,_,_,_,_⟩:=hi.new x.1;have O:(Go.Proofs.YthdkamnclbfehaaGreatDoor.newS c x.1).all.length≤6:=(by unfold lineS at h6;dsimp only at h6;rw [List.length_set] at h6;exact h6);obtain ⟨c1,U⟩:∃ c1,Go.Proofs.YthdkamnclbfehaaGreatDoor.newS c x.1=c1:=⟨_,rfl⟩;rw [U] at hn n1 n2 O ⊢;have ht:=n1 x.1;have J:=hn.cur x.1 (by omega);obtain ⟨ms,hms⟩:∃ ms,(itemsF x.2).map (fun i=>(c1.cur x.1,(0:Int),i))++(itemsF x.2).map (fun i=>(c1.cur x.1,(1:Int),i))=ms:=⟨_,rfl⟩
    have C:∀ o∈ms,o.1=c1.cur x.1∧0≤o.2.1∧o.2.1≤1∧0≤o.2.2∧o.2.2≤5:=fun o ho=>by
     rw [← hms] at ho;rcases List.mem_append.1 ho with q | q
     ·obtain ⟨i,M,rfl⟩:=List.mem_map.1 q;have:=hit i M;exact ⟨rfl,by simp,by simp,this.1,this.2⟩
     ·obtain ⟨i,M,rfl⟩:=List.mem_map.1 q;have:=hit i M;exact ⟨rfl,by simp,by simp,this.1,this.2⟩
    obtain ⟨v1,v2⟩:=validL_ops ms (vEnd (fun _=>false) c1.h) (c1.cur x.1) C n2 (by omega) J;unfold lineS;refine ⟨?_,fun i A=>?_,fun t ht=>?_,hn.one⟩
    ·show validL _ (c1.h++_++_)=true;rw [List.append_assoc,hms,z_y,hn.ok,v1];rfl
    ·show vEnd _ (c1.h++_++_) (c1.cur i)=false;rw [List.append_assoc,hms,z_z];by_cases q:c1.cur i=c1.cur x.1
     ·rw [q];exact v2
     ·rw [vEnd_other ms _ (c1.cur x.1) _ (fun o ho=>(C o ho).1) q];exact hn.cur i A
    ·show vEnd _ (c1.h++_++_) t=false;dsimp only at ht;rw [List.length_set] at ht;rw [List.append_assoc,hms,z_z,vEnd_other ms _ (c1.cur x.1) _ (fun o ho=>(C o ho).1) (by omega)];exact hn.new t ht
theorem col_mono (ends:Int→Int) (c:CS) (x:CallR):c.all.length≤(colS ends c x).all.length:=by
 unfold colS;split
 ·exact Nat.le_refl _
 ·split
  ·exact Nat.le_refl _
  ·split
   ·exact Nat.le_refl _
   ·unfold lineS newS;dsimp only;rw [List.length_set];split
    ·simp
    ·exact Nat.le_refl _
theorem fold_mono (ends:Int→Int):∀ (p:List CallR) (c:CS),c.all.length≤(p.foldl (colS ends) c).all.length
  | [],c=>Nat.le_refl _
  | x::p,c=>Nat.le_trans (col_mono ends c x) (fold_mono ends p _)
theorem vinv_fold {l:List CallR} (ends:Int→Int) (hl:∀ x∈l,∀ i∈itemsF x.2,0≤i∧i≤5):∀ (p:List CallR) (c:CS) (j:Nat),(∀ x∈p,x∈l)→CInv l c j→VInv c→(p.foldl (colS ends) c).all.length≤6→VInv (p.foldl (colS ends) c)
  | [],c,j,_,_,h,_=>h
  | x::p,c,j,hp,hi,h,h6=>by
    have hx:=hp x List.mem_cons_self
    exact vinv_fold ends hl p _ (j+1) (fun y hy=>hp y (List.mem_cons_of_mem _ hy)) (hi.step ends hx) (h.step hi ends (hl x hx) (Nat.le_trans (fold_mono ends p _) h6)) h6
theorem itemOf_ok {i:Int} (h:0≤i):2≤itemOf i∧itemOf i≤5:=by
 have h1:=tmod4 i;have h2:=Int.tmod_nonneg 4 h;unfold itemOf;omega
theorem touchL_ok {wd:ByteArray} {n:List Int} (h:∀ i∈n,0≤i):∀ i∈touchL wd n,0≤i∧i≤5:=by
 intro i hi;unfold touchL at hi;repeat' split at hi
 ·simp at hi;omega
 ·rcases List.mem_cons.1 hi with rfl | q
  ·omega
  ·obtain ⟨k,hk,rfl⟩:=List.mem_map.1 q;have:=itemOf_ok (h k (List.mem_of_mem_take hk));omega
 ·rcases List.mem_cons.1 hi with rfl | q
  ·omega
  ·obtain ⟨k,hk,rfl⟩:=List.mem_map.1 q;have:=itemOf_ok (h k (List.mem_of_mem_take hk));omega
 ·obtain ⟨k,hk,rfl⟩:=List.mem_map.1 hi;have:=itemOf_ok (h k hk);omega
theorem compact_mem {zs:List Int} {i:Int} (h:i∈Lib.compact zs):i∈zs:=by
 unfold Lib.compact Lib.compactUpTo at h;obtain ⟨k,hk,rfl⟩:=List.mem_map.1 h;have A:=List.mem_range.1 (List.mem_filter.1 hk).1;have:zs.toArray[k]! = zs[k]:=(by simp [A]);rw [this];exact List.getElem_mem A
theorem sortI_mem {zs:List Int} {i:Int} (h:i∈sortI zs):i∈zs:=by unfold sortI at h;exact List.mem_mergeSort.1 h
theorem said_nonneg {f:Nat} {a:FA} (h:Said f a):∀ i∈a.n,0≤i:=by
 intro i hi;cases h with
 | take _ n w e hn _=>rw [e] at hi;simp at hi;rw [hi];exact hn.1
 | blend _ x y q e hx hy hq=>rw [e] at hi;simp at hi;rcases hi with rfl | rfl | rfl;exact hx.1;exact hy.1;exact hq.1
 | put _ x b e hx hb=>rw [e] at hi;simp at hi;rcases hi with rfl | rfl;exact hx.1;exact hb.1
 | touch _ x y e hx hy=>rw [e] at hi;simp at hi;rcases hi with rfl | rfl;exact hx.1;exact hy.1
 | test _ x w e hx _=>rw [e] at hi;simp at hi;rw [hi];exact hx.1
 | close _ x e hx=>rw [e] at hi;simp at hi;rw [hi];exact hx.1
theorem items_ok {s:ByteArray} (h:okB s=true∨s=endB):∀ i∈itemsF s,0≤i∧i≤5:=by
 intro i hi;unfold itemsF at hi;split at hi
 ·cases hi
 ·rename_i so f a e
  have A:a.ok=true:=by
   rcases h with h | h
   ·unfold okB at h;rw [e] at h;exact h
   ·rw [h] at e;have e2:formF endB=none:=(by decide+kernel);rw [e2] at e;cases e
  exact touchL_ok (said_nonneg (said_of e A)) i (sortI_mem (compact_mem hi))
theorem day_valid {l:List CallR} (hb:l.any badCall=false) (hok:okC (dayF l)=true):validHB (dayF l).h=true:=by
 unfold okC at hok;simp only [Bool.and_eq_true,decide_eq_true_eq] at hok
 have C:∀ x∈l,∀ i∈itemsF x.2,0≤i∧i≤5:=fun x hx=>by
  refine items_ok ?_
  have A:badCall x=false:=by
   cases e:badCall x with
   | false=>rfl
   | true=>have:l.any badCall=true:=List.any_eq_true.2 ⟨x,hx,e⟩;rw [hb] at this;cases this
  unfold badCall at A;simp only [Bool.or_eq_false_iff,decide_eq_false_iff_not,Bool.and_eq_false_iff,Bool.not_eq_false',decide_eq_true_eq] at A;exact A.2.2
 have hv:=vinv_fold (endsF l) C l c00 0 (fun _ h=>h) (cinv_start l) vinv_start hok.2.1;unfold validHB;rw [decide_eq_true hok.2.2];exact hv.ok
theorem rising_eq:∀ (l m:List Int),l.Pairwise (· < ·)→m.Pairwise (· < ·)→(∀ x,x∈l↔x∈m)→l=m
  | [],[],_,_,_=>rfl
  | [],b::m,_,_,h=>by have:=(h b).2 List.mem_cons_self;cases this
  | a::l,[],_,_,h=>by have:=(h a).1 List.mem_cons_self;cases this
  | a::l,b::m,hl,hm,h=>by
    have hl2:=List.pairwise_cons.1 hl
    have hm2:=List.pairwise_cons.1 hm
    have hab:a=b:=by
      rcases List.mem_cons.1 ((h a).1 List.mem_cons_self) with e | e
      · exact e
      · rcases List.mem_cons.1 ((h b).2 List.mem_cons_self) with e' | e'
        · exact e'.symm
        · have h1:=hm2.1 a e;have h2:=hl2.1 b e';omega
    subst hab
    congr 1
    refine rising_eq l m hl2.2 hm2.2 (fun x=>⟨fun hx=>?_,fun hx=>?_⟩)
    · rcases List.mem_cons.1 ((h x).1 (List.mem_cons_of_mem _ hx)) with e | e
      · have:=hl2.1 x hx;omega
      · exact e
    · rcases List.mem_cons.1 ((h x).2 (List.mem_cons_of_mem _ hx)) with e | e
      · have:=hm2.1 x hx;omega
      · exact e
theorem compact_rise (d:Array Int) (hs:∀ i j,i≤j→j < d.size→d[i]! ≤d[j]!):∀ m,m≤d.size→
    (Lib.compactUpTo d m).Pairwise (· < ·)∧(∀ x∈Lib.compactUpTo d m,∃ i,i < m∧x=d[i]!)∧∀ i,i < m→d[i]! ∈Lib.compactUpTo d m
  | 0,_=>by
    have e:Lib.compactUpTo d 0=[]:=rfl
    rw [e]
    exact ⟨List.Pairwise.nil,fun x h=>(by cases h),fun i h=>by omega⟩
  | m+1,hm=>by
    obtain ⟨h1,h2,h3⟩:=compact_rise d hs m (by omega)
    rw [Lib.compactUpTo_succ]
    by_cases hk:Lib.keeps d m=true
    · rw [if_pos hk]
      refine ⟨List.pairwise_append.2 ⟨h1,List.pairwise_singleton _ _,fun x hx y hy=>?_⟩,fun x hx=>?_,fun i hi=>?_⟩
      · rw [List.mem_singleton.1 hy]
        obtain ⟨i,hi,rfl⟩:=h2 x hx
        have hne:d[m]! ≠d[m - 1]! :=by
          unfold Lib.keeps at hk
          rcases of_decide_eq_true hk with e | e
          · omega
          · exact e
        have a1:=hs i (m - 1) (by omega) (by omega)
        have a2:=hs (m - 1) m (by omega) (by omega)
        omega
      · rcases List.mem_append.1 hx with q | q
        · obtain ⟨i,hi,e⟩:=h2 x q;exact ⟨i,by omega,e⟩
        · exact ⟨m,by omega,List.mem_singleton.1 q⟩
      · by_cases e:i=m
        · subst e;exact List.mem_append_right _ (List.mem_singleton.2 rfl)
        · exact List.mem_append_left _ (h3 i (by omega))
    · rw [if_neg hk,List.append_nil]
      refine ⟨h1,fun x hx=>?_,fun i hi=>?_⟩
      · obtain ⟨i,hi,e⟩:=h2 x hx;exact ⟨i,by omega,e⟩
      · by_cases e:i=m
        · subst e
          have A:i≠0:=fun e=>hk (by unfold Lib.keeps;exact decide_eq_true (.inl e))
          have he:d[i]! = d[i - 1]! :=by
            refine Decidable.byContradiction (fun q=>hk ?_)
            unfold Lib.keeps;exact decide_eq_true (.inr q)
          rw [he];exact h3 (i - 1) (by omega)
        · exact h3 i (by omega)
def riseL (on:Int→Bool):List Int:=([0,1,2,3,4,5]:List Int).filter on
theorem compact_sort {L:List Int} (h:∀ i∈L,0≤i∧i≤5):Lib.compact (sortI L)=riseL (fun i=>decide (i∈L)):=by
 have hp:(sortI L).Pairwise (fun x y=>decide (x≤y)=true):=List.pairwise_mergeSort (fun a b c h1 h2=>by have:=of_decide_eq_true h1;have:=of_decide_eq_true h2;exact decide_eq_true (by omega)) (fun a b=>by by_cases e:a≤b <;> simp [e];omega) L
 have hs:∀ i j,i≤j→j < (sortI L).toArray.size→(sortI L).toArray[i]! ≤(sortI L).toArray[j]! :=fun i j hij hj=>by
  have G:j < (sortI L).length:=(by simpa using hj);have C:i < (sortI L).length:=(by omega);have e1:(sortI L).toArray[i]! = (sortI L)[i]:=(by simp [C]);have e2:(sortI L).toArray[j]! = (sortI L)[j]:=(by simp [G]);rw [e1,e2];by_cases e:i=j
  ·subst e;exact Int.le_refl _
  ·exact of_decide_eq_true (List.pairwise_iff_getElem.1 hp i j C G (by omega))
 obtain ⟨h1,h2,h3⟩:=compact_rise (sortI L).toArray hs (sortI L).length (by simp);have A:∀ x,x∈Lib.compact (sortI L)↔x∈L:=fun x=>(by refine ⟨fun hx=>sortI_mem (compact_mem hx),fun hx=>?_⟩;have J:x∈sortI L:=(by unfold sortI;exact List.mem_mergeSort.2 hx);obtain ⟨i,hi,e⟩:=List.getElem_of_mem J;have:=h3 i hi;have e1:(sortI L).toArray[i]! = (sortI L)[i]:=(by simp [hi]);rw [e1,e] at this;exact this);refine rising_eq _ _ h1 (List.Pairwise.filter _ (by decide)) fun x=>?_;rw [A x];unfold riseL;rw [List.mem_filter];refine ⟨fun hx=>⟨?_,decide_eq_true hx⟩,fun hx=>of_decide_eq_true hx.2⟩;have:=h x hx;have h6:x=0∨x=1∨x=2∨x=3∨x=4∨x=5:=(by omega);rcases h6 with rfl | rfl | rfl | rfl | rfl | rfl <;> simp
end Go.Proofs.YthdkamnclbfehaaGreatDoor
