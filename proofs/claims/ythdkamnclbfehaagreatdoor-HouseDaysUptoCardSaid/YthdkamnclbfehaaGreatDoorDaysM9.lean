/- A part of the proof. -/
import Derived.Test.YthdkamnclbfehaaGreatDoorDaysM2
import Derived.Deep.RegionHeld3
set_option linter.all false
namespace Go.Proofs.YthdkamnclbfehaaGreatDoor
open Go.RowKit
theorem x_q {P:Program} {w:World} {o:Oper} {a:Act} {K:Act→World→Prop} {Q:Exit→Act→World→Prop} (s x:Operand) (t tx:TypeId)
    (ho:o.op = .call {callee:=.builtin .append,args:=#[s,x],argTypes:=#[t,tx]})
    (e:TypeId) (z:Value) (size bytes:Nat) (ht:P.underlying t=some (.slice e)) (hinfo:(P.info? e).map (fun i=>(i.zero,i.size,i.bytes))=some (some z,size,bytes)) (hzs:z.cells.size=size)
    {base:Nat} {v:Value} {n:Nat} {xs:List Value} (hown:w.ownsRow base e size v n xs) (hs:a.eval s=v)
    {xv:Value} {m:Nat} {news:List Value} (hsrc:Src P size tx xv m news w) (hx:a.eval x=xv)
    (h63:n+m≤maxLen) (hbytes:(n+m) * bytes≤140737488355328) (hbase:base≤w.heap.size)
    (h:∀ v' w',App w base e size v n xs m news v' w'→K (a.put o.dst v') w'):Oper.wp P o a w K Q:=by
  obtain ⟨i,hi,hz,A,G⟩:=info_parts hinfo
  obtain ⟨v',w',hr,C⟩:=run_app (P:=P) w base t tx o.type e i z size bytes ht hi hz A G hzs v n xs hown xv m news hsrc h63 hbytes hbase
  unfold Oper.wp execOp
  simp only [ho,resolve,invoke,builtin,Sem.run_bind,Sem.run_pure,Result.andThen_ok,List.map_toArray,List.map_cons,List.map_nil,hs,hx,hr]
  exact h _ _ C
theorem Rd.new (w:World) (size n:Nat) (cs:List Value) (t:TypeId) (hl:cs.length=n * size) (h1:∀ u∈cs,u.oneCell'=true) (hn:n≤maxLen):Rd (w.alloc (.cells cs.toArray t)) size (.slice (some ⟨w.heap.size,0,none⟩) n n) n cs:=by
 refine ⟨hl,h1,.inr ⟨w.heap.size,0,n,rfl,Nat.le_refl _,hn,fun j u hu=>?_⟩⟩;rw [Nat.zero_add,World.cell?_alloc_new];simpa using hu
theorem Rd.drew {w:World} {size:Nat} {v:Value} {n:Nat} {xs:List Value} (h:Rd w size v n xs):Rd w.drew size v n xs:=h
end Go.Proofs.YthdkamnclbfehaaGreatDoor
namespace Go.Proofs.YthdkamnclbfehaaGreatDoor
open Go.RowKit
theorem tA:(∀ {α:Type} (xs:List α) (i:Nat) (h:i < xs.toArray.size),xs.toArray[i]'h=xs[i]'(by simpa using h))∧
    (∀ {α:Type} (a:α) (l:List α) (h:0 < (a::l).length),(a::l)[0]'h=a)∧
    (∀ {α:Type} (a:α) (l:List α) (i:Nat) (h:i+1 < (a::l).length),(a::l)[i+1]'h=l[i]'(Nat.lt_of_succ_lt_succ h))∧
    (∀ (a:Act) (d:Nat) (v:Value),a.put (some d) v = {a with tmps:=a.tmps.setIfInBounds d v})∧(∀ (a:Act) (v:Value),a.put none v=a)∧
    (∀ {α:Type} (l:List α) (i:Nat) (a:α),l.toArray.setIfInBounds i a=(l.set i a).toArray)∧
    (∀ {α:Type} (x:α) (l:List α) (a:α),(x::l).set 0 a=a::l)∧
    (∀ {α:Type} (x:α) (l:List α) (n:Nat) (a:α),(x::l).set (n+1) a=x::l.set n a):=
  ⟨fun _ _ _=>List.getElem_toArray ..,fun _ _ _=>rfl,fun _ _ _ _=>rfl,fun _ _ _=>rfl,fun _ _=>rfl,fun _ _ _=>List.setIfInBounds_toArray ..,fun _ _ _=>rfl,fun _ _ _ _=>rfl⟩
variable {P:Program} {ops:Array Oper} {Q:Exit→Act→World→Prop} {md:Region.Mode} {S:World→Prop} {oi:Oper} {v:Value} {fuel:Nat} {listed:Array Bool} {a:Act} {w:World}
theorem wG {i:Nat} (hi:ops[i]?=some oi) (hw:Region.wanted oi (yielded ops a.tmps)=true) (hS:S w) (h:wpAnyH P md ops Q S fuel (listed.setIfInBounds i true) (a.put oi.dst v) w) (hy:∀ w,S w→(execOp a.eval oi).run P w = .ok (.value v) w:=by (intro w A;(try dsimp only at A);go_simp) <;> with_reducible rfl) (hs:Region.noSelect ops=true:=by kernel_rfl) (hf:Region.free md ops listed i=true:=by kernel_rfl) (hr:(Region.ready md ops listed).contains i=true:=by kernel_rfl) (hQ:∀ c a w,Q (.panic c) (a.put oi.dst v) w→Q (.panic c) a w:=by exact fun _ _ _ h=>h):wpAnyH P md ops Q S (fuel+1) listed a w:=wpAnyH_take hi hs hf hr hQ (.inl ⟨hw,hy⟩) hS h
theorem wt (i:Nat) (h:wpAnyH P md ops Q S fuel (listed.setIfInBounds i true) (a.put oi.dst v) w) (hi:ops[i]?=some oi:=by exact rfl) (hS:S w:=by assumption) (hy:∀ w,S w→(execOp a.eval oi).run P w = .ok (.value v) w:=by (intro w A;(try dsimp only at A);go_simp) <;> with_reducible rfl) (hw:Region.wanted oi (yielded ops a.tmps)=true:=by rfl) (hs:Region.noSelect ops=true:=by kernel_rfl) (hf:Region.free md ops listed i=true:=by kernel_rfl) (hr:(Region.ready md ops listed).contains i=true:=by kernel_rfl) (hQ:∀ c a w,Q (.panic c) (a.put oi.dst v) w→Q (.panic c) a w:=by exact fun _ _ _ h=>h):wpAnyH P md ops Q S (fuel+1) listed a w:=wG hi hw hS h hy hs hf hr hQ
theorem wS {l':Array Bool} {a':Act} (i:Nat) (h:wpAnyH P md ops Q S fuel l' a' w) (hi:ops[i]?=some oi:=by exact rfl) (hS:S w:=by assumption) (hy:∀ w,S w→(execOp a.eval oi).run P w = .ok (.value v) w:=by (intro w A;(try dsimp only at A);go_simp) <;> with_reducible rfl) (hw:Region.wanted oi (yielded ops a.tmps)=true:=by rfl) (hs:Region.noSelect ops=true:=by kernel_rfl) (hf:Region.free md ops listed i=true:=by kernel_rfl) (hr:(Region.ready md ops listed).contains i=true:=by kernel_rfl) (hQ:∀ c a w,Q (.panic c) (a.put oi.dst v) w→Q (.panic c) a w:=by exact fun _ _ _ h=>h) (hl:listed.setIfInBounds i true=l':=by (try simp only [tA]);exact rfl) (ha:a.put oi.dst v=a':=by (try simp only [tA]);exact rfl):wpAnyH P md ops Q S (fuel+1) listed a w:=wG hi hw hS (by rw [hl,ha];exact h) hy hs hf hr hQ
theorem wR {rs:List Nat} (h:AllReadyH P md ops Q S fuel listed a w rs) (hr:Region.ready md ops listed=rs:=by kernel_rfl) (hne:rs≠[]:=by simp):wpAnyH P md ops Q S (fuel+1) listed a w:=wpAnyH_ready hr hne h
theorem aR {i:Nat} (ho:ops[i]?=some oi) (h:∀ K':Act→World→Prop,Shut (∀ a w,S w→(S w→wpAnyH P md ops Q S fuel (listed.setIfInBounds i true) a w)→K' a w)→if Region.wanted oi (yielded ops a.tmps)=true then Oper.wp P oi a w K' Q else K' (a.put oi.dst undef) w):AllReadyH P md ops Q S fuel listed a w [i]:=AllReadyH.cons ho h AllReadyH.nil
theorem wA (i:Nat) (h:∀ K':Act→World→Prop,Shut (∀ a w,S w→(S w→wpAnyH P md ops Q S fuel (listed.setIfInBounds i true) a w)→K' a w)→if Region.wanted oi (yielded ops a.tmps)=true then Oper.wp P oi a w K' Q else K' (a.put oi.dst undef) w) (ho:ops[i]?=some oi:=by exact rfl) (hr:Region.ready md ops listed=[i]:=by kernel_rfl):wpAnyH P md ops Q S (fuel+1) listed a w:=wR (aR ho h) hr
theorem wB (i:Nat) (h:∀ K':Act→World→Prop,Shut (∀ a w,S w→(S w→wpAnyH P md ops Q S fuel (listed.setIfInBounds i true) a w)→K' a w)→Oper.wp P oi a w K' Q) (ho:ops[i]?=some oi:=by exact rfl) (hw:Region.wanted oi (yielded ops a.tmps)=true:=by rfl) (hr:Region.ready md ops listed=[i]:=by kernel_rfl):wpAnyH P md ops Q S (fuel+1) listed a w:=wA i (fun K' hK=>by rw [if_pos hw];exact h K' hK) ho hr
end Go.Proofs.YthdkamnclbfehaaGreatDoor
namespace Go.Proofs.YthdkamnclbfehaaGreatDoor
open Go.RowKit
def undone (l:Array Bool):Nat:=l.toList.countP (! ·)
theorem countP_set_lt:∀ (l:List Bool) (i:Nat),l[i]?=some false→(l.set i true).countP (! ·)+1=l.countP (! ·):=by
 intro l;induction l with
 | nil=>intro i h;simp at h
 | cons a r ih=>
  intro i h;cases i with
  | zero=>
   simp at h;subst h;simp
  | succ i=>
   have:=ih i (by simpa using h);simp only [List.set_cons_succ,List.countP_cons];omega
theorem undone_set {l:Array Bool} {i:Nat} (h:l.getD i true=false):undone (l.setIfInBounds i true)+1=undone l:=by
 unfold undone
 have h2:l.toList[i]?=some false:=by
  rw [Array.getElem?_toList];cases h3:l[i]? with
  | none=>simp [Array.getD_eq_getD_getElem?,h3] at h
  | some b=>simp [Array.getD_eq_getD_getElem?,h3] at h;rw [h]
 rw [Array.toList_setIfInBounds];exact countP_set_lt _ _ h2
theorem all_listed {md:Region.Mode} {ops:Array Oper} {l:Array Bool} (hsz:l.size=ops.size) (hac:∀ (i:Nat) (o:Oper),ops[i]?=some o→∀ e∈o.after,e.on < i) (hr:Region.ready md ops l=[]):∀ i,i < ops.size→l.getD i false=true:=by
 intro i;induction i using Nat.strongRecOn with
 | ind i ih=>
  intro hi;cases hb:l.getD i true
  ·have hm:i∈Region.ready md ops l:=mem_ready.2 ⟨hb,ops[i],Array.getElem?_eq_getElem hi,fun e he _=>by have h1:=hac i _ (Array.getElem?_eq_getElem hi) e he;exact ih e.on h1 (by omega)⟩;rw [hr] at hm;cases hm
  ·have A:i < l.size:=(by omega);simp [Array.getD_eq_getD_getElem?,A] at hb ⊢;exact hb
theorem wpAnyH_inv {P:Program} {ops:Array Oper} {Q:Exit→Act→World→Prop} {md:Region.Mode} {S:World→Prop} (J:Array Bool→Act→World→Prop) (hac:∀ (i:Nat) (o:Oper),ops[i]?=some o→∀ e∈o.after,e.on < i) (hstep:∀ (l:Array Bool) (a:Act) (w:World) (i:Nat) (o:Oper),l.size=ops.size→J l a w→l.getD i true=false→ops[i]?=some o→(∀ e∈o.after,Region.binds md e=true→l.getD e.on false=true)→∀ K:Act→World→Prop,(∀ a' w',S w'→J (l.setIfInBounds i true) a' w'→K a' w')→if Region.wanted o (yielded ops a.tmps)=true then Oper.wp P o a w K Q else K (a.put o.dst undef) w) (hend:∀ l a w,l.size=ops.size→(∀ i,i < ops.size→l.getD i false=true)→J l a w→Q .normal a w):∀ (fuel:Nat) (l:Array Bool) (a:Act) (w:World),l.size=ops.size→undone l≤fuel→J l a w→wpAnyH P md ops Q S fuel l a w:=by
 intro fuel;induction fuel with
 | zero=>
  intro l a w A hf hJ;have hr:Region.ready md ops l=[]:=(by apply List.eq_nil_iff_forall_not_mem.2;intro i hi;have:=undone_set (mem_ready.1 hi).1;omega);exact ⟨hr,hend l a w A (all_listed A hac hr) hJ⟩
 | succ fuel ih=>
  intro l a w A hf hJ;refine ⟨fun hr=>hend l a w A (all_listed A hac hr) hJ,fun i hi=>?_⟩;obtain ⟨h0,o,ho,C⟩:=mem_ready.1 hi;refine wpOp_step ho fun K' hK=>?_;refine hstep l a w i o A hJ h0 ho C K' fun a' w' hS hJ'=>hK a' w' ⟨hS,ih _ a' w' (by simpa using A) (by have:=undone_set h0;omega) hJ'⟩
theorem listed_set {l:Array Bool} {i j:Nat} (h:(l.setIfInBounds i true).getD j false=true) (hne:i≠j):l.getD j false=true:=by rwa [getD_set_ne false hne] at h
def updL (a:Act) (f:Nat→Value):List Nat→Act
  | []=>a
  | k::ks=>updL (a.put (some k) (f k)) f ks
def upd1 (f:Nat→Value) (k:Nat) (v:Value):Nat→Value:=fun x=>cond (Nat.beq x k) v (f x)
theorem put_get? (a:Act) (k i:Nat) (v:Value):(a.put (some k) v).tmps[i]?=if k=i∧i < a.tmps.size then some v else a.tmps[i]?:=by
 show (a.tmps.setIfInBounds k v)[i]?=_;rw [Array.getElem?_setIfInBounds];by_cases h:k=i
 ·subst h;by_cases hk:k < a.tmps.size
  ·simp [hk]
  ·simp [hk]
 ·simp [h]
theorem put_size (a:Act) (k:Nat) (v:Value):(a.put (some k) v).tmps.size=a.tmps.size:=by simp [Act.put]
theorem updL_size (f:Nat→Value):∀ (ks:List Nat) (a:Act),(updL a f ks).tmps.size=a.tmps.size
  | [],_=>rfl
  | k::ks,a=>(updL_size f ks _).trans (put_size a k _)
theorem v_n (f:Nat→Value):∀ (ks:List Nat) (a:Act),(updL a f ks).defers=a.defers
  | [],_=>rfl
  | k::ks,a=>v_n f ks _
theorem updL_get? (f:Nat→Value):∀ (ks:List Nat) (a:Act) (i:Nat),(updL a f ks).tmps[i]?=if i∈ks∧i < a.tmps.size then some (f i) else a.tmps[i]?
  | [],a,i=>by simp [updL]
  | k::ks,a,i=>by
    show (updL (a.put (some k) (f k)) f ks).tmps[i]?=_
    rw [updL_get? f ks,put_size,put_get?]
    by_cases h:i < a.tmps.size
    · by_cases h1:i∈ks
      · simp [h,h1]
      · by_cases h2:k=i
        · subst h2;simp [h,h1]
        · simp [h,h1,h2,Ne.symm h2]
    · simp [h]
theorem v_o {a:Act} {f:Nat→Value} {ks:List Nat} {k n:Nat} (hs:a.tmps.size=n) (hk:(ks.contains k && Nat.blt k n)=true):(updL a f ks).tmps[k]?.getD undef=f k:=by
 simp only [Bool.and_eq_true,List.contains_iff_mem] at hk;have h2:k < n:=(by have h3:=hk.2;simp [Nat.blt] at h3;omega);rw [updL_get?,if_pos ⟨hk.1,by omega⟩];rfl
theorem updL_off {a:Act} {f:Nat→Value} {ks:List Nat} {k:Nat} {v:Value} (hv:a.tmps[k]?.getD undef=v) (hk:ks.contains k=false):(updL a f ks).tmps[k]?.getD undef=v:=by
 rw [updL_get?,if_neg (fun h=>by have h1:=List.contains_iff_mem.2 h.1;rw [hk] at h1;cases h1)];exact hv
theorem updL_put {a:Act} {f:Nat→Value} {ks:List Nat} {k:Nat} {v:Value} (hk:ks.contains k=true):(updL a f ks).put (some k) v=updL a (upd1 f k v) ks:=by
 have h1:((updL a f ks).put (some k) v).defers=(updL a (upd1 f k v) ks).defers:=by rw [v_n];exact v_n _ _ _
 have h2:((updL a f ks).put (some k) v).tmps=(updL a (upd1 f k v) ks).tmps:=by
  apply Array.ext_getElem?;intro i;rw [put_get?,updL_size,updL_get?,updL_get?];by_cases h:i < a.tmps.size
  ·by_cases h2:k=i
   ·subst h2;have:=List.contains_iff_mem.1 hk;simp [h,this,upd1]
   ·by_cases h3:i∈ks
    ·have h4:Nat.beq i k=false:=by
      cases h5:Nat.beq i k with
      | false=>rfl
      | true=>exact absurd (Nat.eq_of_beq_eq_true h5).symm h2
     simp [h,h2,h3,upd1,h4]
    ·simp [h,h2,h3]
  ·simp [h]
 cases h3:(updL a f ks).put (some k) v with
 | mk t d=>
  cases h4:updL a (upd1 f k v) ks with
  | mk t' d'=>
   rw [h3,h4] at h1 h2;simp only at h1 h2;rw [h1,h2]
theorem uAt {a a':Act} {f:Nat→Value} {ks:List Nat} {k n:Nat} (ha:Hid (a'=updL a f ks)) (hs:a.tmps.size=n) (hk:(ks.contains k && Nat.blt k n)=true):a'.tmps[k]?.getD undef=f k:=by
 rw [ha.out];exact v_o hs hk
theorem uOff {a a':Act} {f:Nat→Value} {ks:List Nat} {k:Nat} {v:Value} (ha:Hid (a'=updL a f ks)) (hv:a.tmps[k]?.getD undef=v) (hk:ks.contains k=false):a'.tmps[k]?.getD undef=v:=by
 rw [ha.out];exact updL_off hv hk
theorem uPut {a a':Act} {f:Nat→Value} {ks:List Nat} {k:Nat} {v:Value} (ha:Hid (a'=updL a f ks)) (hk:ks.contains k=true):a'.put (some k) v=updL a (upd1 f k v) ks:=by
 rw [ha.out];exact updL_put hk
theorem put_me (a:Act) (d:Nat):a.put (some d) (a.tmps[d]?.getD undef)=a:=by
 cases a with
 | mk t df=>
  simp only [Act.put,Act.mk.injEq,and_true];apply Array.ext_getElem?;intro i;rw [Array.getElem?_setIfInBounds];split
  ·rename_i h;subst h;split
   ·rename_i h2;rw [Array.getElem?_eq_getElem h2];rfl
   ·rename_i h2;rw [Array.getElem?_eq_none (by omega)]
  ·rfl
theorem updL_self (a:Act):∀ ks:List Nat,updL a (fun k=>a.tmps[k]?.getD undef) ks=a
  | []=>rfl
  | k::ks=>by
    show updL (a.put (some k) (a.tmps[k]?.getD undef)) _ ks=a
    rw [put_me]
    exact updL_self a ks
def Qt (l:Array Bool) (j:Nat) (v u:Value):Prop:=l.getD j false=true→v=u
theorem Qt.other {l:Array Bool} {i j:Nat} {v u:Value} (h:Qt l j v u) (hj:i≠j):Qt (l.setIfInBounds i true) j v u:=fun e=>h (listed_set e hj)
theorem Qt.here {l:Array Bool} {j:Nat} {v u:Value} (h:v=u):Qt l j v u:=fun _=>h
theorem rep_false (n i:Nat):(Array.replicate n false).getD i false=false:=by
 rw [Array.getD_eq_getD_getElem?,Array.getElem?_replicate];split <;> rfl
theorem rep_undone (n:Nat):undone (Array.replicate n false)=n:=by simp [undone,List.countP_replicate]
theorem region_inv {P:Program} {id:Nat} {ops:Array Oper} {Q:Exit→Act→World→Prop} {a0:Act} {w:World} (hm:P.follows .mixedOrders=true) (J:Array Bool→Act→World→Prop)
    (hac:∀ (i:Nat) (o:Oper),ops[i]?=some o→∀ e∈o.after,e.on < i)
    (h0:J (Array.replicate ops.size false) a0 w.drew)
    (hend:∀ l a w,(∀ i,i < ops.size→l.getD i false=true)→J l a w→Q .normal a w)
    (hstep:∀ (l:Array Bool) (a:Act) (w:World) (i:Nat) (o:Oper),J l a w→l.getD i true=false→ops[i]?=some o→(∀ e∈o.after,Region.binds .any e=true→l.getD e.on false=true)→
      ∀ K:Act→World→Prop,(∀ a' w',J (l.setIfInBounds i true) a' w'→K a' w')→if Region.wanted o (yielded ops a.tmps)=true then Oper.wp P o a w K Q else K (a.put o.dst undef) w) :
    (Code.region id ops true).wp P Q a0 w:=
  wp_region_held_drew (S:=fun _=>True) hm trivial fun _=>wpAnyH_inv (S:=fun _=>True) J hac (fun l a w i o _ hJ h1 ho hall K hK=>hstep l a w i o hJ h1 ho hall K fun a' w' hJ'=>hK a' w' trivial hJ')
    (fun l a w _ hall hJ=>hend l a w hall hJ) _ _ _ _ (by simp) (by rw [rep_undone];exact Nat.le_refl _) h0
theorem x_m {P:Program} {id:Nat} {ops:Array Oper} {b:Bool} {Q:Exit→Act→World→Prop} {a:Act} {w:World} (h:∀ Q1,Q1=Q→(Code.region id ops b).wp P Q1 a w):(Code.region id ops b).wp P Q a w:=h Q rfl
theorem x_t {o oj:Oper} {ops:Array Oper} {a:Act} {j d:Nat} {b b':Bool} (hg:o.guard=some (j,b)) (hj:ops[j]?=some oj) (hd:oj.dst=some d) (hv:a.tmps[d]?.getD undef = .bool b'):Region.wanted o (yielded ops a.tmps)=(b' == b):=by
 have h2:a.tmps[d]?=some (.bool b'):=by
  cases h:a.tmps[d]? with
  | none=>rw [h] at hv;cases hv
  | some v=>rw [h] at hv;exact congrArg some hv
 have h1:yielded ops a.tmps j=some b':=(by unfold yielded;rw [hj];simp [hd,h2]);unfold Region.wanted;rw [hg];show (yielded ops a.tmps j == some b)=_;rw [h1];cases b <;> cases b' <;> rfl
theorem uE0 (a0:Act) (ks:List Nat):∃ f,a0=updL a0 f ks:=⟨_,(updL_self a0 ks).symm⟩
theorem uE {a0 a a':Act} {d:Nat} {v:Value} {ks:List Nat} (h:Hid (a'=a.put (some d) v)) (g:∃ f,a=updL a0 f ks) (hd:ks.contains d=true):∃ f,a'=updL a0 f ks:=by
 obtain ⟨f,hf⟩:=g;exact ⟨upd1 f d v,by rw [h.out,hf];exact updL_put hd⟩
theorem z_m {P:Program} {c:Code} {Q:Exit→Act→World→Prop} {a:Act} {w:World} (h:∀ w1,w1=w→c.wp P Q a w1):c.wp P Q a w:=h w rfl
theorem wpAnyH_letter {P:Program} {md:Region.Mode} {ops:Array Oper} {Q:Exit→Act→World→Prop} {S:World→Prop} {fuel:Nat} {l:Array Bool} {a0:Act} {w:World} (h:∀ a1,Hid (a1=a0)→wpAnyH P md ops Q S fuel l a1 w):wpAnyH P md ops Q S fuel l a0 w:=h a0 (hD rfl)
theorem put_at {a a':Act} {d:Nat} {v:Value} (h:Hid (a'=a.put (some d) v)) {n:Nat} (hs:a.tmps.size=n) (hd:d < n):a'.tmps[d]?.getD undef=v:=by
 have h:=h.out;subst h hs;simp [Act.put,hd]
theorem put_off {a a':Act} {d k:Nat} {v u:Value} (h:Hid (a'=a.put (some d) v)) (hk:a.tmps[k]?.getD undef=u) (hd:d≠k):a'.tmps[k]?.getD undef=u:=by
 have h:=h.out;subst h;rw [← hk];simp [Act.put,Array.getElem?_setIfInBounds,hd]
theorem po {a a':Act} {d k:Nat} {v u:Value} (h:Hid (a'=a.put (some d) v)) (hk:a.tmps[k]?.getD undef=u) (hd:d≠k:=by decide):a'.tmps[k]?.getD undef=u:=put_off h hk hd
theorem put_sz {a a':Act} {d:Nat} {v:Value} (h:Hid (a'=a.put (some d) v)) {n:Nat} (hs:a.tmps.size=n):a'.tmps.size=n:=by
 have h:=h.out;subst h;rw [← hs];simp [Act.put]
end Go.Proofs.YthdkamnclbfehaaGreatDoor
namespace Go.Proofs.YthdkamnclbfehaaGreatDoor
open Go.RowKit
variable {P:Program} {ops:Array Oper} {Q:Exit→Act→World→Prop} {md:Region.Mode} {S:World→Prop} {oi:Oper} {v:Value} {fuel:Nat} {listed:Array Bool} {a:Act} {w:World} {a':Act} {d n:Nat}
theorem wL (h:∀ a1,Hid (a1=a)→wpAnyH P md ops Q S fuel listed a1 w):wpAnyH P md ops Q S fuel listed a w:=wpAnyH_letter h
theorem pA (h:Hid (a'=a.put (some d) v)) (hs:Hid (a.tmps.size=n)) (hd:d < n:=by decide):a'.tmps[d]?.getD undef=v:=put_at h hs.out hd
theorem pS (h:Hid (a'=a.put (some d) v)) (hs:Hid (a.tmps.size=n)):Hid (a'.tmps.size=n):=hD (put_sz h hs.out)
theorem uF {a0:Act} {ks:List Nat} (h:Hid (a'=a.put (some d) v)) (g:∃ f,a=updL a0 f ks) (hd:ks.contains d=true:=by rfl):∃ f,a'=updL a0 f ks:=uE h g hd
theorem Qt.ot {l:Array Bool} {i j:Nat} {v u:Value} (h:Qt l j v u) (hj:i≠j:=by decide):Qt (l.setIfInBounds i true) j v u:=h.other hj
theorem wV (i:Nat) (hw:Region.wanted oi (yielded ops a.tmps)=true) (HS:Hid (a.tmps.size=n)) (h:∀ a1,Hid (a1=a.put (some d) v)→a1.tmps[d]?.getD undef=v→Hid (a1.tmps.size=n)→wpAnyH P md ops Q S fuel (listed.setIfInBounds i true) a1 w) (hi:ops[i]?=some oi:=by exact rfl) (hd:oi.dst=some d:=by exact rfl) (hS:S w:=by assumption) (hy:∀ w,S w→(execOp a.eval oi).run P w = .ok (.value v) w:=by (intro w A;(try dsimp only at A);go_simp) <;> with_reducible rfl) (hs:Region.noSelect ops=true:=by kernel_rfl) (hf:Region.free md ops listed i=true:=by kernel_rfl) (hr:(Region.ready md ops listed).contains i=true:=by kernel_rfl) (hQ:∀ c a w,Q (.panic c) (a.put oi.dst v) w→Q (.panic c) a w:=by exact fun _ _ _ h=>h) (hn:d < n:=by decide):wpAnyH P md ops Q S (fuel+1) listed a w:=wG hi hw hS (by rw [hd];exact h _ (hD rfl) (pA (hD rfl) HS hn) (pS (hD rfl) HS)) hy hs hf hr hQ
theorem wU (i:Nat) (HS:Hid (a.tmps.size=n)) (h:∀ a1,Hid (a1=a.put (some d) v)→a1.tmps[d]?.getD undef=v→Hid (a1.tmps.size=n)→wpAnyH P md ops Q S fuel (listed.setIfInBounds i true) a1 w) (hi:ops[i]?=some oi:=by exact rfl) (hd:oi.dst=some d:=by exact rfl) (hS:S w:=by assumption) (hy:∀ w,S w→(execOp a.eval oi).run P w = .ok (.value v) w:=by (intro w A;(try dsimp only at A);go_simp) <;> with_reducible rfl) (hw:Region.wanted oi (yielded ops a.tmps)=true:=by rfl) (hs:Region.noSelect ops=true:=by kernel_rfl) (hf:Region.free md ops listed i=true:=by kernel_rfl) (hr:(Region.ready md ops listed).contains i=true:=by kernel_rfl) (hQ:∀ c a w,Q (.panic c) (a.put oi.dst v) w→Q (.panic c) a w:=by exact fun _ _ _ h=>h) (hn:d < n:=by decide):wpAnyH P md ops Q S (fuel+1) listed a w:=wV i hw HS h hi hd hS hy hs hf hr hQ hn
variable {k0 k1 k2 k3 k4 k5:Nat} {u0 u1 u2 u3 u4 u5:Value}
theorem p2 (h:Hid (a'=a.put (some d) v)) (h0:a.tmps[k0]?.getD undef=u0) (h1:a.tmps[k1]?.getD undef=u1) (d0:d≠k0:=by decide) (d1:d≠k1:=by decide):a'.tmps[k0]?.getD undef=u0∧a'.tmps[k1]?.getD undef=u1:=⟨po h h0 d0,po h h1 d1⟩
theorem p3 (h:Hid (a'=a.put (some d) v)) (h0:a.tmps[k0]?.getD undef=u0) (h1:a.tmps[k1]?.getD undef=u1) (h2:a.tmps[k2]?.getD undef=u2) (d0:d≠k0:=by decide) (d1:d≠k1:=by decide) (d2:d≠k2:=by decide):a'.tmps[k0]?.getD undef=u0∧a'.tmps[k1]?.getD undef=u1∧a'.tmps[k2]?.getD undef=u2:=⟨po h h0 d0,po h h1 d1,po h h2 d2⟩
theorem p4 (h:Hid (a'=a.put (some d) v)) (h0:a.tmps[k0]?.getD undef=u0) (h1:a.tmps[k1]?.getD undef=u1) (h2:a.tmps[k2]?.getD undef=u2) (h3:a.tmps[k3]?.getD undef=u3) (d0:d≠k0:=by decide) (d1:d≠k1:=by decide) (d2:d≠k2:=by decide) (d3:d≠k3:=by decide):a'.tmps[k0]?.getD undef=u0∧a'.tmps[k1]?.getD undef=u1∧a'.tmps[k2]?.getD undef=u2∧a'.tmps[k3]?.getD undef=u3:=⟨po h h0 d0,po h h1 d1,po h h2 d2,po h h3 d3⟩
theorem p5 (h:Hid (a'=a.put (some d) v)) (h0:a.tmps[k0]?.getD undef=u0) (h1:a.tmps[k1]?.getD undef=u1) (h2:a.tmps[k2]?.getD undef=u2) (h3:a.tmps[k3]?.getD undef=u3) (h4:a.tmps[k4]?.getD undef=u4) (d0:d≠k0:=by decide) (d1:d≠k1:=by decide) (d2:d≠k2:=by decide) (d3:d≠k3:=by decide) (d4:d≠k4:=by decide):a'.tmps[k0]?.getD undef=u0∧a'.tmps[k1]?.getD undef=u1∧a'.tmps[k2]?.getD undef=u2∧a'.tmps[k3]?.getD undef=u3∧a'.tmps[k4]?.getD undef=u4:=⟨po h h0 d0,po h h1 d1,po h h2 d2,po h h3 d3,po h h4 d4⟩
theorem p6 (h:Hid (a'=a.put (some d) v)) (h0:a.tmps[k0]?.getD undef=u0) (h1:a.tmps[k1]?.getD undef=u1) (h2:a.tmps[k2]?.getD undef=u2) (h3:a.tmps[k3]?.getD undef=u3) (h4:a.tmps[k4]?.getD undef=u4) (h5:a.tmps[k5]?.getD undef=u5) (d0:d≠k0:=by decide) (d1:d≠k1:=by decide) (d2:d≠k2:=by decide) (d3:d≠k3:=by decide) (d4:d≠k4:=by decide) (d5:d≠k5:=by decide):a'.tmps[k0]?.getD undef=u0∧a'.tmps[k1]?.getD undef=u1∧a'.tmps[k2]?.getD undef=u2∧a'.tmps[k3]?.getD undef=u3∧a'.tmps[k4]?.getD undef=u4∧a'.tmps[k5]?.getD undef=u5:=⟨po h h0 d0,po h h1 d1,po h h2 d2,po h h3 d3,po h h4 d4,po h h5 d5⟩
end Go.Proofs.YthdkamnclbfehaaGreatDoor
namespace Go.Proofs.YthdkamnclbfehaaGreatDoor
open Go.RowKit
def Win (w:World) (base:Nat) (e:TypeId) (size:Nat) (v:Value) (n:Nat) (xs:List Value):Prop:=
  xs.length=n * size∧((v = .slice none 0 0∧n=0)∨∃ g o cap cur,v = .slice (some ⟨g,o,none⟩) n cap∧base≤g∧w.heap[g]?=some (.cells cur e (0,0))∧n≤cap∧cap≤maxLen∧o+cap * size≤cur.size∧(cur.toList.drop o).take (n * size)=xs)
theorem Win.nil (w:World) (base:Nat) (e:TypeId) (size:Nat):Win w base e size (.slice none 0 0) 0 []:=⟨by simp,.inl ⟨rfl,rfl⟩⟩
theorem Win.keep {S:Nat→Prop} {w w':World} {base:Nat} {e:TypeId} {size:Nat} {v:Value} {n:Nat} {xs:List Value} (h:Win w base e size v n xs) (k:Keep S w w') (hS:∀ b,v.ownBlock=some b→¬ S b):Win w' base e size v n xs:=by
 refine ⟨h.1,?_⟩;rcases h.2 with hn | ⟨g,o,A,cur,rfl,hb,hg,rest⟩
 ·exact .inl hn
 ·exact .inr ⟨g,o,A,cur,rfl,hb,(k.block g (Array.getElem?_eq_some_iff.1 hg).1 (hS g rfl)).trans hg,rest⟩
theorem Win.lt {w:World} {base:Nat} {e:TypeId} {size:Nat} {v:Value} {n:Nat} {xs:List Value} (h:Win w base e size v n xs):∀ g,v.ownBlock=some g→base≤g∧g < w.heap.size:=by
 intro g hg;rcases h.2 with ⟨rfl,_⟩ | ⟨g',o,A,cur,rfl,hb,hh,_⟩
 ·cases hg
 ·cases hg;exact ⟨hb,(Array.getElem?_eq_some_iff.1 hh).1⟩
theorem Win.ofRow {w:World} {base:Nat} {e:TypeId} {size:Nat} {v:Value} {n:Nat} {xs:List Value} (h:w.ownsRow base e size v n xs):Win w base e size v n xs:=by
 refine ⟨h.1,?_⟩;rcases h.2 with hn | ⟨g,A,cur,rfl,hb,hg,G,C,J,ht⟩
 ·exact .inl hn
 ·exact .inr ⟨g,0,A,cur,rfl,hb,hg,G,C,by omega,by simpa using ht⟩
theorem Win.cell {w:World} {base:Nat} {e:TypeId} {size:Nat} {g o n cap:Nat} {xs:List Value} (h:Win w base e size (.slice (some ⟨g,o,none⟩) n cap) n xs) {j:Nat} {u:Value} (hu:xs[j]?=some u):w.cell? ⟨g,o+j,none⟩=some u:=by
 rcases h.2 with ⟨hv,_⟩ | ⟨g',o',A,cur,hv,hb,hg,J,C,G,ht⟩
 ·cases hv
 ·cases hv;rw [cell_of_row w g (o+j) cur e (0,0) hg];rw [← ht,List.getElem?_take] at hu;split at hu
  ·rw [List.getElem?_drop] at hu;simpa using hu
  ·cases hu
theorem Win.shape {w:World} {base:Nat} {e:TypeId} {size:Nat} {v:Value} {n:Nat} {xs:List Value} (h:Win w base e size v n xs):(v = .slice none 0 0∧n=0)∨∃ g o cap,v = .slice (some ⟨g,o,none⟩) n cap∧n≤cap∧cap≤maxLen:=by
 rcases h.2 with hn | ⟨g,o,cap,cur,rfl,hb,hg,C,A,_⟩
 ·exact .inl hn
 ·exact .inr ⟨g,o,cap,rfl,C,A⟩
theorem Win.tail {w:World} {base:Nat} {e:TypeId} {size:Nat} {g o n cap:Nat} {xs:List Value} (h:Win w base e size (.slice (some ⟨g,o,none⟩) (n+1) cap) (n+1) xs):Win w base e size (.slice (some ⟨g,o+size,none⟩) n (cap - 1)) n (xs.drop size):=by
 refine ⟨by rw [List.length_drop,h.1,Nat.add_mul];omega,.inr ?_⟩;rcases h.2 with ⟨hv,_⟩ | ⟨g',o',A,cur,hv,hb,hg,J,C,G,ht⟩
 ·cases hv
 ·cases hv;refine ⟨g,o+size,cap - 1,cur,rfl,hb,hg,by omega,by omega,?_,?_⟩
  ·have:cap * size=(cap - 1) * size+size:=by
    conv=>lhs;rw [show cap=(cap - 1)+1 by omega]
    rw [Nat.add_mul,Nat.one_mul]
   omega
  ·rw [← ht,List.drop_take,List.drop_drop];congr 1;rw [Nat.add_mul];omega
structure AppW (w:World) (base:Nat) (e:TypeId) (size:Nat) (v:Value) (n:Nat) (xs:List Value) (m:Nat) (news:List Value) (v':Value) (w':World):Prop where
  own:Win w' base e size v' (n+m) (xs++news)
  keep:Keep (fun k=>v.ownBlock=some k) w w'
  fresh:v'.ownBlock=v.ownBlock∨∃ g,v'.ownBlock=some g∧w.heap.size≤g
theorem run_win {P:Program} (w:World) (base:Nat) (t tx ty e:TypeId) (i:TypeInfo) (z:Value) (size bytes:Nat) (ht:P.underlying t=some (.slice e)) (hi:P.info? e=some i) (hz:i.zero=some z) (hsize:i.size=size) (hby:i.bytes=bytes) (hzs:z.cells.size=size) (v:Value) (n:Nat) (xs:List Value) (hown:Win w base e size v n xs) (x:Value) (m:Nat) (news:List Value) (hs:Src P size tx x m news w) (h63:n+m≤maxLen) (hbytes:(n+m) * bytes≤140737488355328) (hbase:base≤w.heap.size):∃ v' w',(Builtin.append_ #[t,tx] ty #[v,x]).run P w = .ok v' w'∧AppW w base e size v n xs m news v' w':=by
 subst hsize;subst hby;have U:n+m≤9223372036854775807:=(by simp only [maxLen] at h63;omega);have hl:=hs.newsLen;have A:(xs++news).length=(n+m) * i.size:=(by rw [List.length_append,hown.1,hl,Nat.add_mul]);rcases hown.2 with ⟨rfl,rfl⟩ | ⟨g,o,G,cur,rfl,W,hg,ae,Y,ac,M⟩
 ·have hx:xs=[]:=List.eq_nil_of_length_eq_zero (by simpa using hown.1);subst hx;obtain ⟨v',w',hr,J⟩:=run_app (P:=P) w base t tx ty e i z i.size i.bytes ht hi hz rfl rfl hzs (.slice none 0 0) 0 [] (World.ownsRow_nil w base e i.size) x m news hs h63 hbytes hbase;exact ⟨v',w',hr,⟨Win.ofRow J.own,J.keep,J.fresh⟩⟩
 ·by_cases C:n+m≤G
  ·have X:(n+m) * i.size≤G * i.size:=Nat.mul_le_mul_right _ C;have R:o+n * i.size+news.length≤cur.size:=(by rw [hl];rw [Nat.add_mul] at X;omega);have hst:=run_storeCells_at P g (o+n * i.size) e news 0 cur w hg (by simpa using R) hs.one;simp only [Nat.add_zero] at hst
   have hr:(Builtin.append_ #[t,tx] ty #[.slice (some ⟨g,o,none⟩) n G,x]).run P w =
       .ok (.slice (some ⟨g,o,none⟩) (n+m) G) (w.setRow g (cur.toList.take (o+n * i.size)++news++cur.toList.drop (o+n * i.size+news.length)).toArray):=by
     have hc:=hs.cells
     rcases hs.kind with ⟨e',hk⟩ | hk <;> simp [Builtin.append_,run_underlying ht,run_underlying hk,sizeOf,typeInfo,hi,hs.len,C,hc,Addr.add_lit,hst]
   have aa:o+n * i.size≤cur.toList.length:=(by simp only [Array.length_toList];omega);refine ⟨_,_,hr,⟨⟨A,.inr ⟨g,o,G,_,rfl,W,setRow_heap w g cur _ e _ hg,C,Y,?_,?_⟩⟩,⟨rfl,rfl,rfl,by simp,fun k _ hk=>setRow_other w g k _ (fun e=>hk (by simp [Value.ownBlock,e]))⟩,.inl rfl⟩⟩
   ·simp only [List.size_toArray,List.length_append,List.length_take,List.length_drop,Array.length_toList];omega
   ·show (List.drop o _).take _=_;rw [List.append_assoc,List.drop_append,List.length_take,Nat.min_eq_left aa,show o - (o+n * i.size)=0 by omega,List.drop_zero,List.drop_take,show o+n * i.size - o=n * i.size by omega,M,← List.append_assoc,← A];exact List.take_left
  ·have holds:∀ j u,xs[j]?=some u→w.cell? ((⟨g,o,none⟩:Addr).add j)=some u:=fun j u hu=>(by rw [Addr.add_lit];exact hown.cell hu);have hr:=run_append_grow_src (P:=P) w t tx ty e i z ht hi hz (some ⟨g,o,none⟩) n G xs (run_firstCells_some w.drew _ _ _ _ _ xs hown.1 (by simpa using holds)) x m news hs (by omega) (by omega) (growslice_fits (by omega) hbytes);have Z:=grownCap_ge w (n+m) G e;have O:grownCap w (n+m) G e≤maxLen:=grownCap_le_maxLen w (n+m) G e h63;have ad:w.heap.size=w.drew.heap.size:=rfl;refine ⟨_,_,hr,⟨Win.ofRow ⟨A,.inr ⟨w.heap.size,_,_,rfl,hbase,heap_alloc_new w.drew _,Z,O,?_,?_⟩⟩,((Keep.refl _ w).drew).alloc _,.inr ⟨_,rfl,Nat.le_refl _⟩⟩⟩
   ·simp only [Array.size_append,List.size_toArray,size_zeroCells,hzs,A,← Nat.add_mul];congr 1;omega
   ·simp only [Array.toList_append,List.append_assoc];rw [← List.append_assoc,← A];exact List.take_left
theorem oper_win {P:Program} {w:World} {o:Oper} {a:Act} {K:Act→World→Prop} {Q:Exit→Act→World→Prop} (s x:Operand) (t tx:TypeId)
    (ho:o.op = .call {callee:=.builtin .append,args:=#[s,x],argTypes:=#[t,tx]})
    (e:TypeId) (z:Value) (size bytes:Nat) (ht:P.underlying t=some (.slice e)) (hinfo:(P.info? e).map (fun i=>(i.zero,i.size,i.bytes))=some (some z,size,bytes)) (hzs:z.cells.size=size)
    {base:Nat} {v:Value} {n:Nat} {xs:List Value} (hown:Win w base e size v n xs) (hs:a.eval s=v)
    {xv:Value} {m:Nat} {news:List Value} (hsrc:Src P size tx xv m news w) (hx:a.eval x=xv)
    (h63:n+m≤maxLen) (hbytes:(n+m) * bytes≤140737488355328) (hbase:base≤w.heap.size)
    (h:∀ v' w',AppW w base e size v n xs m news v' w'→K (a.put o.dst v') w'):Oper.wp P o a w K Q:=by
  obtain ⟨i,hi,hz,A,G⟩:=info_parts hinfo
  obtain ⟨v',w',hr,C⟩:=run_win (P:=P) w base t tx o.type e i z size bytes ht hi hz A G hzs v n xs hown xv m news hsrc h63 hbytes hbase
  unfold Oper.wp execOp
  simp only [ho,resolve,invoke,builtin,Sem.run_bind,Sem.run_pure,Result.andThen_ok,List.map_toArray,List.map_cons,List.map_nil,hs,hx,hr]
  exact h _ _ C
theorem wpList_win {P:Program} {w:World} {ops:Array Oper} {rest:List Oper} {o:Oper} {a:Act} {Q:Exit→Act→World→Prop} (hgd:o.guard=none) (s x:Operand) (t tx:TypeId)
    (ho:o.op = .call {callee:=.builtin .append,args:=#[s,x],argTypes:=#[t,tx]})
    (e:TypeId) (z:Value) (size bytes:Nat) (ht:P.underlying t=some (.slice e)) (hinfo:(P.info? e).map (fun i=>(i.zero,i.size,i.bytes))=some (some z,size,bytes)) (hzs:z.cells.size=size)
    {base:Nat} {v:Value} {n:Nat} {xs:List Value} (hown:Win w base e size v n xs) (hs:a.eval s=v)
    {xv:Value} {m:Nat} {news:List Value} (hsrc:Src P size tx xv m news w) (hx:a.eval x=xv)
    (h63:n+m≤maxLen) (hbytes:(n+m) * bytes≤140737488355328) (hbase:base≤w.heap.size)
    (h:∀ v' w',AppW w base e size v n xs m news v' w'→wpList P ops Q rest (a.put o.dst v') w'):wpList P ops Q (o::rest) a w:=by
  refine wpList_plain hgd fun K hK=>?_
  obtain ⟨i,hi,hz,A,G⟩:=info_parts hinfo
  obtain ⟨v',w',hr,C⟩:=run_win (P:=P) w base t tx o.type e i z size bytes ht hi hz A G hzs v n xs hown xv m news hsrc h63 hbytes hbase
  unfold Oper.wp execOp
  simp only [ho,resolve,invoke,builtin,Sem.run_bind,Sem.run_pure,Result.andThen_ok,List.map_toArray,List.map_cons,List.map_nil,hs,hx,hr]
  exact hK _ _ (h v' w' C)
end Go.Proofs.YthdkamnclbfehaaGreatDoor
